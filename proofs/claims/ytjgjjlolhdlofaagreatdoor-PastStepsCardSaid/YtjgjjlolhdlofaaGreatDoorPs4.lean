/-
  Texts on which the claim rests, one behind the other: Rft2 Rft3 Rop1 Edm1 Vec1 Vec2 Rru1 His1 Lst2.
-/
import Derived.Test.YtjgjjlolhdlofaaGreatDoorPs3
import Derived.Deep.Upon

set_option linter.unusedSimpArgs false
set_option linter.unusedVariables false

namespace Go.Proofs.YtjgjjlolhdlofaaGreatDoor
open Go.RowKit Go.Mine

theorem bt_eq (s : ByteArray) (i : Nat) (h : i < s.size) : (s[i]'h).toNat = bt s i := by
  unfold bt
  have e : s.get! i = s.data[i]! := rfl
  rw [e, getElem!_def]
  have hs : i < s.data.size := h
  rw [Array.getElem?_eq_getElem hs]
  rfl
theorem ba_inj {a b : ByteArray} (h : a.toList = b.toList) : a = b := by
  rw [ByteArray.toList_eq, ByteArray.toList_eq] at h
  exact ByteArray.ext (Array.ext' h)
theorem isR_valid (x : Nat) : isR x ↔ Lib.validRune (x : Int) = true := by
  unfold isR Lib.validRune
  rw [decide_eq_true_eq]
  omega
theorem encR_u8 (x : Nat) (h : isR x) : ∀ y ∈ encR x, y < 256 := by
  intro y hy
  unfold isR at h
  unfold encR at hy
  repeat' split at hy
  all_goals simp only [List.mem_cons, List.not_mem_nil, or_false] at hy
  all_goals omega
theorem encCs_at (x : Nat) (h : ∀ y ∈ encR x, y < 256) (j : Nat) (hj : j < ((encR x).map UInt8.ofNat).length) : (encCs x)[j]? = some (.int .u8 ((((encR x).map UInt8.ofNat)[j]'hj).toNat : Int)) := by
  have hj' : j < (encR x).length := by simpa using hj
  have := h _ (List.getElem_mem hj')
  unfold encCs
  rw [List.getElem?_map, List.getElem?_eq_getElem hj', List.getElem_map]
  simp only [Option.map_some, Option.some.injEq, Value.int.injEq, true_and]
  rw [UInt8.toNat_ofNat']
  omega
theorem bytes_eq (s : ByteArray) (n : Nat) (hn : n ≤ s.size) (l : List Nat) (h : ∀ y ∈ l, y < 256) : (⟨(l.map UInt8.ofNat).toArray⟩ : ByteArray) = s.extract 0 n ↔ l = (List.range n).map (bt s) := by
  rw [extract_bytes s n hn]
  constructor
  · intro e
    have e2 : l.map UInt8.ofNat = (List.range n).map fun i => s.get! i := by simpa using e
    apply List.ext_getElem?
    intro i
    have e3 := congrArg (fun z : List UInt8 => z[i]?) e2
    simp only [List.getElem?_map] at e3 ⊢
    cases hx : l[i]? with
    | none =>
      rw [hx] at e3
      cases hr : (List.range n)[i]? with
      | none => rfl
      | some j => rw [hr] at e3; cases e3
    | some x =>
      rw [hx] at e3
      cases hr : (List.range n)[i]? with
      | none => rw [hr] at e3; cases e3
      | some j =>
        rw [hr] at e3
        simp only [Option.map_some, Option.some.injEq] at e3 ⊢
        unfold bt
        rw [← e3, UInt8.toNat_ofNat']
        have := h x (List.mem_of_getElem? hx)
        omega
  · rintro rfl
    have e2 : ((List.range n).map (bt s)).map UInt8.ofNat = (List.range n).map fun i => s.get! i := by
      rw [List.map_map]
      apply List.map_congr_left
      intro i _
      simp [bt]
    rw [e2]

set_option maxHeartbeats 8000000 in
set_option maxRecDepth 1000000 in
theorem rfirst_any (s : ByteArray) (w : World) (h0 : s.size ≠ 0) (hsz : s.size < 4611686018427387904) :
    Calls Tryz.prog 88 #[.string s] w fun e w' => e = .returned (.tuple #[.int .i32 ((firstR s).1 : Int), .int .i64 ((firstR s).2 : Int)]) ∧ Mod none_ w w' := by
  obtain ⟨R, hR⟩ : ∃ R, R = firstR s := ⟨_, rfl⟩
  rw [← hR]
  have HR := Lib.hid hR
  clear hR
  have hpos : 0 < s.size := by omega
  have H0 := Lib.hid h0
  obtain ⟨b, hb⟩ : ∃ b, (s[0]'hpos).toNat = b := ⟨_, rfl⟩
  have HB := Lib.hid (show bt s 0 = b by rw [← bt_eq s 0 hpos, hb])
  have hb256 : b < 256 := by rw [← HB.out]; exact bt_lt s 0
  cases hl : lead b with
  | none =>
    have HE := Lib.hid (show R = (0, 0) by rw [HR.out, firstR_none h0 (by rw [HB.out]; exact hl)])
    have hbb : (128 ≤ b ∧ b < 192) ∨ 248 ≤ b := lead_none hl
    clear hl
    go_enter Tryz.func88, Tryz.ntmps88
    rcases hbb with hbb | hbb
    · have d1 : decide (192 ≤ (b : Int)) = false := by simp; omega
      have d2 : decide (224 ≤ (b : Int)) = false := by simp; omega
      have d3 : decide (240 ≤ (b : Int)) = false := by simp; omega
      have d4 : decide (128 ≤ (b : Int)) = true := by simp; omega
      go_wp2_with fail
      go_ret2
      exact ⟨by rw [HE.out]; rfl, Mod.refl _ _⟩
    · have d1 : decide (192 ≤ (b : Int)) = true := by simp; omega
      have d2 : decide (224 ≤ (b : Int)) = true := by simp; omega
      have d3 : decide (240 ≤ (b : Int)) = true := by simp; omega
      have d4 : decide (128 ≤ (b : Int)) = true := by simp; omega
      have d5 : decide ((b : Int) < 224) = false := by simp; omega
      have d6 : decide ((b : Int) < 240) = false := by simp; omega
      have d7 : decide ((b : Int) < 248) = false := by simp; omega
      go_wp2_with fail
      go_ret2
      exact ⟨by rw [HE.out]; rfl, Mod.refl _ _⟩
  | some p =>
    obtain ⟨n, x0⟩ := p
    have hcs := lead_some hl
    have HL := Lib.hid (show lead (bt s 0) = some (n, x0) by rw [HB.out]; exact hl)
    clear hl
    go_enter Tryz.func88, Tryz.ntmps88
    rcases hcs with ⟨hn, hx, hb0⟩ | hcs
    · have hL := HL.out
      subst hn
      have HXA := Lib.hid (show R = if isR b ∧ encR b = (List.range 1).map (bt s) then (b, 1) else (0, 0) by
        have := firstR_all h0 hL (by omega) (fun j h1 h2 => by omega)
        rw [HR.out, this]
        show (if isR x0 ∧ encR x0 = (List.range 1).map (bt s) then (x0, 1) else (0, 0)) = _
        rw [hx])
      clear hL hx HL
      have d1 : decide (192 ≤ (b : Int)) = false := by simp; omega
      have d2 : decide (224 ≤ (b : Int)) = false := by simp; omega
      have d3 : decide (240 ≤ (b : Int)) = false := by simp; omega
      have d4 : decide (128 ≤ (b : Int)) = false := by simp; omega
      have d5 : decide ((s.size : Int) < 1) = false := by simp; omega
      have hn4 : 1 ≤ s.size := by omega
      have hX : b < 100000000 := by omega
      obtain ⟨XX, hXX⟩ : ∃ XX, b = XX := ⟨_, rfl⟩
      subst hXX
      obtain ⟨XX, hXX⟩ : ∃ XX, XX = b := ⟨_, rfl⟩
      go_wp2_with fail
      go_loopg [4, 6] 0 (fun g s4 s6 wx => g = 0 ∧ s4 = .int .i64 b ∧ s6 = .int .i64 1 ∧ wx = w)
      case atStart => exact ⟨rfl, rfl, rfl, rfl⟩
      case round =>
        obtain ⟨rfl, rfl, rfl, rfl⟩ := hrel
        go_upto_region 22 with fail
        rw [← hXX]
        rw [← hXX] at HXA hX
        clear hXX hb hb0 d1 d2 d3 d4 d5 HB hb256
        obtain ⟨WW, rfl⟩ : ∃ WW, WW = wr := ⟨_, rfl⟩
        have hbn : ¬ ((s.size : Int) < 1) := by omega
        have hw32 : IntKind.i32.wrap (XX : Int) = XX := by rw [IntKind.wrap_i32]; omega
        cases hv : Lib.validRune (XX : Int)
        · have HE := Lib.hid (show R = (0, 0) by rw [HXA.out, if_neg (fun e => by have := (isR_valid XX).1 e.1; rw [hv] at this; cases this)])
          clear HXA
          refine wp_region_held_drew (S := fun w' => Mine.Mod none_ WW w') (by kernel_rfl) (Mine.Mod.drew (Mine.Mod.refl none_ WW)) (fun hS => ?_)
          refine wpAnyH_take (i := 0) (v := .int .i64 (XX : Int)) rfl (by kernel_rfl) (by kernel_rfl) (by kernel_rfl) (fun _ _ _ h => h) (Or.inl ⟨by kernel_rfl, ?_⟩) hS ?_
          · rintro w' _; go_simp
          try simp only [Act.put, List.setIfInBounds_toArray]
          refine wpAnyH_take (i := 1) (v := .int .i32 (XX : Int)) rfl (by kernel_rfl) (by kernel_rfl) (by kernel_rfl) (fun _ _ _ h => h) (Or.inl ⟨by kernel_rfl, ?_⟩) hS ?_
          · rintro w' _; go_simp
          try simp only [Act.put]
          refine wpAnyH_ready (rs := [2]) (by kernel_rfl) (by simp) (AllReadyH.cons rfl (fun K hK => ?_) <| AllReadyH.nil)
          go_simp
          refine (ris_any (XX : Int) _).mono ?_
          rintro e w1 ⟨rfl, rfl⟩
          rw [hv]
          refine hK.out _ _ hS (fun hS => ?_)
          clear hK K
          try simp only [Act.put, List.setIfInBounds_toArray, List.set_cons_zero, List.set_cons_succ]
          refine wpAnyH_take (i := 3) (v := .bool true) rfl (by kernel_rfl) (by kernel_rfl) (by kernel_rfl) (fun _ _ _ h => h) (Or.inl ⟨by kernel_rfl, ?_⟩) hS ?_
          · rintro w' _; go_simp
          try simp only [Act.put, List.setIfInBounds_toArray]
          refine wpAnyH_take (i := 4) (v := .bool true) rfl (by kernel_rfl) (by kernel_rfl) (by kernel_rfl) (fun _ _ _ h => h) (Or.inl ⟨by kernel_rfl, ?_⟩) hS ?_
          · rintro w' _; go_simp
          try simp only [Act.put]
          refine wpAnyH_take (i := 5) (v := undef) rfl (by kernel_rfl) (by kernel_rfl) (by kernel_rfl) (fun _ _ _ h => h) (Or.inr ⟨by kernel_rfl, rfl⟩) hS ?_
          try simp only [Act.put]
          refine wpAnyH_take (i := 6) (v := undef) rfl (by kernel_rfl) (by kernel_rfl) (by kernel_rfl) (fun _ _ _ h => h) (Or.inr ⟨by kernel_rfl, rfl⟩) hS ?_
          try simp only [Act.put]
          refine wpAnyH_take (i := 7) (v := undef) rfl (by kernel_rfl) (by kernel_rfl) (by kernel_rfl) (fun _ _ _ h => h) (Or.inr ⟨by kernel_rfl, rfl⟩) hS ?_
          try simp only [Act.put]
          refine wpAnyH_take (i := 8) (v := undef) rfl (by kernel_rfl) (by kernel_rfl) (by kernel_rfl) (fun _ _ _ h => h) (Or.inr ⟨by kernel_rfl, rfl⟩) hS ?_
          try simp only [Act.put]
          refine wpAnyH_take (i := 9) (v := undef) rfl (by kernel_rfl) (by kernel_rfl) (by kernel_rfl) (fun _ _ _ h => h) (Or.inr ⟨by kernel_rfl, rfl⟩) hS ?_
          try simp only [Act.put]
          refine wpAnyH_take (i := 10) (v := undef) rfl (by kernel_rfl) (by kernel_rfl) (by kernel_rfl) (fun _ _ _ h => h) (Or.inr ⟨by kernel_rfl, rfl⟩) hS ?_
          try simp only [Act.put]
          refine wpAnyH_take (i := 11) (v := undef) rfl (by kernel_rfl) (by kernel_rfl) (by kernel_rfl) (fun _ _ _ h => h) (Or.inr ⟨by kernel_rfl, rfl⟩) hS ?_
          try simp only [Act.put]
          refine wpAnyH_take (i := 12) (v := undef) rfl (by kernel_rfl) (by kernel_rfl) (by kernel_rfl) (fun _ _ _ h => h) (Or.inr ⟨by kernel_rfl, rfl⟩) hS ?_
          try simp only [Act.put]
          refine wpAnyH_take (i := 13) (v := .bool true) rfl (by kernel_rfl) (by kernel_rfl) (by kernel_rfl) (fun _ _ _ h => h) (Or.inl ⟨by kernel_rfl, ?_⟩) hS ?_
          · rintro w' _; go_simp
          try simp only [Act.put]
          refine wpAnyH_done (by kernel_rfl) ?_ _
          try simp only [List.getElem_toArray, List.getElem_cons_succ, List.getElem_cons_zero]
          try simp only [List.setIfInBounds_toArray, List.set_cons_zero, List.set_cons_succ]
          have MF := Lib.hid hS
          clear hS
          go_wp2_with fail
          go_ret2
          exact ⟨by rw [HE.out]; rfl, MF.out⟩
        · have hXr : isR XX := (isR_valid XX).2 hv
          have HB8 := Lib.hid (encR_u8 XX hXr)
          obtain ⟨A, hA⟩ : ∃ A : ByteArray, A = ⟨((encR XX).map UInt8.ofNat).toArray⟩ := ⟨_, rfl⟩
          have HAE := Lib.hid (show A = s.extract 0 1 ↔ encR XX = (List.range 1).map (bt s) from by rw [hA]; exact bytes_eq s 1 hn4 _ (fun x hx => HB8.out x hx))
          have HA := Lib.hid hA
          have hX2 : XX ≤ 1114111 := hXr.1
          clear hA
          refine wp_region_held_drew (S := fun w' => Mine.Mod none_ WW w') (by kernel_rfl) (Mine.Mod.drew (Mine.Mod.refl none_ WW)) (fun hS => ?_)
          refine wpAnyH_take (i := 0) (v := .int .i64 (XX : Int)) rfl (by kernel_rfl) (by kernel_rfl) (by kernel_rfl) (fun _ _ _ h => h) (Or.inl ⟨by kernel_rfl, ?_⟩) hS ?_
          · rintro w' _; go_simp
          try simp only [Act.put, List.setIfInBounds_toArray]
          refine wpAnyH_take (i := 1) (v := .int .i32 (XX : Int)) rfl (by kernel_rfl) (by kernel_rfl) (by kernel_rfl) (fun _ _ _ h => h) (Or.inl ⟨by kernel_rfl, ?_⟩) hS ?_
          · rintro w' _; go_simp
          try simp only [Act.put]
          refine wpAnyH_ready (rs := [2]) (by kernel_rfl) (by simp) (AllReadyH.cons rfl (fun K hK => ?_) <| AllReadyH.nil)
          go_simp
          refine (ris_any (XX : Int) _).mono ?_
          rintro e w1 ⟨rfl, rfl⟩
          rw [hv]
          refine hK.out _ _ hS (fun hS => ?_)
          clear hK K
          try simp only [Act.put, List.setIfInBounds_toArray, List.set_cons_zero, List.set_cons_succ]
          refine wpAnyH_take (i := 3) (v := .bool false) rfl (by kernel_rfl) (by kernel_rfl) (by kernel_rfl) (fun _ _ _ h => h) (Or.inl ⟨by kernel_rfl, ?_⟩) hS ?_
          · rintro w' _; go_simp
          try simp only [Act.put, List.setIfInBounds_toArray]
          refine wpAnyH_take (i := 4) (v := .bool false) rfl (by kernel_rfl) (by kernel_rfl) (by kernel_rfl) (fun _ _ _ h => h) (Or.inl ⟨by kernel_rfl, ?_⟩) hS ?_
          · rintro w' _; go_simp
          try simp only [Act.put]
          refine wpAnyH_take (i := 5) (v := .int .i64 (XX : Int)) rfl (by kernel_rfl) (by kernel_rfl) (by kernel_rfl) (fun _ _ _ h => h) (Or.inl ⟨by kernel_rfl, ?_⟩) hS ?_
          · rintro w' _; go_simp
          try simp only [Act.put]
          refine wpAnyH_take (i := 6) (v := .int .i32 (XX : Int)) rfl (by kernel_rfl) (by kernel_rfl) (by kernel_rfl) (fun _ _ _ h => h) (Or.inl ⟨by kernel_rfl, ?_⟩) hS ?_
          · rintro w' _; go_simp
          try simp only [Act.put]
          refine wpAnyH_take (i := 9) (v := .string s) rfl (by kernel_rfl) (by kernel_rfl) (by kernel_rfl) (fun _ _ _ h => h) (Or.inl ⟨by kernel_rfl, ?_⟩) hS ?_
          · rintro w' _; go_simp
          try simp only [Act.put]
          refine wpAnyH_take (i := 10) (v := .int .i64 (1 : Int)) rfl (by kernel_rfl) (by kernel_rfl) (by kernel_rfl) (fun _ _ _ h => h) (Or.inl ⟨by kernel_rfl, ?_⟩) hS ?_
          · rintro w' _; go_simp
          try simp only [Act.put]
          refine wpAnyH_take (i := 11) (v := .string (s.extract 0 1)) rfl (by kernel_rfl) (by kernel_rfl) (by kernel_rfl) (fun _ _ _ h => h) (Or.inl ⟨by kernel_rfl, ?_⟩) hS ?_
          · rintro w' _; go_simp <;> (intro h; exact absurd h hbn)
          try simp only [Act.put]
          refine wpAnyH_ready (rs := [7]) (by kernel_rfl) (by simp) (AllReadyH.cons rfl (fun K hK => ?_) <| AllReadyH.nil)
          rw [if_pos (by kernel_rfl)]
          go_simp
          refine (rbytes_any XX _ hX2).mono ?_
          rintro e w2 ⟨⟨g, rfl, hgw, kg⟩, m2⟩
          have hcv : (convert 89 9 (.slice (some ⟨g, 0, none⟩) (encR XX).length (encR XX).length)).run Tryz.prog w2 = .ok (.string A) w2 := by
            have hl : ((encR XX).map UInt8.ofNat).length = (encR XX).length := List.length_map ..
            rw [HA.out, ← hl]
            refine run_convert_bytes_back w2 _ _ _ ⟨g, 0, none⟩ _ ((encR XX).map UInt8.ofNat) Tryz.underlying89 Tryz.underlying5 Tryz.underlying9 (fun j hj => ?_)
            have ea : (⟨g, 0, none⟩ : Addr).add j = ⟨g, j, none⟩ := by rw [Addr.add_lit, Nat.zero_add]
            rw [ea, kg.cell]
            exact encCs_at XX HB8.out j hj
          have HCV := Lib.hid hcv
          clear hcv kg hgw
          obtain ⟨nb, hnb⟩ : ∃ nb, nb = (encR XX).length := ⟨_, rfl⟩
          rw [← hnb] at HCV ⊢
          clear hnb
          refine hK.out _ _ (hS.trans m2) (fun hS => ?_)
          clear hK K m2
          try simp only [Act.put, List.setIfInBounds_toArray, List.set_cons_zero, List.set_cons_succ]
          have hcv := HCV.out
          refine wpAnyH_ready (rs := [8]) (by kernel_rfl) (by simp) (AllReadyH.cons rfl (fun K hK => ?_) <| AllReadyH.nil)
          rw [if_pos (by kernel_rfl)]
          go_simp
          refine hK.out _ _ hS (fun hS => ?_)
          clear hK K hcv HCV
          try simp only [Act.put, List.setIfInBounds_toArray, List.set_cons_zero, List.set_cons_succ]
          have MF := Lib.hid hS
          by_cases hq : A = s.extract 0 1
          · have HE := Lib.hid (show R = (XX, 1) by rw [HXA.out, if_pos ⟨hXr, HAE.out.1 hq⟩])
            have hqb : A.toList = (s.extract 0 1).toList := by rw [hq]
            clear HXA HAE HA hq
            refine wpAnyH_take (i := 12) (v := .bool false) rfl (by kernel_rfl) (by kernel_rfl) (by kernel_rfl) (fun _ _ _ h => h) (Or.inl ⟨by kernel_rfl, ?_⟩) hS ?_
            · rintro w' _; go_simp
            try simp only [Act.put, List.setIfInBounds_toArray]
            refine wpAnyH_take (i := 13) (v := .bool false) rfl (by kernel_rfl) (by kernel_rfl) (by kernel_rfl) (fun _ _ _ h => h) (Or.inl ⟨by kernel_rfl, ?_⟩) hS ?_
            · rintro w' _; go_simp
            try simp only [Act.put]
            refine wpAnyH_done (by kernel_rfl) ?_ _
            try simp only [List.getElem_toArray, List.getElem_cons_succ, List.getElem_cons_zero]
            try simp only [List.setIfInBounds_toArray, List.set_cons_zero, List.set_cons_succ]
            clear hS
            go_wp2_with fail
            go_ret2
            exact ⟨by rw [HE.out]; rfl, MF.out⟩
          · have HE := Lib.hid (show R = (0, 0) by rw [HXA.out, if_neg (fun e => hq (HAE.out.2 e.2))])
            have hqb : ¬ A.toList = (s.extract 0 1).toList := fun e => hq (ba_inj e)
            clear HXA HAE HA hq
            refine wpAnyH_take (i := 12) (v := .bool true) rfl (by kernel_rfl) (by kernel_rfl) (by kernel_rfl) (fun _ _ _ h => h) (Or.inl ⟨by kernel_rfl, ?_⟩) hS ?_
            · rintro w' _; go_simp
            try simp only [Act.put, List.setIfInBounds_toArray]
            refine wpAnyH_take (i := 13) (v := .bool true) rfl (by kernel_rfl) (by kernel_rfl) (by kernel_rfl) (fun _ _ _ h => h) (Or.inl ⟨by kernel_rfl, ?_⟩) hS ?_
            · rintro w' _; go_simp
            try simp only [Act.put]
            refine wpAnyH_done (by kernel_rfl) ?_ _
            try simp only [List.getElem_toArray, List.getElem_cons_succ, List.getElem_cons_zero]
            try simp only [List.setIfInBounds_toArray, List.set_cons_zero, List.set_cons_succ]
            clear hS
            go_wp2_with fail
            go_ret2
            exact ⟨by rw [HE.out]; rfl, MF.out⟩
    · have hng : 2 ≤ n ∧ n ≤ 4 := by omega
      have hx128 : x0 < 128 := by omega
      have HN1 := Lib.hid hng
      by_cases hn4 : s.size < n
      · have HE := Lib.hid (show R = (0, 0) by rw [HR.out, firstR_short h0 HL.out hn4])
        clear HL hng
        rcases hcs with ⟨hn, hx, hb0⟩ | ⟨hn, hx, hb0⟩ | ⟨hn, hx, hb0⟩
        · have d1 : decide (192 ≤ (b : Int)) = true := by simp; omega
          have d2 : decide ((b : Int) < 224) = true := by simp; omega
          have d5 : decide ((s.size : Int) < 2) = true := by simp; omega
          clear hn hx
          go_wp2_with fail
          go_ret2
          exact ⟨by rw [HE.out]; rfl, Mod.refl _ _⟩
        · have d1 : decide (192 ≤ (b : Int)) = true := by simp; omega
          have d2 : decide ((b : Int) < 224) = false := by simp; omega
          have d3 : decide (224 ≤ (b : Int)) = true := by simp; omega
          have d4 : decide ((b : Int) < 240) = true := by simp; omega
          have d5 : decide ((s.size : Int) < 3) = true := by simp; omega
          clear hn hx
          go_wp2_with fail
          go_ret2
          exact ⟨by rw [HE.out]; rfl, Mod.refl _ _⟩
        · have d1 : decide (192 ≤ (b : Int)) = true := by simp; omega
          have d2 : decide ((b : Int) < 224) = false := by simp; omega
          have d3 : decide (224 ≤ (b : Int)) = true := by simp; omega
          have d4 : decide ((b : Int) < 240) = false := by simp; omega
          have d6 : decide (240 ≤ (b : Int)) = true := by simp; omega
          have d7 : decide ((b : Int) < 248) = true := by simp; omega
          have d5 : decide ((s.size : Int) < 4) = true := by simp; omega
          clear hn hx
          go_wp2_with fail
          go_ret2
          exact ⟨by rw [HE.out]; rfl, Mod.refl _ _⟩
      · have hn4 : n ≤ s.size := by omega
        have HX0 : RowKit.Hid ((x0 : Int) = if n = 2 then (b : Int) - 192 else if n = 3 then (b : Int) - 224 else (b : Int) - 240) := Lib.hid (by
          rcases hcs with ⟨hn, hx, hb0⟩ | ⟨hn, hx, hb0⟩ | ⟨hn, hx, hb0⟩
          · rw [if_pos hn]; omega
          · rw [if_neg (by omega), if_pos hn]; omega
          · rw [if_neg (by omega), if_neg (by omega)]; omega)
        have hcn : n = 2 ∧ 192 ≤ b ∧ b < 224 ∨ n = 3 ∧ 224 ≤ b ∧ b < 240 ∨ n = 4 ∧ 240 ≤ b ∧ b < 248 := by omega
        clear hcs hng
        rcases hcn with ⟨hn, hb0⟩ | ⟨hn, hb0⟩ | ⟨hn, hb0⟩
        · have d1 : decide (192 ≤ (b : Int)) = true := by simp; omega
          have d2 : decide ((b : Int) < 224) = true := by simp; omega
          have HXE := Lib.hid (show (b : Int) - 192 = x0 by rw [HX0.out, if_pos hn])
          have HNE := Lib.hid (show (2 : Int) = n by omega)
          clear hn HX0
          go_upto_region 14 with fail
          rw [HXE.out, HNE.out]
          clear HXE HNE d1 d2 hb hb0 HB hb256
          have d5 : decide ((s.size : Int) < (n : Int)) = false := by simp; omega
          go_wp2_with fail
          have hn1 : 1 ≤ n := by have := HN1.out; omega
          go_loopg [4, 6] (n - 1) (fun g s4 s6 wx => ∃ k : Nat, g = n - (k + 1) ∧ s4 = .int .i64 (accR s x0 k) ∧ s6 = .int .i64 ((k : Int) + 1) ∧ k + 1 ≤ n ∧ wx = w ∧ RowKit.Hid (∀ j, 1 ≤ j → j < k + 1 → contB (bt s j)))
          case atStart => exact ⟨0, rfl, rfl, rfl, by omega, rfl, Lib.hid (fun j h1 h2 => by omega)⟩
          case round =>
            obtain ⟨k, rfl, rfl, rfl, hk, rfl, hct⟩ := hrel
            have hak := accR_lt s x0 hx128 k (by have := HN1.out; omega)
            by_cases hlk : k + 1 < n
            · have hlt : k + 1 < s.size := by omega
              obtain ⟨c, hc⟩ : ∃ c, (s[k + 1]'hlt).toNat = c := ⟨_, rfl⟩
              have HC := Lib.hid (show bt s (k + 1) = c by rw [← bt_eq s (k + 1) hlt, hc])
              have hc256 : c < 256 := by rw [← HC.out]; exact bt_lt s (k + 1)
              have d6 : decide ((k : Int) + 1 < (n : Int)) = true := by simp; omega
              by_cases hc1 : c < 128
              · have HE := Lib.hid (show R = (0, 0) by rw [HR.out, firstR_cont H0.out HL.out (j := k + 1) (by omega) hlk (by rw [HC.out]; unfold contB; omega)])
                have e1 : decide ((c : Int) < 128) = true := by simp; omega
                clear HL
                go_wp2_with fail
                go_ret2
                exact ⟨by rw [HE.out]; rfl, Mod.refl _ _⟩
              · by_cases hc2 : 191 < c
                · have HE := Lib.hid (show R = (0, 0) by rw [HR.out, firstR_cont H0.out HL.out (j := k + 1) (by omega) hlk (by rw [HC.out]; unfold contB; omega)])
                  have e1 : decide ((c : Int) < 128) = false := by simp; omega
                  have e2 : decide (191 < (c : Int)) = true := by simp; omega
                  clear HL
                  go_wp2_with fail
                  go_ret2
                  exact ⟨by rw [HE.out]; rfl, Mod.refl _ _⟩
                · have e1 : decide ((c : Int) < 128) = false := by simp; omega
                  have e2 : decide (191 < (c : Int)) = false := by simp; omega
                  have HCT := Lib.hid (show ∀ j, 1 ≤ j → j < k + 1 + 1 → contB (bt s j) from fun j h1 h2 => by
                    by_cases hj : j = k + 1
                    · subst hj; rw [HC.out]; unfold contB; omega
                    · exact hct.out j h1 (by omega))
                  have HAC := Lib.hid (show ((accR s x0 (k + 1) : Nat) : Int) = 64 * (accR s x0 k : Int) + (c : Int) - 128 by
                    have : accR s x0 (k + 1) = 64 * accR s x0 k + bt s (k + 1) - 128 := rfl
                    rw [this, HC.out]; omega)
                  clear hct
                  go_wp2_with fail
                  go_roundg (n - (k + 1 + 1))
                  all_goals first
                    | omega
                    | exact ⟨k + 1, rfl, by rw [HAC.out], by go_num, by omega, rfl, HCT⟩
            · obtain rfl : n = k + 1 := by omega
              have HXA := Lib.hid (show R = if isR (accR s x0 k) ∧ encR (accR s x0 k) = (List.range (k + 1)).map (bt s) then (accR s x0 k, k + 1) else (0, 0) by
                rw [HR.out, firstR_all H0.out HL.out hn4 hct.out]; rfl)
              clear hct hlk HL
              go_upto_region 22 with fail
              obtain ⟨XX, hXX⟩ : ∃ XX, XX = accR s x0 k := ⟨_, rfl⟩
              rw [← hXX]
              rw [← hXX] at HXA hak
              have hX := hak
              clear hXX hak d5
              obtain ⟨WW, rfl⟩ : ∃ WW, WW = wr := ⟨_, rfl⟩
              have hbn : ¬ ((0 ≤ (k : Int) + 1 → (s.size : Int) < (k : Int) + 1)) := by omega
              have hw32 : IntKind.i32.wrap (XX : Int) = XX := by rw [IntKind.wrap_i32]; omega
              cases hv : Lib.validRune (XX : Int)
              · have HE := Lib.hid (show R = (0, 0) by rw [HXA.out, if_neg (fun e => by have := (isR_valid XX).1 e.1; rw [hv] at this; cases this)])
                clear HXA
                refine wp_region_held_drew (S := fun w' => Mine.Mod none_ WW w') (by kernel_rfl) (Mine.Mod.drew (Mine.Mod.refl none_ WW)) (fun hS => ?_)
                refine wpAnyH_take (i := 0) (v := .int .i64 (XX : Int)) rfl (by kernel_rfl) (by kernel_rfl) (by kernel_rfl) (fun _ _ _ h => h) (Or.inl ⟨by kernel_rfl, ?_⟩) hS ?_
                · rintro w' _; go_simp
                try simp only [Act.put, List.setIfInBounds_toArray]
                refine wpAnyH_take (i := 1) (v := .int .i32 (XX : Int)) rfl (by kernel_rfl) (by kernel_rfl) (by kernel_rfl) (fun _ _ _ h => h) (Or.inl ⟨by kernel_rfl, ?_⟩) hS ?_
                · rintro w' _; go_simp
                try simp only [Act.put]
                refine wpAnyH_ready (rs := [2]) (by kernel_rfl) (by simp) (AllReadyH.cons rfl (fun K hK => ?_) <| AllReadyH.nil)
                go_simp
                refine (ris_any (XX : Int) _).mono ?_
                rintro e w1 ⟨rfl, rfl⟩
                rw [hv]
                refine hK.out _ _ hS (fun hS => ?_)
                clear hK K
                try simp only [Act.put, List.setIfInBounds_toArray, List.set_cons_zero, List.set_cons_succ]
                refine wpAnyH_take (i := 3) (v := .bool true) rfl (by kernel_rfl) (by kernel_rfl) (by kernel_rfl) (fun _ _ _ h => h) (Or.inl ⟨by kernel_rfl, ?_⟩) hS ?_
                · rintro w' _; go_simp
                try simp only [Act.put, List.setIfInBounds_toArray]
                refine wpAnyH_take (i := 4) (v := .bool true) rfl (by kernel_rfl) (by kernel_rfl) (by kernel_rfl) (fun _ _ _ h => h) (Or.inl ⟨by kernel_rfl, ?_⟩) hS ?_
                · rintro w' _; go_simp
                try simp only [Act.put]
                refine wpAnyH_take (i := 5) (v := undef) rfl (by kernel_rfl) (by kernel_rfl) (by kernel_rfl) (fun _ _ _ h => h) (Or.inr ⟨by kernel_rfl, rfl⟩) hS ?_
                try simp only [Act.put]
                refine wpAnyH_take (i := 6) (v := undef) rfl (by kernel_rfl) (by kernel_rfl) (by kernel_rfl) (fun _ _ _ h => h) (Or.inr ⟨by kernel_rfl, rfl⟩) hS ?_
                try simp only [Act.put]
                refine wpAnyH_take (i := 7) (v := undef) rfl (by kernel_rfl) (by kernel_rfl) (by kernel_rfl) (fun _ _ _ h => h) (Or.inr ⟨by kernel_rfl, rfl⟩) hS ?_
                try simp only [Act.put]
                refine wpAnyH_take (i := 8) (v := undef) rfl (by kernel_rfl) (by kernel_rfl) (by kernel_rfl) (fun _ _ _ h => h) (Or.inr ⟨by kernel_rfl, rfl⟩) hS ?_
                try simp only [Act.put]
                refine wpAnyH_take (i := 9) (v := undef) rfl (by kernel_rfl) (by kernel_rfl) (by kernel_rfl) (fun _ _ _ h => h) (Or.inr ⟨by kernel_rfl, rfl⟩) hS ?_
                try simp only [Act.put]
                refine wpAnyH_take (i := 10) (v := undef) rfl (by kernel_rfl) (by kernel_rfl) (by kernel_rfl) (fun _ _ _ h => h) (Or.inr ⟨by kernel_rfl, rfl⟩) hS ?_
                try simp only [Act.put]
                refine wpAnyH_take (i := 11) (v := undef) rfl (by kernel_rfl) (by kernel_rfl) (by kernel_rfl) (fun _ _ _ h => h) (Or.inr ⟨by kernel_rfl, rfl⟩) hS ?_
                try simp only [Act.put]
                refine wpAnyH_take (i := 12) (v := undef) rfl (by kernel_rfl) (by kernel_rfl) (by kernel_rfl) (fun _ _ _ h => h) (Or.inr ⟨by kernel_rfl, rfl⟩) hS ?_
                try simp only [Act.put]
                refine wpAnyH_take (i := 13) (v := .bool true) rfl (by kernel_rfl) (by kernel_rfl) (by kernel_rfl) (fun _ _ _ h => h) (Or.inl ⟨by kernel_rfl, ?_⟩) hS ?_
                · rintro w' _; go_simp
                try simp only [Act.put]
                refine wpAnyH_done (by kernel_rfl) ?_ _
                try simp only [List.getElem_toArray, List.getElem_cons_succ, List.getElem_cons_zero]
                try simp only [List.setIfInBounds_toArray, List.set_cons_zero, List.set_cons_succ]
                have MF := Lib.hid hS
                clear hS
                go_wp2_with fail
                go_ret2
                exact ⟨by rw [HE.out]; rfl, MF.out⟩
              · have hXr : isR XX := (isR_valid XX).2 hv
                have HB8 := Lib.hid (encR_u8 XX hXr)
                obtain ⟨A, hA⟩ : ∃ A : ByteArray, A = ⟨((encR XX).map UInt8.ofNat).toArray⟩ := ⟨_, rfl⟩
                have HAE := Lib.hid (show A = s.extract 0 (k + 1) ↔ encR XX = (List.range (k + 1)).map (bt s) from by rw [hA]; exact bytes_eq s (k + 1) hn4 _ (fun x hx => HB8.out x hx))
                have HA := Lib.hid hA
                have hX2 : XX ≤ 1114111 := hXr.1
                clear hA
                refine wp_region_held_drew (S := fun w' => Mine.Mod none_ WW w') (by kernel_rfl) (Mine.Mod.drew (Mine.Mod.refl none_ WW)) (fun hS => ?_)
                refine wpAnyH_take (i := 0) (v := .int .i64 (XX : Int)) rfl (by kernel_rfl) (by kernel_rfl) (by kernel_rfl) (fun _ _ _ h => h) (Or.inl ⟨by kernel_rfl, ?_⟩) hS ?_
                · rintro w' _; go_simp
                try simp only [Act.put, List.setIfInBounds_toArray]
                refine wpAnyH_take (i := 1) (v := .int .i32 (XX : Int)) rfl (by kernel_rfl) (by kernel_rfl) (by kernel_rfl) (fun _ _ _ h => h) (Or.inl ⟨by kernel_rfl, ?_⟩) hS ?_
                · rintro w' _; go_simp
                try simp only [Act.put]
                refine wpAnyH_ready (rs := [2]) (by kernel_rfl) (by simp) (AllReadyH.cons rfl (fun K hK => ?_) <| AllReadyH.nil)
                go_simp
                refine (ris_any (XX : Int) _).mono ?_
                rintro e w1 ⟨rfl, rfl⟩
                rw [hv]
                refine hK.out _ _ hS (fun hS => ?_)
                clear hK K
                try simp only [Act.put, List.setIfInBounds_toArray, List.set_cons_zero, List.set_cons_succ]
                refine wpAnyH_take (i := 3) (v := .bool false) rfl (by kernel_rfl) (by kernel_rfl) (by kernel_rfl) (fun _ _ _ h => h) (Or.inl ⟨by kernel_rfl, ?_⟩) hS ?_
                · rintro w' _; go_simp
                try simp only [Act.put, List.setIfInBounds_toArray]
                refine wpAnyH_take (i := 4) (v := .bool false) rfl (by kernel_rfl) (by kernel_rfl) (by kernel_rfl) (fun _ _ _ h => h) (Or.inl ⟨by kernel_rfl, ?_⟩) hS ?_
                · rintro w' _; go_simp
                try simp only [Act.put]
                refine wpAnyH_take (i := 5) (v := .int .i64 (XX : Int)) rfl (by kernel_rfl) (by kernel_rfl) (by kernel_rfl) (fun _ _ _ h => h) (Or.inl ⟨by kernel_rfl, ?_⟩) hS ?_
                · rintro w' _; go_simp
                try simp only [Act.put]
                refine wpAnyH_take (i := 6) (v := .int .i32 (XX : Int)) rfl (by kernel_rfl) (by kernel_rfl) (by kernel_rfl) (fun _ _ _ h => h) (Or.inl ⟨by kernel_rfl, ?_⟩) hS ?_
                · rintro w' _; go_simp
                try simp only [Act.put]
                refine wpAnyH_take (i := 9) (v := .string s) rfl (by kernel_rfl) (by kernel_rfl) (by kernel_rfl) (fun _ _ _ h => h) (Or.inl ⟨by kernel_rfl, ?_⟩) hS ?_
                · rintro w' _; go_simp
                try simp only [Act.put]
                refine wpAnyH_take (i := 10) (v := .int .i64 ((k : Int) + 1)) rfl (by kernel_rfl) (by kernel_rfl) (by kernel_rfl) (fun _ _ _ h => h) (Or.inl ⟨by kernel_rfl, ?_⟩) hS ?_
                · rintro w' _; go_simp
                try simp only [Act.put]
                refine wpAnyH_take (i := 11) (v := .string (s.extract 0 (k + 1))) rfl (by kernel_rfl) (by kernel_rfl) (by kernel_rfl) (fun _ _ _ h => h) (Or.inl ⟨by kernel_rfl, ?_⟩) hS ?_
                · rintro w' _; go_simp <;> (intro h; exact absurd h hbn)
                try simp only [Act.put]
                refine wpAnyH_ready (rs := [7]) (by kernel_rfl) (by simp) (AllReadyH.cons rfl (fun K hK => ?_) <| AllReadyH.nil)
                rw [if_pos (by kernel_rfl)]
                go_simp
                refine (rbytes_any XX _ hX2).mono ?_
                rintro e w2 ⟨⟨g, rfl, hgw, kg⟩, m2⟩
                have hcv : (convert 89 9 (.slice (some ⟨g, 0, none⟩) (encR XX).length (encR XX).length)).run Tryz.prog w2 = .ok (.string A) w2 := by
                  have hl : ((encR XX).map UInt8.ofNat).length = (encR XX).length := List.length_map ..
                  rw [HA.out, ← hl]
                  refine run_convert_bytes_back w2 _ _ _ ⟨g, 0, none⟩ _ ((encR XX).map UInt8.ofNat) Tryz.underlying89 Tryz.underlying5 Tryz.underlying9 (fun j hj => ?_)
                  have ea : (⟨g, 0, none⟩ : Addr).add j = ⟨g, j, none⟩ := by rw [Addr.add_lit, Nat.zero_add]
                  rw [ea, kg.cell]
                  exact encCs_at XX HB8.out j hj
                have HCV := Lib.hid hcv
                clear hcv kg hgw
                obtain ⟨nb, hnb⟩ : ∃ nb, nb = (encR XX).length := ⟨_, rfl⟩
                rw [← hnb] at HCV ⊢
                clear hnb
                refine hK.out _ _ (hS.trans m2) (fun hS => ?_)
                clear hK K m2
                try simp only [Act.put, List.setIfInBounds_toArray, List.set_cons_zero, List.set_cons_succ]
                have hcv := HCV.out
                refine wpAnyH_ready (rs := [8]) (by kernel_rfl) (by simp) (AllReadyH.cons rfl (fun K hK => ?_) <| AllReadyH.nil)
                rw [if_pos (by kernel_rfl)]
                go_simp
                refine hK.out _ _ hS (fun hS => ?_)
                clear hK K hcv HCV
                try simp only [Act.put, List.setIfInBounds_toArray, List.set_cons_zero, List.set_cons_succ]
                have MF := Lib.hid hS
                by_cases hq : A = s.extract 0 (k + 1)
                · have HE := Lib.hid (show R = (XX, k + 1) by rw [HXA.out, if_pos ⟨hXr, HAE.out.1 hq⟩])
                  have hqb : A.toList = (s.extract 0 (k + 1)).toList := by rw [hq]
                  clear HXA HAE HA hq
                  refine wpAnyH_take (i := 12) (v := .bool false) rfl (by kernel_rfl) (by kernel_rfl) (by kernel_rfl) (fun _ _ _ h => h) (Or.inl ⟨by kernel_rfl, ?_⟩) hS ?_
                  · rintro w' _; go_simp
                  try simp only [Act.put, List.setIfInBounds_toArray]
                  refine wpAnyH_take (i := 13) (v := .bool false) rfl (by kernel_rfl) (by kernel_rfl) (by kernel_rfl) (fun _ _ _ h => h) (Or.inl ⟨by kernel_rfl, ?_⟩) hS ?_
                  · rintro w' _; go_simp
                  try simp only [Act.put]
                  refine wpAnyH_done (by kernel_rfl) ?_ _
                  try simp only [List.getElem_toArray, List.getElem_cons_succ, List.getElem_cons_zero]
                  try simp only [List.setIfInBounds_toArray, List.set_cons_zero, List.set_cons_succ]
                  clear hS
                  go_wp2_with fail
                  go_ret2
                  exact ⟨by rw [HE.out]; rfl, MF.out⟩
                · have HE := Lib.hid (show R = (0, 0) by rw [HXA.out, if_neg (fun e => hq (HAE.out.2 e.2))])
                  have hqb : ¬ A.toList = (s.extract 0 (k + 1)).toList := fun e => hq (ba_inj e)
                  clear HXA HAE HA hq
                  refine wpAnyH_take (i := 12) (v := .bool true) rfl (by kernel_rfl) (by kernel_rfl) (by kernel_rfl) (fun _ _ _ h => h) (Or.inl ⟨by kernel_rfl, ?_⟩) hS ?_
                  · rintro w' _; go_simp
                  try simp only [Act.put, List.setIfInBounds_toArray]
                  refine wpAnyH_take (i := 13) (v := .bool true) rfl (by kernel_rfl) (by kernel_rfl) (by kernel_rfl) (fun _ _ _ h => h) (Or.inl ⟨by kernel_rfl, ?_⟩) hS ?_
                  · rintro w' _; go_simp
                  try simp only [Act.put]
                  refine wpAnyH_done (by kernel_rfl) ?_ _
                  try simp only [List.getElem_toArray, List.getElem_cons_succ, List.getElem_cons_zero]
                  try simp only [List.setIfInBounds_toArray, List.set_cons_zero, List.set_cons_succ]
                  clear hS
                  go_wp2_with fail
                  go_ret2
                  exact ⟨by rw [HE.out]; rfl, MF.out⟩
        · have d1 : decide (192 ≤ (b : Int)) = true := by simp; omega
          have d2 : decide ((b : Int) < 224) = false := by simp; omega
          have d3 : decide (224 ≤ (b : Int)) = true := by simp; omega
          have d4 : decide ((b : Int) < 240) = true := by simp; omega
          have HXE := Lib.hid (show (b : Int) - 224 = x0 by rw [HX0.out, if_neg (by omega), if_pos hn])
          have HNE := Lib.hid (show (3 : Int) = n by omega)
          clear hn HX0
          go_upto_region 14 with fail
          rw [HXE.out, HNE.out]
          clear HXE HNE d1 d2 d3 d4 hb hb0 HB hb256
          have d5 : decide ((s.size : Int) < (n : Int)) = false := by simp; omega
          go_wp2_with fail
          have hn1 : 1 ≤ n := by have := HN1.out; omega
          go_loopg [4, 6] (n - 1) (fun g s4 s6 wx => ∃ k : Nat, g = n - (k + 1) ∧ s4 = .int .i64 (accR s x0 k) ∧ s6 = .int .i64 ((k : Int) + 1) ∧ k + 1 ≤ n ∧ wx = w ∧ RowKit.Hid (∀ j, 1 ≤ j → j < k + 1 → contB (bt s j)))
          case atStart => exact ⟨0, rfl, rfl, rfl, by omega, rfl, Lib.hid (fun j h1 h2 => by omega)⟩
          case round =>
            obtain ⟨k, rfl, rfl, rfl, hk, rfl, hct⟩ := hrel
            have hak := accR_lt s x0 hx128 k (by have := HN1.out; omega)
            by_cases hlk : k + 1 < n
            · have hlt : k + 1 < s.size := by omega
              obtain ⟨c, hc⟩ : ∃ c, (s[k + 1]'hlt).toNat = c := ⟨_, rfl⟩
              have HC := Lib.hid (show bt s (k + 1) = c by rw [← bt_eq s (k + 1) hlt, hc])
              have hc256 : c < 256 := by rw [← HC.out]; exact bt_lt s (k + 1)
              have d6 : decide ((k : Int) + 1 < (n : Int)) = true := by simp; omega
              by_cases hc1 : c < 128
              · have HE := Lib.hid (show R = (0, 0) by rw [HR.out, firstR_cont H0.out HL.out (j := k + 1) (by omega) hlk (by rw [HC.out]; unfold contB; omega)])
                have e1 : decide ((c : Int) < 128) = true := by simp; omega
                clear HL
                go_wp2_with fail
                go_ret2
                exact ⟨by rw [HE.out]; rfl, Mod.refl _ _⟩
              · by_cases hc2 : 191 < c
                · have HE := Lib.hid (show R = (0, 0) by rw [HR.out, firstR_cont H0.out HL.out (j := k + 1) (by omega) hlk (by rw [HC.out]; unfold contB; omega)])
                  have e1 : decide ((c : Int) < 128) = false := by simp; omega
                  have e2 : decide (191 < (c : Int)) = true := by simp; omega
                  clear HL
                  go_wp2_with fail
                  go_ret2
                  exact ⟨by rw [HE.out]; rfl, Mod.refl _ _⟩
                · have e1 : decide ((c : Int) < 128) = false := by simp; omega
                  have e2 : decide (191 < (c : Int)) = false := by simp; omega
                  have HCT := Lib.hid (show ∀ j, 1 ≤ j → j < k + 1 + 1 → contB (bt s j) from fun j h1 h2 => by
                    by_cases hj : j = k + 1
                    · subst hj; rw [HC.out]; unfold contB; omega
                    · exact hct.out j h1 (by omega))
                  have HAC := Lib.hid (show ((accR s x0 (k + 1) : Nat) : Int) = 64 * (accR s x0 k : Int) + (c : Int) - 128 by
                    have : accR s x0 (k + 1) = 64 * accR s x0 k + bt s (k + 1) - 128 := rfl
                    rw [this, HC.out]; omega)
                  clear hct
                  go_wp2_with fail
                  go_roundg (n - (k + 1 + 1))
                  all_goals first
                    | omega
                    | exact ⟨k + 1, rfl, by rw [HAC.out], by go_num, by omega, rfl, HCT⟩
            · obtain rfl : n = k + 1 := by omega
              have HXA := Lib.hid (show R = if isR (accR s x0 k) ∧ encR (accR s x0 k) = (List.range (k + 1)).map (bt s) then (accR s x0 k, k + 1) else (0, 0) by
                rw [HR.out, firstR_all H0.out HL.out hn4 hct.out]; rfl)
              clear hct hlk HL
              go_upto_region 22 with fail
              obtain ⟨XX, hXX⟩ : ∃ XX, XX = accR s x0 k := ⟨_, rfl⟩
              rw [← hXX]
              rw [← hXX] at HXA hak
              have hX := hak
              clear hXX hak d5
              obtain ⟨WW, rfl⟩ : ∃ WW, WW = wr := ⟨_, rfl⟩
              have hbn : ¬ ((0 ≤ (k : Int) + 1 → (s.size : Int) < (k : Int) + 1)) := by omega
              have hw32 : IntKind.i32.wrap (XX : Int) = XX := by rw [IntKind.wrap_i32]; omega
              cases hv : Lib.validRune (XX : Int)
              · have HE := Lib.hid (show R = (0, 0) by rw [HXA.out, if_neg (fun e => by have := (isR_valid XX).1 e.1; rw [hv] at this; cases this)])
                clear HXA
                refine wp_region_held_drew (S := fun w' => Mine.Mod none_ WW w') (by kernel_rfl) (Mine.Mod.drew (Mine.Mod.refl none_ WW)) (fun hS => ?_)
                refine wpAnyH_take (i := 0) (v := .int .i64 (XX : Int)) rfl (by kernel_rfl) (by kernel_rfl) (by kernel_rfl) (fun _ _ _ h => h) (Or.inl ⟨by kernel_rfl, ?_⟩) hS ?_
                · rintro w' _; go_simp
                try simp only [Act.put, List.setIfInBounds_toArray]
                refine wpAnyH_take (i := 1) (v := .int .i32 (XX : Int)) rfl (by kernel_rfl) (by kernel_rfl) (by kernel_rfl) (fun _ _ _ h => h) (Or.inl ⟨by kernel_rfl, ?_⟩) hS ?_
                · rintro w' _; go_simp
                try simp only [Act.put]
                refine wpAnyH_ready (rs := [2]) (by kernel_rfl) (by simp) (AllReadyH.cons rfl (fun K hK => ?_) <| AllReadyH.nil)
                go_simp
                refine (ris_any (XX : Int) _).mono ?_
                rintro e w1 ⟨rfl, rfl⟩
                rw [hv]
                refine hK.out _ _ hS (fun hS => ?_)
                clear hK K
                try simp only [Act.put, List.setIfInBounds_toArray, List.set_cons_zero, List.set_cons_succ]
                refine wpAnyH_take (i := 3) (v := .bool true) rfl (by kernel_rfl) (by kernel_rfl) (by kernel_rfl) (fun _ _ _ h => h) (Or.inl ⟨by kernel_rfl, ?_⟩) hS ?_
                · rintro w' _; go_simp
                try simp only [Act.put, List.setIfInBounds_toArray]
                refine wpAnyH_take (i := 4) (v := .bool true) rfl (by kernel_rfl) (by kernel_rfl) (by kernel_rfl) (fun _ _ _ h => h) (Or.inl ⟨by kernel_rfl, ?_⟩) hS ?_
                · rintro w' _; go_simp
                try simp only [Act.put]
                refine wpAnyH_take (i := 5) (v := undef) rfl (by kernel_rfl) (by kernel_rfl) (by kernel_rfl) (fun _ _ _ h => h) (Or.inr ⟨by kernel_rfl, rfl⟩) hS ?_
                try simp only [Act.put]
                refine wpAnyH_take (i := 6) (v := undef) rfl (by kernel_rfl) (by kernel_rfl) (by kernel_rfl) (fun _ _ _ h => h) (Or.inr ⟨by kernel_rfl, rfl⟩) hS ?_
                try simp only [Act.put]
                refine wpAnyH_take (i := 7) (v := undef) rfl (by kernel_rfl) (by kernel_rfl) (by kernel_rfl) (fun _ _ _ h => h) (Or.inr ⟨by kernel_rfl, rfl⟩) hS ?_
                try simp only [Act.put]
                refine wpAnyH_take (i := 8) (v := undef) rfl (by kernel_rfl) (by kernel_rfl) (by kernel_rfl) (fun _ _ _ h => h) (Or.inr ⟨by kernel_rfl, rfl⟩) hS ?_
                try simp only [Act.put]
                refine wpAnyH_take (i := 9) (v := undef) rfl (by kernel_rfl) (by kernel_rfl) (by kernel_rfl) (fun _ _ _ h => h) (Or.inr ⟨by kernel_rfl, rfl⟩) hS ?_
                try simp only [Act.put]
                refine wpAnyH_take (i := 10) (v := undef) rfl (by kernel_rfl) (by kernel_rfl) (by kernel_rfl) (fun _ _ _ h => h) (Or.inr ⟨by kernel_rfl, rfl⟩) hS ?_
                try simp only [Act.put]
                refine wpAnyH_take (i := 11) (v := undef) rfl (by kernel_rfl) (by kernel_rfl) (by kernel_rfl) (fun _ _ _ h => h) (Or.inr ⟨by kernel_rfl, rfl⟩) hS ?_
                try simp only [Act.put]
                refine wpAnyH_take (i := 12) (v := undef) rfl (by kernel_rfl) (by kernel_rfl) (by kernel_rfl) (fun _ _ _ h => h) (Or.inr ⟨by kernel_rfl, rfl⟩) hS ?_
                try simp only [Act.put]
                refine wpAnyH_take (i := 13) (v := .bool true) rfl (by kernel_rfl) (by kernel_rfl) (by kernel_rfl) (fun _ _ _ h => h) (Or.inl ⟨by kernel_rfl, ?_⟩) hS ?_
                · rintro w' _; go_simp
                try simp only [Act.put]
                refine wpAnyH_done (by kernel_rfl) ?_ _
                try simp only [List.getElem_toArray, List.getElem_cons_succ, List.getElem_cons_zero]
                try simp only [List.setIfInBounds_toArray, List.set_cons_zero, List.set_cons_succ]
                have MF := Lib.hid hS
                clear hS
                go_wp2_with fail
                go_ret2
                exact ⟨by rw [HE.out]; rfl, MF.out⟩
              · have hXr : isR XX := (isR_valid XX).2 hv
                have HB8 := Lib.hid (encR_u8 XX hXr)
                obtain ⟨A, hA⟩ : ∃ A : ByteArray, A = ⟨((encR XX).map UInt8.ofNat).toArray⟩ := ⟨_, rfl⟩
                have HAE := Lib.hid (show A = s.extract 0 (k + 1) ↔ encR XX = (List.range (k + 1)).map (bt s) from by rw [hA]; exact bytes_eq s (k + 1) hn4 _ (fun x hx => HB8.out x hx))
                have HA := Lib.hid hA
                have hX2 : XX ≤ 1114111 := hXr.1
                clear hA
                refine wp_region_held_drew (S := fun w' => Mine.Mod none_ WW w') (by kernel_rfl) (Mine.Mod.drew (Mine.Mod.refl none_ WW)) (fun hS => ?_)
                refine wpAnyH_take (i := 0) (v := .int .i64 (XX : Int)) rfl (by kernel_rfl) (by kernel_rfl) (by kernel_rfl) (fun _ _ _ h => h) (Or.inl ⟨by kernel_rfl, ?_⟩) hS ?_
                · rintro w' _; go_simp
                try simp only [Act.put, List.setIfInBounds_toArray]
                refine wpAnyH_take (i := 1) (v := .int .i32 (XX : Int)) rfl (by kernel_rfl) (by kernel_rfl) (by kernel_rfl) (fun _ _ _ h => h) (Or.inl ⟨by kernel_rfl, ?_⟩) hS ?_
                · rintro w' _; go_simp
                try simp only [Act.put]
                refine wpAnyH_ready (rs := [2]) (by kernel_rfl) (by simp) (AllReadyH.cons rfl (fun K hK => ?_) <| AllReadyH.nil)
                go_simp
                refine (ris_any (XX : Int) _).mono ?_
                rintro e w1 ⟨rfl, rfl⟩
                rw [hv]
                refine hK.out _ _ hS (fun hS => ?_)
                clear hK K
                try simp only [Act.put, List.setIfInBounds_toArray, List.set_cons_zero, List.set_cons_succ]
                refine wpAnyH_take (i := 3) (v := .bool false) rfl (by kernel_rfl) (by kernel_rfl) (by kernel_rfl) (fun _ _ _ h => h) (Or.inl ⟨by kernel_rfl, ?_⟩) hS ?_
                · rintro w' _; go_simp
                try simp only [Act.put, List.setIfInBounds_toArray]
                refine wpAnyH_take (i := 4) (v := .bool false) rfl (by kernel_rfl) (by kernel_rfl) (by kernel_rfl) (fun _ _ _ h => h) (Or.inl ⟨by kernel_rfl, ?_⟩) hS ?_
                · rintro w' _; go_simp
                try simp only [Act.put]
                refine wpAnyH_take (i := 5) (v := .int .i64 (XX : Int)) rfl (by kernel_rfl) (by kernel_rfl) (by kernel_rfl) (fun _ _ _ h => h) (Or.inl ⟨by kernel_rfl, ?_⟩) hS ?_
                · rintro w' _; go_simp
                try simp only [Act.put]
                refine wpAnyH_take (i := 6) (v := .int .i32 (XX : Int)) rfl (by kernel_rfl) (by kernel_rfl) (by kernel_rfl) (fun _ _ _ h => h) (Or.inl ⟨by kernel_rfl, ?_⟩) hS ?_
                · rintro w' _; go_simp
                try simp only [Act.put]
                refine wpAnyH_take (i := 9) (v := .string s) rfl (by kernel_rfl) (by kernel_rfl) (by kernel_rfl) (fun _ _ _ h => h) (Or.inl ⟨by kernel_rfl, ?_⟩) hS ?_
                · rintro w' _; go_simp
                try simp only [Act.put]
                refine wpAnyH_take (i := 10) (v := .int .i64 ((k : Int) + 1)) rfl (by kernel_rfl) (by kernel_rfl) (by kernel_rfl) (fun _ _ _ h => h) (Or.inl ⟨by kernel_rfl, ?_⟩) hS ?_
                · rintro w' _; go_simp
                try simp only [Act.put]
                refine wpAnyH_take (i := 11) (v := .string (s.extract 0 (k + 1))) rfl (by kernel_rfl) (by kernel_rfl) (by kernel_rfl) (fun _ _ _ h => h) (Or.inl ⟨by kernel_rfl, ?_⟩) hS ?_
                · rintro w' _; go_simp <;> (intro h; exact absurd h hbn)
                try simp only [Act.put]
                refine wpAnyH_ready (rs := [7]) (by kernel_rfl) (by simp) (AllReadyH.cons rfl (fun K hK => ?_) <| AllReadyH.nil)
                rw [if_pos (by kernel_rfl)]
                go_simp
                refine (rbytes_any XX _ hX2).mono ?_
                rintro e w2 ⟨⟨g, rfl, hgw, kg⟩, m2⟩
                have hcv : (convert 89 9 (.slice (some ⟨g, 0, none⟩) (encR XX).length (encR XX).length)).run Tryz.prog w2 = .ok (.string A) w2 := by
                  have hl : ((encR XX).map UInt8.ofNat).length = (encR XX).length := List.length_map ..
                  rw [HA.out, ← hl]
                  refine run_convert_bytes_back w2 _ _ _ ⟨g, 0, none⟩ _ ((encR XX).map UInt8.ofNat) Tryz.underlying89 Tryz.underlying5 Tryz.underlying9 (fun j hj => ?_)
                  have ea : (⟨g, 0, none⟩ : Addr).add j = ⟨g, j, none⟩ := by rw [Addr.add_lit, Nat.zero_add]
                  rw [ea, kg.cell]
                  exact encCs_at XX HB8.out j hj
                have HCV := Lib.hid hcv
                clear hcv kg hgw
                obtain ⟨nb, hnb⟩ : ∃ nb, nb = (encR XX).length := ⟨_, rfl⟩
                rw [← hnb] at HCV ⊢
                clear hnb
                refine hK.out _ _ (hS.trans m2) (fun hS => ?_)
                clear hK K m2
                try simp only [Act.put, List.setIfInBounds_toArray, List.set_cons_zero, List.set_cons_succ]
                have hcv := HCV.out
                refine wpAnyH_ready (rs := [8]) (by kernel_rfl) (by simp) (AllReadyH.cons rfl (fun K hK => ?_) <| AllReadyH.nil)
                rw [if_pos (by kernel_rfl)]
                go_simp
                refine hK.out _ _ hS (fun hS => ?_)
                clear hK K hcv HCV
                try simp only [Act.put, List.setIfInBounds_toArray, List.set_cons_zero, List.set_cons_succ]
                have MF := Lib.hid hS
                by_cases hq : A = s.extract 0 (k + 1)
                · have HE := Lib.hid (show R = (XX, k + 1) by rw [HXA.out, if_pos ⟨hXr, HAE.out.1 hq⟩])
                  have hqb : A.toList = (s.extract 0 (k + 1)).toList := by rw [hq]
                  clear HXA HAE HA hq
                  refine wpAnyH_take (i := 12) (v := .bool false) rfl (by kernel_rfl) (by kernel_rfl) (by kernel_rfl) (fun _ _ _ h => h) (Or.inl ⟨by kernel_rfl, ?_⟩) hS ?_
                  · rintro w' _; go_simp
                  try simp only [Act.put, List.setIfInBounds_toArray]
                  refine wpAnyH_take (i := 13) (v := .bool false) rfl (by kernel_rfl) (by kernel_rfl) (by kernel_rfl) (fun _ _ _ h => h) (Or.inl ⟨by kernel_rfl, ?_⟩) hS ?_
                  · rintro w' _; go_simp
                  try simp only [Act.put]
                  refine wpAnyH_done (by kernel_rfl) ?_ _
                  try simp only [List.getElem_toArray, List.getElem_cons_succ, List.getElem_cons_zero]
                  try simp only [List.setIfInBounds_toArray, List.set_cons_zero, List.set_cons_succ]
                  clear hS
                  go_wp2_with fail
                  go_ret2
                  exact ⟨by rw [HE.out]; rfl, MF.out⟩
                · have HE := Lib.hid (show R = (0, 0) by rw [HXA.out, if_neg (fun e => hq (HAE.out.2 e.2))])
                  have hqb : ¬ A.toList = (s.extract 0 (k + 1)).toList := fun e => hq (ba_inj e)
                  clear HXA HAE HA hq
                  refine wpAnyH_take (i := 12) (v := .bool true) rfl (by kernel_rfl) (by kernel_rfl) (by kernel_rfl) (fun _ _ _ h => h) (Or.inl ⟨by kernel_rfl, ?_⟩) hS ?_
                  · rintro w' _; go_simp
                  try simp only [Act.put, List.setIfInBounds_toArray]
                  refine wpAnyH_take (i := 13) (v := .bool true) rfl (by kernel_rfl) (by kernel_rfl) (by kernel_rfl) (fun _ _ _ h => h) (Or.inl ⟨by kernel_rfl, ?_⟩) hS ?_
                  · rintro w' _; go_simp
                  try simp only [Act.put]
                  refine wpAnyH_done (by kernel_rfl) ?_ _
                  try simp only [List.getElem_toArray, List.getElem_cons_succ, List.getElem_cons_zero]
                  try simp only [List.setIfInBounds_toArray, List.set_cons_zero, List.set_cons_succ]
                  clear hS
                  go_wp2_with fail
                  go_ret2
                  exact ⟨by rw [HE.out]; rfl, MF.out⟩
        · have d1 : decide (192 ≤ (b : Int)) = true := by simp; omega
          have d2 : decide ((b : Int) < 224) = false := by simp; omega
          have d3 : decide (224 ≤ (b : Int)) = true := by simp; omega
          have d4 : decide ((b : Int) < 240) = false := by simp; omega
          have d6 : decide (240 ≤ (b : Int)) = true := by simp; omega
          have d7 : decide ((b : Int) < 248) = true := by simp; omega
          have HXE := Lib.hid (show (b : Int) - 240 = x0 by rw [HX0.out, if_neg (by omega), if_neg (by omega)])
          have HNE := Lib.hid (show (4 : Int) = n by omega)
          clear hn HX0
          go_upto_region 14 with fail
          rw [HXE.out, HNE.out]
          clear HXE HNE d1 d2 d3 d4 d6 d7 hb hb0 HB hb256
          have d5 : decide ((s.size : Int) < (n : Int)) = false := by simp; omega
          go_wp2_with fail
          have hn1 : 1 ≤ n := by have := HN1.out; omega
          go_loopg [4, 6] (n - 1) (fun g s4 s6 wx => ∃ k : Nat, g = n - (k + 1) ∧ s4 = .int .i64 (accR s x0 k) ∧ s6 = .int .i64 ((k : Int) + 1) ∧ k + 1 ≤ n ∧ wx = w ∧ RowKit.Hid (∀ j, 1 ≤ j → j < k + 1 → contB (bt s j)))
          case atStart => exact ⟨0, rfl, rfl, rfl, by omega, rfl, Lib.hid (fun j h1 h2 => by omega)⟩
          case round =>
            obtain ⟨k, rfl, rfl, rfl, hk, rfl, hct⟩ := hrel
            have hak := accR_lt s x0 hx128 k (by have := HN1.out; omega)
            by_cases hlk : k + 1 < n
            · have hlt : k + 1 < s.size := by omega
              obtain ⟨c, hc⟩ : ∃ c, (s[k + 1]'hlt).toNat = c := ⟨_, rfl⟩
              have HC := Lib.hid (show bt s (k + 1) = c by rw [← bt_eq s (k + 1) hlt, hc])
              have hc256 : c < 256 := by rw [← HC.out]; exact bt_lt s (k + 1)
              have d6 : decide ((k : Int) + 1 < (n : Int)) = true := by simp; omega
              by_cases hc1 : c < 128
              · have HE := Lib.hid (show R = (0, 0) by rw [HR.out, firstR_cont H0.out HL.out (j := k + 1) (by omega) hlk (by rw [HC.out]; unfold contB; omega)])
                have e1 : decide ((c : Int) < 128) = true := by simp; omega
                clear HL
                go_wp2_with fail
                go_ret2
                exact ⟨by rw [HE.out]; rfl, Mod.refl _ _⟩
              · by_cases hc2 : 191 < c
                · have HE := Lib.hid (show R = (0, 0) by rw [HR.out, firstR_cont H0.out HL.out (j := k + 1) (by omega) hlk (by rw [HC.out]; unfold contB; omega)])
                  have e1 : decide ((c : Int) < 128) = false := by simp; omega
                  have e2 : decide (191 < (c : Int)) = true := by simp; omega
                  clear HL
                  go_wp2_with fail
                  go_ret2
                  exact ⟨by rw [HE.out]; rfl, Mod.refl _ _⟩
                · have e1 : decide ((c : Int) < 128) = false := by simp; omega
                  have e2 : decide (191 < (c : Int)) = false := by simp; omega
                  have HCT := Lib.hid (show ∀ j, 1 ≤ j → j < k + 1 + 1 → contB (bt s j) from fun j h1 h2 => by
                    by_cases hj : j = k + 1
                    · subst hj; rw [HC.out]; unfold contB; omega
                    · exact hct.out j h1 (by omega))
                  have HAC := Lib.hid (show ((accR s x0 (k + 1) : Nat) : Int) = 64 * (accR s x0 k : Int) + (c : Int) - 128 by
                    have : accR s x0 (k + 1) = 64 * accR s x0 k + bt s (k + 1) - 128 := rfl
                    rw [this, HC.out]; omega)
                  clear hct
                  go_wp2_with fail
                  go_roundg (n - (k + 1 + 1))
                  all_goals first
                    | omega
                    | exact ⟨k + 1, rfl, by rw [HAC.out], by go_num, by omega, rfl, HCT⟩
            · obtain rfl : n = k + 1 := by omega
              have HXA := Lib.hid (show R = if isR (accR s x0 k) ∧ encR (accR s x0 k) = (List.range (k + 1)).map (bt s) then (accR s x0 k, k + 1) else (0, 0) by
                rw [HR.out, firstR_all H0.out HL.out hn4 hct.out]; rfl)
              clear hct hlk HL
              go_upto_region 22 with fail
              obtain ⟨XX, hXX⟩ : ∃ XX, XX = accR s x0 k := ⟨_, rfl⟩
              rw [← hXX]
              rw [← hXX] at HXA hak
              have hX := hak
              clear hXX hak d5
              obtain ⟨WW, rfl⟩ : ∃ WW, WW = wr := ⟨_, rfl⟩
              have hbn : ¬ ((0 ≤ (k : Int) + 1 → (s.size : Int) < (k : Int) + 1)) := by omega
              have hw32 : IntKind.i32.wrap (XX : Int) = XX := by rw [IntKind.wrap_i32]; omega
              cases hv : Lib.validRune (XX : Int)
              · have HE := Lib.hid (show R = (0, 0) by rw [HXA.out, if_neg (fun e => by have := (isR_valid XX).1 e.1; rw [hv] at this; cases this)])
                clear HXA
                refine wp_region_held_drew (S := fun w' => Mine.Mod none_ WW w') (by kernel_rfl) (Mine.Mod.drew (Mine.Mod.refl none_ WW)) (fun hS => ?_)
                refine wpAnyH_take (i := 0) (v := .int .i64 (XX : Int)) rfl (by kernel_rfl) (by kernel_rfl) (by kernel_rfl) (fun _ _ _ h => h) (Or.inl ⟨by kernel_rfl, ?_⟩) hS ?_
                · rintro w' _; go_simp
                try simp only [Act.put, List.setIfInBounds_toArray]
                refine wpAnyH_take (i := 1) (v := .int .i32 (XX : Int)) rfl (by kernel_rfl) (by kernel_rfl) (by kernel_rfl) (fun _ _ _ h => h) (Or.inl ⟨by kernel_rfl, ?_⟩) hS ?_
                · rintro w' _; go_simp
                try simp only [Act.put]
                refine wpAnyH_ready (rs := [2]) (by kernel_rfl) (by simp) (AllReadyH.cons rfl (fun K hK => ?_) <| AllReadyH.nil)
                go_simp
                refine (ris_any (XX : Int) _).mono ?_
                rintro e w1 ⟨rfl, rfl⟩
                rw [hv]
                refine hK.out _ _ hS (fun hS => ?_)
                clear hK K
                try simp only [Act.put, List.setIfInBounds_toArray, List.set_cons_zero, List.set_cons_succ]
                refine wpAnyH_take (i := 3) (v := .bool true) rfl (by kernel_rfl) (by kernel_rfl) (by kernel_rfl) (fun _ _ _ h => h) (Or.inl ⟨by kernel_rfl, ?_⟩) hS ?_
                · rintro w' _; go_simp
                try simp only [Act.put, List.setIfInBounds_toArray]
                refine wpAnyH_take (i := 4) (v := .bool true) rfl (by kernel_rfl) (by kernel_rfl) (by kernel_rfl) (fun _ _ _ h => h) (Or.inl ⟨by kernel_rfl, ?_⟩) hS ?_
                · rintro w' _; go_simp
                try simp only [Act.put]
                refine wpAnyH_take (i := 5) (v := undef) rfl (by kernel_rfl) (by kernel_rfl) (by kernel_rfl) (fun _ _ _ h => h) (Or.inr ⟨by kernel_rfl, rfl⟩) hS ?_
                try simp only [Act.put]
                refine wpAnyH_take (i := 6) (v := undef) rfl (by kernel_rfl) (by kernel_rfl) (by kernel_rfl) (fun _ _ _ h => h) (Or.inr ⟨by kernel_rfl, rfl⟩) hS ?_
                try simp only [Act.put]
                refine wpAnyH_take (i := 7) (v := undef) rfl (by kernel_rfl) (by kernel_rfl) (by kernel_rfl) (fun _ _ _ h => h) (Or.inr ⟨by kernel_rfl, rfl⟩) hS ?_
                try simp only [Act.put]
                refine wpAnyH_take (i := 8) (v := undef) rfl (by kernel_rfl) (by kernel_rfl) (by kernel_rfl) (fun _ _ _ h => h) (Or.inr ⟨by kernel_rfl, rfl⟩) hS ?_
                try simp only [Act.put]
                refine wpAnyH_take (i := 9) (v := undef) rfl (by kernel_rfl) (by kernel_rfl) (by kernel_rfl) (fun _ _ _ h => h) (Or.inr ⟨by kernel_rfl, rfl⟩) hS ?_
                try simp only [Act.put]
                refine wpAnyH_take (i := 10) (v := undef) rfl (by kernel_rfl) (by kernel_rfl) (by kernel_rfl) (fun _ _ _ h => h) (Or.inr ⟨by kernel_rfl, rfl⟩) hS ?_
                try simp only [Act.put]
                refine wpAnyH_take (i := 11) (v := undef) rfl (by kernel_rfl) (by kernel_rfl) (by kernel_rfl) (fun _ _ _ h => h) (Or.inr ⟨by kernel_rfl, rfl⟩) hS ?_
                try simp only [Act.put]
                refine wpAnyH_take (i := 12) (v := undef) rfl (by kernel_rfl) (by kernel_rfl) (by kernel_rfl) (fun _ _ _ h => h) (Or.inr ⟨by kernel_rfl, rfl⟩) hS ?_
                try simp only [Act.put]
                refine wpAnyH_take (i := 13) (v := .bool true) rfl (by kernel_rfl) (by kernel_rfl) (by kernel_rfl) (fun _ _ _ h => h) (Or.inl ⟨by kernel_rfl, ?_⟩) hS ?_
                · rintro w' _; go_simp
                try simp only [Act.put]
                refine wpAnyH_done (by kernel_rfl) ?_ _
                try simp only [List.getElem_toArray, List.getElem_cons_succ, List.getElem_cons_zero]
                try simp only [List.setIfInBounds_toArray, List.set_cons_zero, List.set_cons_succ]
                have MF := Lib.hid hS
                clear hS
                go_wp2_with fail
                go_ret2
                exact ⟨by rw [HE.out]; rfl, MF.out⟩
              · have hXr : isR XX := (isR_valid XX).2 hv
                have HB8 := Lib.hid (encR_u8 XX hXr)
                obtain ⟨A, hA⟩ : ∃ A : ByteArray, A = ⟨((encR XX).map UInt8.ofNat).toArray⟩ := ⟨_, rfl⟩
                have HAE := Lib.hid (show A = s.extract 0 (k + 1) ↔ encR XX = (List.range (k + 1)).map (bt s) from by rw [hA]; exact bytes_eq s (k + 1) hn4 _ (fun x hx => HB8.out x hx))
                have HA := Lib.hid hA
                have hX2 : XX ≤ 1114111 := hXr.1
                clear hA
                refine wp_region_held_drew (S := fun w' => Mine.Mod none_ WW w') (by kernel_rfl) (Mine.Mod.drew (Mine.Mod.refl none_ WW)) (fun hS => ?_)
                refine wpAnyH_take (i := 0) (v := .int .i64 (XX : Int)) rfl (by kernel_rfl) (by kernel_rfl) (by kernel_rfl) (fun _ _ _ h => h) (Or.inl ⟨by kernel_rfl, ?_⟩) hS ?_
                · rintro w' _; go_simp
                try simp only [Act.put, List.setIfInBounds_toArray]
                refine wpAnyH_take (i := 1) (v := .int .i32 (XX : Int)) rfl (by kernel_rfl) (by kernel_rfl) (by kernel_rfl) (fun _ _ _ h => h) (Or.inl ⟨by kernel_rfl, ?_⟩) hS ?_
                · rintro w' _; go_simp
                try simp only [Act.put]
                refine wpAnyH_ready (rs := [2]) (by kernel_rfl) (by simp) (AllReadyH.cons rfl (fun K hK => ?_) <| AllReadyH.nil)
                go_simp
                refine (ris_any (XX : Int) _).mono ?_
                rintro e w1 ⟨rfl, rfl⟩
                rw [hv]
                refine hK.out _ _ hS (fun hS => ?_)
                clear hK K
                try simp only [Act.put, List.setIfInBounds_toArray, List.set_cons_zero, List.set_cons_succ]
                refine wpAnyH_take (i := 3) (v := .bool false) rfl (by kernel_rfl) (by kernel_rfl) (by kernel_rfl) (fun _ _ _ h => h) (Or.inl ⟨by kernel_rfl, ?_⟩) hS ?_
                · rintro w' _; go_simp
                try simp only [Act.put, List.setIfInBounds_toArray]
                refine wpAnyH_take (i := 4) (v := .bool false) rfl (by kernel_rfl) (by kernel_rfl) (by kernel_rfl) (fun _ _ _ h => h) (Or.inl ⟨by kernel_rfl, ?_⟩) hS ?_
                · rintro w' _; go_simp
                try simp only [Act.put]
                refine wpAnyH_take (i := 5) (v := .int .i64 (XX : Int)) rfl (by kernel_rfl) (by kernel_rfl) (by kernel_rfl) (fun _ _ _ h => h) (Or.inl ⟨by kernel_rfl, ?_⟩) hS ?_
                · rintro w' _; go_simp
                try simp only [Act.put]
                refine wpAnyH_take (i := 6) (v := .int .i32 (XX : Int)) rfl (by kernel_rfl) (by kernel_rfl) (by kernel_rfl) (fun _ _ _ h => h) (Or.inl ⟨by kernel_rfl, ?_⟩) hS ?_
                · rintro w' _; go_simp
                try simp only [Act.put]
                refine wpAnyH_take (i := 9) (v := .string s) rfl (by kernel_rfl) (by kernel_rfl) (by kernel_rfl) (fun _ _ _ h => h) (Or.inl ⟨by kernel_rfl, ?_⟩) hS ?_
                · rintro w' _; go_simp
                try simp only [Act.put]
                refine wpAnyH_take (i := 10) (v := .int .i64 ((k : Int) + 1)) rfl (by kernel_rfl) (by kernel_rfl) (by kernel_rfl) (fun _ _ _ h => h) (Or.inl ⟨by kernel_rfl, ?_⟩) hS ?_
                · rintro w' _; go_simp
                try simp only [Act.put]
                refine wpAnyH_take (i := 11) (v := .string (s.extract 0 (k + 1))) rfl (by kernel_rfl) (by kernel_rfl) (by kernel_rfl) (fun _ _ _ h => h) (Or.inl ⟨by kernel_rfl, ?_⟩) hS ?_
                · rintro w' _; go_simp <;> (intro h; exact absurd h hbn)
                try simp only [Act.put]
                refine wpAnyH_ready (rs := [7]) (by kernel_rfl) (by simp) (AllReadyH.cons rfl (fun K hK => ?_) <| AllReadyH.nil)
                rw [if_pos (by kernel_rfl)]
                go_simp
                refine (rbytes_any XX _ hX2).mono ?_
                rintro e w2 ⟨⟨g, rfl, hgw, kg⟩, m2⟩
                have hcv : (convert 89 9 (.slice (some ⟨g, 0, none⟩) (encR XX).length (encR XX).length)).run Tryz.prog w2 = .ok (.string A) w2 := by
                  have hl : ((encR XX).map UInt8.ofNat).length = (encR XX).length := List.length_map ..
                  rw [HA.out, ← hl]
                  refine run_convert_bytes_back w2 _ _ _ ⟨g, 0, none⟩ _ ((encR XX).map UInt8.ofNat) Tryz.underlying89 Tryz.underlying5 Tryz.underlying9 (fun j hj => ?_)
                  have ea : (⟨g, 0, none⟩ : Addr).add j = ⟨g, j, none⟩ := by rw [Addr.add_lit, Nat.zero_add]
                  rw [ea, kg.cell]
                  exact encCs_at XX HB8.out j hj
                have HCV := Lib.hid hcv
                clear hcv kg hgw
                obtain ⟨nb, hnb⟩ : ∃ nb, nb = (encR XX).length := ⟨_, rfl⟩
                rw [← hnb] at HCV ⊢
                clear hnb
                refine hK.out _ _ (hS.trans m2) (fun hS => ?_)
                clear hK K m2
                try simp only [Act.put, List.setIfInBounds_toArray, List.set_cons_zero, List.set_cons_succ]
                have hcv := HCV.out
                refine wpAnyH_ready (rs := [8]) (by kernel_rfl) (by simp) (AllReadyH.cons rfl (fun K hK => ?_) <| AllReadyH.nil)
                rw [if_pos (by kernel_rfl)]
                go_simp
                refine hK.out _ _ hS (fun hS => ?_)
                clear hK K hcv HCV
                try simp only [Act.put, List.setIfInBounds_toArray, List.set_cons_zero, List.set_cons_succ]
                have MF := Lib.hid hS
                by_cases hq : A = s.extract 0 (k + 1)
                · have HE := Lib.hid (show R = (XX, k + 1) by rw [HXA.out, if_pos ⟨hXr, HAE.out.1 hq⟩])
                  have hqb : A.toList = (s.extract 0 (k + 1)).toList := by rw [hq]
                  clear HXA HAE HA hq
                  refine wpAnyH_take (i := 12) (v := .bool false) rfl (by kernel_rfl) (by kernel_rfl) (by kernel_rfl) (fun _ _ _ h => h) (Or.inl ⟨by kernel_rfl, ?_⟩) hS ?_
                  · rintro w' _; go_simp
                  try simp only [Act.put, List.setIfInBounds_toArray]
                  refine wpAnyH_take (i := 13) (v := .bool false) rfl (by kernel_rfl) (by kernel_rfl) (by kernel_rfl) (fun _ _ _ h => h) (Or.inl ⟨by kernel_rfl, ?_⟩) hS ?_
                  · rintro w' _; go_simp
                  try simp only [Act.put]
                  refine wpAnyH_done (by kernel_rfl) ?_ _
                  try simp only [List.getElem_toArray, List.getElem_cons_succ, List.getElem_cons_zero]
                  try simp only [List.setIfInBounds_toArray, List.set_cons_zero, List.set_cons_succ]
                  clear hS
                  go_wp2_with fail
                  go_ret2
                  exact ⟨by rw [HE.out]; rfl, MF.out⟩
                · have HE := Lib.hid (show R = (0, 0) by rw [HXA.out, if_neg (fun e => hq (HAE.out.2 e.2))])
                  have hqb : ¬ A.toList = (s.extract 0 (k + 1)).toList := fun e => hq (ba_inj e)
                  clear HXA HAE HA hq
                  refine wpAnyH_take (i := 12) (v := .bool true) rfl (by kernel_rfl) (by kernel_rfl) (by kernel_rfl) (fun _ _ _ h => h) (Or.inl ⟨by kernel_rfl, ?_⟩) hS ?_
                  · rintro w' _; go_simp
                  try simp only [Act.put, List.setIfInBounds_toArray]
                  refine wpAnyH_take (i := 13) (v := .bool true) rfl (by kernel_rfl) (by kernel_rfl) (by kernel_rfl) (fun _ _ _ h => h) (Or.inl ⟨by kernel_rfl, ?_⟩) hS ?_
                  · rintro w' _; go_simp
                  try simp only [Act.put]
                  refine wpAnyH_done (by kernel_rfl) ?_ _
                  try simp only [List.getElem_toArray, List.getElem_cons_succ, List.getElem_cons_zero]
                  try simp only [List.setIfInBounds_toArray, List.set_cons_zero, List.set_cons_succ]
                  clear hS
                  go_wp2_with fail
                  go_ret2
                  exact ⟨by rw [HE.out]; rfl, MF.out⟩
end Go.Proofs.YtjgjjlolhdlofaaGreatDoor

namespace Go.Proofs.YtjgjjlolhdlofaaGreatDoor
open Go.RowKit Go.Shelf Go.Mine

/-- What the document's Split leaves. -/
def RSplitTo (w : World) (R : Option (List Nat)) (e : Ending) (w' : World) : Prop := Mine.Mod none_ w w' ∧ (R = none → e = .returned (.tuple #[.slice none 0 0, .bool false])) ∧ ∀ rs, R = some rs → ∃ v, e = .returned (.tuple #[v, .bool true]) ∧ w'.ownsRow w.heap.size 21 1 v rs.length (runeCs rs)
theorem firstR_bad {t : ByteArray} (hb : bad1 t) : firstR t = (0, 0) := by unfold firstR; rw [if_pos hb]
theorem firstR_ok {t : ByteArray} (hb : ¬ bad1 t) : firstR t = Lib.decodeGo t := by unfold firstR; rw [if_neg hb]
theorem tl_zero (s : ByteArray) : tl s 0 = s := by unfold tl; simp

set_option maxHeartbeats 4000000 in
set_option maxRecDepth 1000000 in
theorem rsplit_any (s : ByteArray) (w : World) (hsz : s.size ≤ 1099511627776) :
    Calls Tryz.prog 66 #[.string s] w (RSplitTo w (runesOf s)) := by
  obtain ⟨i0, hi0, hz0, hz1, hz2⟩ := info_parts infoI32
  have HI0 := Lib.hid hi0
  have HZ0 := Lib.hid hz0
  have HZ1 := Lib.hid hz1
  have HZ2 := Lib.hid hz2
  obtain ⟨R, hR⟩ : ∃ R, R = runesOf s := ⟨_, rfl⟩
  rw [← hR]
  have HS := Lib.hid (show R = (runesOf (tl s 0)).map ([] ++ ·) by rw [hR, tl_zero]; cases runesOf s <;> rfl)
  clear hi0 hz0 hz1 hz2 hR
  go_enter Tryz.func66, Tryz.ntmps66
  go_wp2_with fail
  go_loopg [0, 4] (s.size + 1) (fun g s0 s4 wx => ∃ (pos : Nat) (pre : List Nat), g = s.size + 1 - pos ∧ s0 = .string (tl s pos) ∧ Mine.Mod none_ w wx ∧ pre.length ≤ pos ∧ wx.ownsRow w.heap.size 21 1 s4 pre.length (runeCs pre) ∧ RowKit.Hid (pos ≤ s.size ∧ R = (runesOf (tl s pos)).map (pre ++ ·)))
  case atStart => exact ⟨0, [], rfl, by rw [tl_zero], Mine.Mod.refl _ _, Nat.zero_le _, ⟨rfl, .inl ⟨rfl, rfl⟩⟩, Lib.hid ⟨Nat.zero_le _, HS.out⟩⟩
  case round =>
    obtain ⟨pos, pre, rfl, rfl, mx, hpl, ox, hst⟩ := hrel
    obtain ⟨hps, hrs⟩ := hst.out
    have MX := Lib.hid mx
    have OX := Lib.hid ox
    obtain ⟨t, ht⟩ : ∃ t, t = tl s pos := ⟨_, rfl⟩
    have hts : t.size = s.size - pos := by rw [ht, tl_size]
    rw [← ht] at hrs ⊢
    have HT := Lib.hid ht
    have HTS := Lib.hid hts
    by_cases h0 : t.size = 0
    · have HRS := Lib.hid (show R = some pre by rw [hrs, runesOf_nil h0]; simp)
      have hd : decide (0 < t.size) = false := by simp [h0]
      clear hst hrs mx ox ht hts h0
      go_wp2_with fail
      go_ret2
      exact ⟨MX.out, (fun h => by rw [HRS.out] at h; cases h), fun rs' h => by rw [HRS.out] at h; obtain rfl := Option.some.inj h; exact ⟨_, rfl, OX.out⟩⟩
    · have hd : decide (0 < t.size) = true := by simp; omega
      have h1 := rfirst_any t wr h0 (by omega)
      by_cases hb : bad1 t
      · have HRS := Lib.hid (show R = none by rw [hrs, runesOf_bad h0 hb]; rfl)
        rw [firstR_bad hb] at h1
        have HF := Lib.hid h1
        clear hst hrs mx ox ht hts h0 hb h1
        go_wp2_with fail
        refine HF.out.mono ?_
        rintro e w1 ⟨rfl, m1⟩
        have M1 := Lib.hid (MX.out.trans m1)
        clear m1
        go_wp2_with fail
        go_ret2
        exact ⟨M1.out, fun _ => rfl, fun rs' h => by rw [HRS.out] at h; cases h⟩
      · have hdp := decodeGo_pos h0
        rw [firstR_ok hb] at h1
        rw [runesOf_step h0 hb] at hrs
        obtain ⟨r, hr⟩ : ∃ r, r = (Lib.decodeGo t).1 := ⟨_, rfl⟩
        obtain ⟨nb, hnb⟩ : ∃ nb, nb = (Lib.decodeGo t).2 := ⟨_, rfl⟩
        rw [← hr, ← hnb] at h1
        rw [← hr, ← hnb] at hrs
        rw [← hnb] at hdp
        have HF := Lib.hid h1
        have hnb0 : ((nb : Int) == 0) = false := by rw [beq_eq_false_iff_ne]; omega
        have hnbs : ¬ ((t.size : Int) < (nb : Int)) := by omega
        have HST := Lib.hid (show pos + nb ≤ s.size ∧ R = (runesOf (tl s (pos + nb))).map ((pre ++ [r]) ++ ·) from ⟨by omega, by
          rw [hrs, ht, tl_tl]
          cases runesOf (tl s (pos + nb)) <;> simp⟩)
        have HTL := Lib.hid (show t.extract nb t.size = tl s (pos + nb) by rw [ht]; exact tl_tl s pos nb)
        have hnb1 := hdp.1
        clear hst hrs mx ox ht hts h0 hb hr hnb h1 hdp
        go_wp2_with fail
        refine HF.out.mono ?_
        rintro e w1 ⟨rfl, m1⟩
        have M1 := Lib.hid (MX.out.trans m1)
        have O1 := Lib.hid (ownsRow_mod OX.out m1 (fun _ _ e => e))
        clear m1
        have hsz1 := M1.out.size
        go_wp2_with (at_builtin; refine wpList_append_own _ rfl (.tmp 17) (.tmp 19) 91 rfl w.heap.size 21 i0 _ 1 4 Tryz.underlying91 HI0.out HZ0.out HZ1.out HZ2.out rfl (by decide) _ _ _ rfl (O1.out.alloc _) ⟨w1.heap.size, 0, none⟩ 1 1 [.int .i32 (r : Int)] rfl rfl (World.news_of_block (heap_alloc_new w1 _)) (fun u hu => by rw [List.mem_singleton.1 hu]; rfl) (by unfold maxLen; omega) (by omega) (by rw [World.size_alloc]; omega) ?_; intro v' w5 ho5 hg5 _; have M5 := Lib.hid ((M1.out.alloc (.cells #[.int .i32 (r : Int)] 21)).grown hg5 (fun j e hj => absurd hj (by have := (O1.out.lt j e).1; omega))); have O5 := Lib.hid ho5; clear ho5 hg5)
        go_roundg (s.size + 1 - (pos + nb))
        case measure => omega
        case rel =>
          refine ⟨pos + nb, pre ++ [r], rfl, by rw [← HTL.out], M5.out, by simp; omega, ?_, HST⟩
          have := O5.out
          simpa using this

theorem rlen_any (s : ByteArray) (w : World) (hsz : s.size ≤ 1099511627776) : Calls Tryz.prog 48 #[.string s] w fun e w' => e = .returned (.int .i64 (ulen s)) ∧ Mine.Mod none_ w w' := by
  have HS := Lib.hid (rsplit_any s w hsz)
  go_enter Tryz.func48, Tryz.ntmps48
  go_wp2_with fail
  refine HS.out.mono ?_
  rintro e w1 ⟨m1, hno, hso⟩
  have M1 := Lib.hid m1
  cases hR : runesOf s with
  | none =>
    obtain rfl := hno hR
    have HE := Lib.hid (ulen_none hR)
    clear hno hso m1 hR
    go_wp2_with fail
    go_ret
    exact ⟨by rw [HE.out]; rfl, M1.out⟩
  | some rs =>
    obtain ⟨v, rfl, ho⟩ := hso rs hR
    have HE := Lib.hid (ulen_some hR)
    obtain ⟨va, vc, rfl⟩ : ∃ va vc, v = .slice va rs.length vc := by
      rcases ownsRow_blk ho with ⟨h1, h2, _⟩ | ⟨g, cap, more, h1, _⟩
      · exact ⟨none, 0, by rw [h1, h2]⟩
      · exact ⟨_, _, h1⟩
    obtain ⟨L, hL⟩ : ∃ L, L = rs.length := ⟨_, rfl⟩
    rw [← hL] at HE ⊢
    clear hno hso m1 hR ho hL
    go_wp2_with fail
    go_ret
    exact ⟨by rw [HE.out]; rfl, M1.out⟩
end Go.Proofs.YtjgjjlolhdlofaaGreatDoor

namespace Go.Proofs.YtjgjjlolhdlofaaGreatDoor
open Go.RowKit Go.Mine

theorem nameOk_bools (s q : Int) : nameOk s q = (decide (1 ≤ s) && decide (s ≤ 16) && decide (1 ≤ q) && decide (q ≤ 1099511627776)) := by
  unfold nameOk inB
  rw [Bool.eq_iff_iff]
  simp only [decide_eq_true_eq, Bool.and_eq_true]
  omega

set_option maxHeartbeats 1000000 in
set_option maxRecDepth 1000000 in
theorem rname_any (s q : Int) (w : World) : Calls Tryz.prog 59 #[.agg #[.int .i64 s, .int .i64 q]] w fun e w' => e = .returned (.bool (nameOk s q)) ∧ Mine.Mod none_ w w' := by
  have m0 := (Mine.Mod.refl none_ w).alloc (.cells #[.int .i64 s, .int .i64 q] 42)
  rw [nameOk_bools]
  go_enter Tryz.func59, Tryz.ntmps59
  cases h0 : decide (1 ≤ s)
  · go_wp2_with fail
    go_ret
    exact ⟨rfl, m0⟩
  · cases h1 : decide (s ≤ 16)
    · go_wp2_with fail
      go_ret
      exact ⟨rfl, m0⟩
    · cases h2 : decide (1 ≤ q)
      · go_wp2_with fail
        go_ret
        exact ⟨rfl, m0⟩
      · cases h3 : decide (q ≤ 1099511627776)
        · go_wp2_with fail
          go_ret
          exact ⟨rfl, m0⟩
        · go_wp2_with fail
          go_ret
          exact ⟨rfl, m0⟩

theorem textOk_bools (s : ByteArray) (h : ¬ 800 < (s.size : Int)) : textOk s = (decide (1 ≤ ulen s) && decide (ulen s ≤ 200)) := by
  unfold textOk inB
  rw [Bool.eq_iff_iff]
  simp only [decide_eq_true_eq, Bool.and_eq_true]
  omega

set_option maxHeartbeats 1000000 in
set_option maxRecDepth 1000000 in
theorem rtextOk_any (s : ByteArray) (w : World) (hsz : s.size < 4611686018427387904) : Calls Tryz.prog 64 #[.string s] w fun e w' => e = .returned (.bool (textOk s)) ∧ Mine.Mod none_ w w' := by
  by_cases h8 : 800 < (s.size : Int)
  · have HE := Lib.hid (show textOk s = false by unfold textOk; simp; omega)
    have hd : decide (800 < (s.size : Int)) = true := by simpa using h8
    go_enter Tryz.func64, Tryz.ntmps64
    go_wp2_with fail
    go_ret
    exact ⟨by rw [HE.out]; rfl, Mine.Mod.refl _ _⟩
  · have HE := Lib.hid (textOk_bools s h8)
    have hd : decide (800 < (s.size : Int)) = false := by simpa using h8
    have HL := Lib.hid (rlen_any s w (by omega))
    obtain ⟨n, hn⟩ : ∃ n, n = ulen s := ⟨_, rfl⟩
    rw [← hn] at HL HE
    clear hn
    go_enter Tryz.func64, Tryz.ntmps64
    go_wp2_with fail
    refine HL.out.mono ?_
    rintro e w1 ⟨rfl, m1⟩
    have M1 := Lib.hid m1
    clear m1
    cases h1 : decide (1 ≤ n)
    · go_wp2_with fail
      go_ret
      exact ⟨by rw [HE.out, h1]; rfl, M1.out⟩
    · cases h2 : decide (n ≤ 200)
      · go_wp2_with fail
        go_ret
        exact ⟨by rw [HE.out, h1, h2]; rfl, M1.out⟩
      · go_wp2_with fail
        go_ret
        exact ⟨by rw [HE.out, h1, h2]; rfl, M1.out⟩

theorem spansFrom_last : ∀ (l : List (Int × Int)) (last : Int), spansFrom last l = true → ∀ y, l.getLast? = some y → ∀ x ∈ l, x.1 + x.2 ≤ y.1 + y.2
  | [], _, _, y, hy, x, hx => by cases hx
  | a :: r, last, h, y, hy, x, hx => by
    unfold spansFrom at h
    simp only [Bool.and_eq_true, decide_eq_true_eq] at h
    cases hr : r with
    | nil =>
      subst hr
      simp at hy hx
      subst hy; subst hx
      exact Int.le_refl _
    | cons b t =>
      rw [hr] at hy
      have hy2 : (b :: t).getLast? = some y := by simpa [List.getLast?_cons_cons] using hy
      rw [← hr] at hy2
      rcases List.mem_cons.1 hx with rfl | hx
      · have hb : b ∈ r := by rw [hr]; exact List.mem_cons_self ..
        have h2 := spansFrom_last r _ h.2 y hy2 b hb
        have h3 := h.2
        rw [hr] at h3
        unfold spansFrom at h3
        simp only [Bool.and_eq_true, decide_eq_true_eq] at h3
        omega
      · exact spansFrom_last r _ h.2 y hy2 x hx
theorem lastLe_all {l : List (Int × Int)} {size : Int} (h : spansOk l = true) : lastLe l size = l.all fun x => decide (x.1 + x.2 ≤ size) := by
  rw [Bool.eq_iff_iff]
  unfold lastLe
  constructor
  · intro hl
    rw [List.all_eq_true]
    intro x hx
    rw [decide_eq_true_eq]
    cases hy : l.getLast? with
    | none => rw [List.getLast?_eq_none_iff.1 hy] at hx; cases hx
    | some y =>
      rw [hy] at hl
      simp only [decide_eq_true_eq] at hl
      have := spansFrom_last l _ h y hy x hx
      omega
  · intro ha
    cases hy : l.getLast? with
    | none => rfl
    | some y => exact List.all_eq_true.1 ha y (List.mem_of_getLast? hy)
theorem text_empty {s : ByteArray} (h : s.toList.isEmpty = true) : s = ⟨#[]⟩ := by
  have h : s.toList = [] := by simpa using h
  have h3 : s.size = 0 := by
    have := congrArg List.length h
    rw [List.length_nil, ByteArray.toList_eq] at this
    rw [← this]; exact (Array.length_toList (xs := s.data)).symm
  exact ByteArray.ext (Array.eq_empty_of_size_eq_zero (by rw [← h3]; rfl))

set_option maxHeartbeats 8000000 in
set_option maxRecDepth 1000000 in
theorem rmayOp_any (o : OpV) (size : Int) (w : World) (l : List (Int × Int)) (h : o.ok w l) (hsb : -9223372036854775808 ≤ size ∧ size ≤ 9223372036854775807) :
    Calls Tryz.prog 62 #[o.v, .int .i64 size] w fun e w' => e = .returned (.bool (inB size 0 20000 && opMay o l size)) ∧ Mine.Mod none_ w w' := by
  have hsz := h.sz
  have hle := h.sp.le
  have hbig := h.sp.big
  unfold maxLen at hbig
  have HN := Lib.hid h.sp.n
  obtain ⟨W0, hW0⟩ : ∃ W0, w.alloc (.cells o.cs.toArray 58) = W0 := ⟨_, rfl⟩
  obtain ⟨m0, kB⟩ := opBox1 hW0
  obtain ⟨K, hK⟩ : ∃ K, w.heap.size = K := ⟨_, rfl⟩
  rw [hK] at kB
  have H0 := Lib.hid (h.grown m0)
  have M0 := Lib.hid m0
  have K0 := Lib.hid kB
  have c0 : W0.cell? ⟨K, 0, none⟩ = some (.int .i64 o.site) := by rw [kB.cell]; rfl
  have c1 : W0.cell? ⟨K, 1, none⟩ = some (.int .i64 o.seq) := by rw [kB.cell]; rfl
  have c2 : W0.cell? ⟨K, 2, none⟩ = some (.int .i64 o.num) := by rw [kB.cell]; rfl
  obtain ⟨R, hR⟩ : ∃ R, R = (inB size 0 20000 && opMay o l size) := ⟨_, rfl⟩
  rw [← hR]
  have HR := Lib.hid hR
  clear h m0 kB hR
  go_enter Tryz.func62, Tryz.ntmps62
  go_upto_region 1 with fail
  clear hW0 hK
  by_cases h1 : size < 0
  · have HE := Lib.hid (show R = false by rw [HR.out]; simp [inB]; omega)
    have d1 : decide (size < 0) = true := by simpa using h1
    clear c0 c1 c2
    go_wp2_with fail
    go_ret
    exact ⟨by rw [HE.out]; rfl, M0.out⟩
  have d1 : decide (size < 0) = false := by simpa using h1
  by_cases h2 : 20000 < size
  · have HE := Lib.hid (show R = false by rw [HR.out]; simp [inB]; omega)
    have d2 : decide (20000 < size) = true := by simpa using h2
    clear c0 c1 c2
    go_wp2_with fail
    go_ret
    exact ⟨by rw [HE.out]; rfl, M0.out⟩
  have d2 : decide (20000 < size) = false := by simpa using h2
  have HR1 := Lib.hid (show R = opMay o l size by rw [HR.out]; simp [inB]; omega)
  clear HR
  cases h3 : nameOk o.site o.seq
  · have HE := Lib.hid (show R = false by rw [HR1.out]; simp [opMay, h3])
    go_wp2_with fail
    refine (rname_any o.site o.seq _).mono ?_
    rintro e w1 ⟨rfl, m1⟩
    rw [h3]
    have M1 := Lib.hid (M0.out.trans m1)
    clear m1 c0 c1 c2
    go_wp2_with fail
    go_ret
    exact ⟨by rw [HE.out]; rfl, M1.out⟩
  go_wp2_with fail
  refine (rname_any o.site o.seq _).mono ?_
  rintro e w1 ⟨rfl, m1⟩
  rw [h3]
  have M1 := Lib.hid (M0.out.trans m1)
  have H1 := Lib.hid (H0.out.grown m1)
  have K1 := Lib.hid (K0.out.mod m1 (fun e => e))
  have c2 : w1.cell? ⟨K, 2, none⟩ = some (.int .i64 o.num) := by rw [K1.out.cell]; rfl
  have c3 : w1.cell? ⟨K, 3, none⟩ = some (.int .i64 o.kind) := by rw [K1.out.cell]; rfl
  have c4 : w1.cell? ⟨K, 4, none⟩ = some (.int .i64 o.at_) := by rw [K1.out.cell]; rfl
  have c5 : w1.cell? ⟨K, 5, none⟩ = some (.string o.text) := by rw [K1.out.cell]; rfl
  have c6 : w1.cell? ⟨K, 6, none⟩ = some (.slice o.sa o.slen o.scap) := by rw [K1.out.cell]; rfl
  clear m1 M0 H0 K0
  by_cases h4 : o.num < 0
  · have HE := Lib.hid (show R = false by rw [HR1.out]; simp [opMay, inB]; omega)
    have d4 : decide (o.num < 0) = true := by simpa using h4
    go_wp2_with fail
    go_ret
    exact ⟨by rw [HE.out]; rfl, M1.out⟩
  have d4 : decide (o.num < 0) = false := by simpa using h4
  by_cases h5 : 1099511627776 < o.num
  · have HE := Lib.hid (show R = false by rw [HR1.out]; simp [opMay, inB]; omega)
    have d5 : decide (1099511627776 < o.num) = true := by simpa using h5
    go_wp2_with fail
    go_ret
    exact ⟨by rw [HE.out]; rfl, M1.out⟩
  have d5 : decide (1099511627776 < o.num) = false := by simpa using h5
  have HR2 := Lib.hid (show R = if o.kind = 1 then insOk o size else if o.kind = 2 then delOk o size l else false by
    have : inB o.num 0 1099511627776 = true := by simp [inB]; omega
    rw [HR1.out]; unfold opMay; rw [h3, this]; rfl)
  clear HR1 h3
  by_cases hk1 : o.kind = 1
  · have b1 : (o.kind == 1) = true := by simpa using hk1
    have HR3 := Lib.hid (show R = insOk o size by rw [HR2.out, if_pos hk1])
    clear HR2 hk1
    cases e1 : decide (0 ≤ o.at_)
    · have HE := Lib.hid (show R = false by rw [HR3.out]; simp at e1; simp [insOk, inB]; omega)
      go_wp2_with fail
      go_ret
      exact ⟨by rw [HE.out]; rfl, M1.out⟩
    cases e2 : decide (o.at_ ≤ size)
    · have HE := Lib.hid (show R = false by rw [HR3.out]; simp at e2; simp [insOk, inB]; omega)
      go_wp2_with fail
      go_ret
      exact ⟨by rw [HE.out]; rfl, M1.out⟩
    have HAT := Lib.hid (show inB o.at_ 0 size = true by simp at e1 e2; simp [inB]; omega)
    cases e3 : textOk o.text
    · have HE := Lib.hid (show R = false by rw [HR3.out]; simp [insOk, e3])
      go_wp2_with fail
      refine (rtextOk_any o.text _ hsz).mono ?_
      rintro e w2 ⟨rfl, m2⟩
      rw [e3]
      have M2 := Lib.hid (M1.out.trans m2)
      clear m2 c2 c3 c4 c5 c6
      go_wp2_with fail
      go_ret
      exact ⟨by rw [HE.out]; rfl, M2.out⟩
    go_wp2_with fail
    refine (rtextOk_any o.text _ hsz).mono ?_
    rintro e w2 ⟨rfl, m2⟩
    rw [e3]
    have M2 := Lib.hid (M1.out.trans m2)
    have K2 := Lib.hid (K1.out.mod m2 (fun e => e))
    have hs8 : o.text.size ≤ 800 ∧ 1 ≤ ulen o.text ∧ ulen o.text ≤ 200 := by
      unfold textOk inB at e3
      simp only [Bool.and_eq_true, decide_eq_true_eq] at e3
      omega
    have E3 := Lib.hid e3
    have c5 : w2.cell? ⟨K, 5, none⟩ = some (.string o.text) := by rw [K2.out.cell]; rfl
    have c6 : w2.cell? ⟨K, 6, none⟩ = some (.slice o.sa o.slen o.scap) := by rw [K2.out.cell]; rfl
    clear m2 c2 c3 c4 e3
    by_cases h6 : o.slen = 0
    · have b6 : ((o.slen : Int) == 0) = true := by simpa using h6
      have b6' : (o.slen == 0) = true := by simpa using h6
      go_wp2_with fail
      refine (rlen_any o.text _ (by omega)).mono ?_
      rintro e w3 ⟨rfl, m3⟩
      obtain ⟨n, hn⟩ : ∃ n, n = ulen o.text := ⟨_, rfl⟩
      rw [← hn] at hs8 ⊢
      have hw : IntKind.i64.wrap (size + n) = size + n := by rw [IntKind.wrap_i64]; omega
      have HF := Lib.hid (show R = decide (size + n ≤ 20000) by
        rw [HR3.out]
        unfold insOk
        rw [HAT.out, E3.out, ← hn]
        rw [Bool.eq_iff_iff]
        simp [h6]
        omega)
      have M3 := Lib.hid (M2.out.trans m3)
      clear m3 hn c5 c6 h6 b6 b6'
      go_wp2_with fail
      go_ret
      exact ⟨by rw [HF.out]; rfl, M3.out⟩
    · have b6 : ((o.slen : Int) == 0) = false := by simpa using h6
      have b6' : (o.slen == 0) = false := by simpa using h6
      have HE := Lib.hid (show R = false by rw [HR3.out]; simp [insOk, h6])
      go_wp2_with fail
      go_ret
      exact ⟨by rw [HE.out]; rfl, M2.out⟩
  have b1 : (o.kind == 1) = false := by simpa using hk1
  by_cases hk2 : o.kind = 2
  · have b2 : (o.kind == 2) = true := by simpa using hk2
    have HR3 := Lib.hid (show R = delOk o size l by rw [HR2.out, if_neg hk1, if_pos hk2])
    clear HR2 hk1
    by_cases h6 : o.at_ = 0
    · have b6 : (o.at_ == 0) = true := by simpa using h6
      have HAT := Lib.hid h6
      cases h7 : o.text.toList.isEmpty
      · have HE := Lib.hid (show R = false by rw [HR3.out]; simp [delOk, h7])
        have h7' : ¬ o.text.toList = [] := by simpa using h7
        clear h7
        go_wp2_with fail
        go_ret
        exact ⟨by rw [HE.out]; rfl, M1.out⟩
      · have H7 := Lib.hid h7
        rw [text_empty h7] at c5
        clear h7
        have HSM := Lib.hid (rspansMay_any w1 o.sa o.slen o.scap l H1.out.sp)
        cases h8 : spansOk l
        · have HE := Lib.hid (show R = false by rw [HR3.out]; simp [delOk, h8])
          rw [h8] at HSM
          go_wp2_with fail
          refine HSM.out.mono ?_
          rintro e w2 ⟨rfl, m2⟩
          have M2 := Lib.hid (M1.out.trans m2)
          clear m2 c2 c3 c4 c5 c6
          go_wp2_with fail
          go_ret
          exact ⟨by rw [HE.out]; rfl, M2.out⟩
        · rw [h8] at HSM
          have H8 := Lib.hid h8
          have HR4 := Lib.hid (show R = l.all fun x => decide (x.1 + x.2 ≤ size) by
            rw [HR3.out, ← lastLe_all h8]
            unfold delOk
            rw [HAT.out, H7.out, h8]; rfl)
          clear h8 HR3
          go_wp2_with fail
          refine HSM.out.mono ?_
          rintro e w2 ⟨rfl, m2⟩
          have M2 := Lib.hid (M1.out.trans m2)
          have H2 := Lib.hid (H1.out.grown m2)
          have K2 := Lib.hid (K1.out.mod m2 (fun e => e))
          clear m2 c2 c3 c4 c5 c6 HSM
          go_wp2_with fail
          go_loopg [5] o.slen (fun g s5 wx => ∃ k : Nat, g = o.slen - k ∧ s5 = .int .i64 k ∧ k ≤ o.slen ∧ Mine.Mod none_ w2 wx ∧ RowKit.Hid (∀ (j : Nat) (x : Int × Int), j < k → l[j]? = some x → x.1 + x.2 ≤ size))
          case atStart => exact ⟨0, rfl, rfl, Nat.zero_le _, Mine.Mod.refl _ _, Lib.hid (fun j x hj => absurd hj (by omega))⟩
          case round =>
            obtain ⟨k, rfl, rfl, hk, mx, hst⟩ := hrel
            have MX := Lib.hid (M2.out.trans mx)
            have kx := K2.out.mod mx (fun e => e)
            have c6 : wr.cell? ⟨K, 6, none⟩ = some (.slice o.sa o.slen o.scap) := by rw [kx.cell]; rfl
            by_cases hlk : k < o.slen
            · obtain ⟨⟨f, n⟩, hx⟩ : ∃ x, l[k]? = some x := ⟨l[k]'(by rw [HN.out]; exact hlk), by simp⟩
              obtain ⟨b, off, hsa, e0, e1⟩ := (H2.out.sp.grown mx).cells k _ hx
              obtain ⟨f1, f2, f3, f4⟩ := spansFrom_ok l _ H8.out _ (List.mem_of_getElem? hx)
              dsimp only at e0 e1 f1 f2 f3 f4
              have hw : IntKind.i64.wrap (f + n) = f + n := by rw [IntKind.wrap_i64]; omega
              have MX0 := Lib.hid mx
              rw [hsa] at c6
              have HX := Lib.hid hx
              clear hsa kx mx hx
              by_cases hgt : size < f + n
              · have HE := Lib.hid (show R = false by
                  rw [HR4.out, List.all_eq_false]
                  exact ⟨_, List.mem_of_getElem? HX.out, by simp; omega⟩)
                have dg : decide (size < f + n) = true := by simpa using hgt
                go_upto_region 10 with fail
                go_quiet (fail)
                have MQ := Lib.hid (MX.out.drewN nq)
                generalize wr.drewN nq = wq at MQ ⊢
                clear c6 e0 e1
                go_wp2_with fail
                go_ret
                exact ⟨by rw [HE.out]; rfl, MQ.out⟩
              · have HST := Lib.hid (show ∀ (j : Nat) (x : Int × Int), j < k + 1 → l[j]? = some x → x.1 + x.2 ≤ size from fun j x hj hx2 => by
                  by_cases hjk : j = k
                  · subst hjk
                    rw [HX.out] at hx2
                    obtain rfl := Option.some.inj hx2
                    show f + n ≤ size
                    omega
                  · exact hst.out j x (by omega) hx2)
                have dg : decide (size < f + n) = false := by simpa using hgt
                clear hst
                go_upto_region 10 with fail
                go_quiet (fail)
                have MQ := Lib.hid (MX0.out.drewN nq)
                generalize wr.drewN nq = wq at MQ ⊢
                clear c6 e0 e1
                go_wp2_with fail
                go_roundg (o.slen - (k + 1))
                all_goals first
                  | omega
                  | exact ⟨k + 1, rfl, by go_num, by omega, MQ.out, HST⟩
            · obtain hkl : k = o.slen := by omega
              have HE := Lib.hid (show R = true by
                rw [HR4.out, List.all_eq_true]
                intro x hx
                obtain ⟨j, hj, rfl⟩ := List.getElem_of_mem hx
                rw [decide_eq_true_eq]
                have hn := HN.out
                exact hst.out j _ (by omega) (List.getElem?_eq_getElem hj))
              subst hkl
              clear hst mx kx
              go_wp2_with fail
              go_ret
              exact ⟨by rw [HE.out]; rfl, MX.out⟩
    · have b6 : (o.at_ == 0) = false := by simpa using h6
      have HE := Lib.hid (show R = false by rw [HR3.out]; simp [delOk, h6])
      go_wp2_with fail
      go_ret
      exact ⟨by rw [HE.out]; rfl, M1.out⟩
  · have b2 : (o.kind == 2) = false := by simpa using hk2
    have HE := Lib.hid (show R = false by rw [HR2.out, if_neg hk1, if_neg hk2])
    go_wp2_with fail
    go_ret
    exact ⟨by rw [HE.out]; rfl, M1.out⟩
end Go.Proofs.YtjgjjlolhdlofaaGreatDoor

namespace Go.Proofs.YtjgjjlolhdlofaaGreatDoor
open Go.RowKit Go.Mine

/-- An edit. -/
structure EditV where
  site : Int
  seq : Int
  ctx : Int
  kind : Int
  at_ : Int
  len : Int
  text : ByteArray
abbrev EditV.cs (e : EditV) : List Value := [.int .i64 e.site, .int .i64 e.seq, .int .i64 e.ctx, .int .i64 e.kind, .int .i64 e.at_, .int .i64 e.len, .string e.text]
abbrev EditV.v (e : EditV) : Value := .agg #[.int .i64 e.site, .int .i64 e.seq, .int .i64 e.ctx, .int .i64 e.kind, .int .i64 e.at_, .int .i64 e.len, .string e.text]
/-- Its text can be read. -/
structure EditV.ok (e : EditV) (w : World) : Prop where
  tx : txtOk w e.text
  sz : e.text.size < 4611686018427387904
theorem EditV.ok.grown {e : EditV} {w w' : World} (h : e.ok w) (m : Mine.Mod none_ w w') : e.ok w' := ⟨h.tx.grown m, h.sz⟩
def editKind (e : EditV) : Bool := if e.kind = 1 then decide (e.len = 0) && textOk e.text else if e.kind = 2 then inB e.len 1 20000 && e.text.toList.isEmpty else false
/-- May an edit be? -/
def editOk (e : EditV) : Bool := nameOk e.site e.seq && inB e.ctx 0 1099511627776 && inB e.at_ 0 20000 && editKind e
theorem editBox {w W0 : World} {e : EditV} (hW : w.alloc (.cells e.cs.toArray 60) = W0) : Mine.Mod none_ w W0 ∧ Blk W0 w.heap.size e.cs 60 := by
  rw [← hW]
  exact ⟨(Mine.Mod.refl none_ w).alloc _, Blk.new⟩

set_option maxHeartbeats 4000000 in
set_option maxRecDepth 1000000 in
theorem mayEdit_any (e : EditV) (w : World) (h : e.ok w) :
    Calls Tryz.prog 80 #[e.v] w fun r w' => r = .returned (.bool (editOk e)) ∧ Mine.Mod none_ w w' := by
  obtain ⟨W0, hW0⟩ : ∃ W0, w.alloc (.cells e.cs.toArray 60) = W0 := ⟨_, rfl⟩
  obtain ⟨m0, kB⟩ := editBox hW0
  obtain ⟨K, hK⟩ : ∃ K, w.heap.size = K := ⟨_, rfl⟩
  rw [hK] at kB
  have M0 := Lib.hid m0
  have K0 := Lib.hid kB
  have HO := Lib.hid (h.grown m0)
  have hsz := h.sz
  obtain ⟨R, hR⟩ : ∃ R, R = editOk e := ⟨_, rfl⟩
  rw [← hR]
  have HR := Lib.hid hR
  have c0 : W0.cell? ⟨K, 0, none⟩ = some (.int .i64 e.site) := by rw [kB.cell]; rfl
  have c1 : W0.cell? ⟨K, 1, none⟩ = some (.int .i64 e.seq) := by rw [kB.cell]; rfl
  clear h m0 kB hR
  go_enter Tryz.func80, Tryz.ntmps80
  go_upto_region 1 with fail
  clear hW0 hK
  go_wp2_with fail
  refine (vname_any e.site e.seq _).mono ?_
  rintro r w1 ⟨rfl, m1⟩
  have M1 := Lib.hid (M0.out.trans m1)
  have K1 := Lib.hid (K0.out.mod m1 (fun e => e))
  have H1 := Lib.hid (HO.out.grown m1)
  have c2 : w1.cell? ⟨K, 2, none⟩ = some (.int .i64 e.ctx) := by rw [K1.out.cell]; rfl
  have c3 : w1.cell? ⟨K, 3, none⟩ = some (.int .i64 e.kind) := by rw [K1.out.cell]; rfl
  have c4 : w1.cell? ⟨K, 4, none⟩ = some (.int .i64 e.at_) := by rw [K1.out.cell]; rfl
  have c5 : w1.cell? ⟨K, 5, none⟩ = some (.int .i64 e.len) := by rw [K1.out.cell]; rfl
  have c6 : w1.cell? ⟨K, 6, none⟩ = some (.string e.text) := by rw [K1.out.cell]; rfl
  clear m1 c0 c1 M0 K0 HO
  cases hq : nameOk e.site e.seq
  · have HE := Lib.hid (show R = false by rw [HR.out]; unfold editOk; rw [hq]; rfl)
    go_wp2_with fail
    go_ret
    exact ⟨by rw [HE.out]; rfl, M1.out⟩
  cases hx : inB e.ctx 0 1099511627776
  · have HE := Lib.hid (show R = false by rw [HR.out]; unfold editOk; rw [hx, Bool.and_false]; rfl)
    go_wp2_with fail
    refine (owithin_any e.ctx 0 1099511627776 _).mono ?_
    rintro r w2 ⟨rfl, rfl⟩
    rw [hx]
    go_wp2_with fail
    go_ret
    exact ⟨by rw [HE.out]; rfl, M1.out⟩
  go_wp2_with fail
  refine (owithin_any e.ctx 0 1099511627776 _).mono ?_
  rintro r w2 ⟨rfl, rfl⟩
  rw [hx]
  cases ha : inB e.at_ 0 20000
  · have HE := Lib.hid (show R = false by rw [HR.out]; unfold editOk; rw [ha, Bool.and_false]; rfl)
    go_wp2_with fail
    refine (owithin_any e.at_ 0 20000 _).mono ?_
    rintro r w3 ⟨rfl, rfl⟩
    rw [ha]
    go_wp2_with fail
    go_ret
    exact ⟨by rw [HE.out]; rfl, M1.out⟩
  have HR2 := Lib.hid (show R = editKind e by rw [HR.out]; unfold editOk; rw [hq, hx, ha]; rfl)
  go_wp2_with fail
  refine (owithin_any e.at_ 0 20000 _).mono ?_
  rintro r w3 ⟨rfl, rfl⟩
  rw [ha]
  clear hq hx ha HR
  by_cases hk1 : e.kind = 1
  · have HR3 := Lib.hid (show R = (decide (e.len = 0) && textOk e.text) by rw [HR2.out]; unfold editKind; rw [if_pos hk1])
    rw [hk1] at c3
    clear hk1
    by_cases hl : e.len = 0
    · rw [hl] at c5
      have HR4 := Lib.hid (show R = textOk e.text by rw [HR3.out, hl]; rfl)
      clear hl
      go_wp2_with fail
      refine (mayText_any e.text _ H1.out.tx hsz).mono ?_
      rintro r w4 ⟨rfl, m4⟩
      have M4 := Lib.hid (M1.out.trans m4)
      clear m4
      go_wp2_with fail
      go_ret
      exact ⟨by rw [HR4.out]; rfl, M4.out⟩
    · have hb : (e.len == 0) = false := by simpa using hl
      have HE := Lib.hid (show R = false by rw [HR3.out]; simp [hl])
      go_wp2_with fail
      go_ret
      exact ⟨by rw [HE.out]; rfl, M1.out⟩
  have hb1 : (e.kind == 1) = false := by simpa using hk1
  by_cases hk2 : e.kind = 2
  · have HR3 := Lib.hid (show R = (inB e.len 1 20000 && e.text.toList.isEmpty) by rw [HR2.out]; unfold editKind; rw [if_neg hk1, if_pos hk2])
    rw [hk2] at c3
    clear hk1 hk2 hb1
    cases hl : inB e.len 1 20000
    · have HE := Lib.hid (show R = false by rw [HR3.out, hl]; rfl)
      go_wp2_with fail
      refine (owithin_any e.len 1 20000 _).mono ?_
      rintro r w4 ⟨rfl, rfl⟩
      rw [hl]
      go_wp2_with fail
      go_ret
      exact ⟨by rw [HE.out]; rfl, M1.out⟩
    · cases ht : e.text.toList.isEmpty
      · have HE := Lib.hid (show R = false by rw [HR3.out, ht, Bool.and_false])
        go_wp2_with fail
        refine (owithin_any e.len 1 20000 _).mono ?_
        rintro r w4 ⟨rfl, rfl⟩
        rw [hl]
        go_wp2_with fail
        go_ret
        exact ⟨by rw [HE.out]; rfl, M1.out⟩
      · have HE := Lib.hid (show R = true by rw [HR3.out, ht, hl]; rfl)
        rw [text_empty ht] at c6
        clear ht
        go_wp2_with fail
        refine (owithin_any e.len 1 20000 _).mono ?_
        rintro r w4 ⟨rfl, rfl⟩
        rw [hl]
        go_wp2_with fail
        go_ret
        exact ⟨by rw [HE.out]; rfl, M1.out⟩
  · have hb2 : (e.kind == 2) = false := by simpa using hk2
    have HE := Lib.hid (show R = false by rw [HR2.out]; unfold editKind; rw [if_neg hk1, if_neg hk2])
    go_wp2_with fail
    go_ret
    exact ⟨by rw [HE.out]; rfl, M1.out⟩

theorem inB_two (x lo hi : Int) : inB x lo hi = (!decide (x < lo) && !decide (hi < x)) := by
  unfold inB
  rw [Bool.eq_iff_iff]
  simp
theorem inB_ge (x lo hi : Int) : inB x lo hi = (decide (lo ≤ x) && decide (x ≤ hi)) := by
  unfold inB
  rw [Bool.eq_iff_iff]
  simp

set_option maxHeartbeats 4000000 in
set_option maxRecDepth 1000000 in
theorem rmayEdit_any (e : EditV) (w : World) (h : e.ok w) :
    Calls Tryz.prog 31 #[e.v] w fun r w' => r = .returned (.bool (editOk e)) ∧ Mine.Mod none_ w w' := by
  obtain ⟨W0, hW0⟩ : ∃ W0, w.alloc (.cells e.cs.toArray 60) = W0 := ⟨_, rfl⟩
  obtain ⟨m0, kB⟩ := editBox hW0
  obtain ⟨K, hK⟩ : ∃ K, w.heap.size = K := ⟨_, rfl⟩
  rw [hK] at kB
  have M0 := Lib.hid m0
  have K0 := Lib.hid kB
  have hsz := h.sz
  obtain ⟨R, hR⟩ : ∃ R, R = editOk e := ⟨_, rfl⟩
  rw [← hR]
  have HR := Lib.hid hR
  have c0 : W0.cell? ⟨K, 0, none⟩ = some (.int .i64 e.site) := by rw [kB.cell]; rfl
  have c1 : W0.cell? ⟨K, 1, none⟩ = some (.int .i64 e.seq) := by rw [kB.cell]; rfl
  clear h m0 kB hR
  go_enter Tryz.func31, Tryz.ntmps31
  go_upto_region 1 with fail
  clear hW0 hK
  go_wp2_with fail
  refine (rname_any e.site e.seq _).mono ?_
  rintro r w1 ⟨rfl, m1⟩
  have M1 := Lib.hid (M0.out.trans m1)
  have K1 := Lib.hid (K0.out.mod m1 (fun e => e))
  have c2 : w1.cell? ⟨K, 2, none⟩ = some (.int .i64 e.ctx) := by rw [K1.out.cell]; rfl
  have c3 : w1.cell? ⟨K, 3, none⟩ = some (.int .i64 e.kind) := by rw [K1.out.cell]; rfl
  have c4 : w1.cell? ⟨K, 4, none⟩ = some (.int .i64 e.at_) := by rw [K1.out.cell]; rfl
  have c5 : w1.cell? ⟨K, 5, none⟩ = some (.int .i64 e.len) := by rw [K1.out.cell]; rfl
  have c6 : w1.cell? ⟨K, 6, none⟩ = some (.string e.text) := by rw [K1.out.cell]; rfl
  clear m1 c0 c1 M0 K0
  have HB := Lib.hid (show R = (nameOk e.site e.seq && (!decide (e.ctx < 0) && !decide (1099511627776 < e.ctx)) && (!decide (e.at_ < 0) && !decide (20000 < e.at_)) && editKind e) by rw [HR.out, ← inB_two, ← inB_two]; rfl)
  cases hq : nameOk e.site e.seq
  · have HE := Lib.hid (show R = false by rw [HB.out, hq]; rfl)
    go_wp2_with fail
    go_ret
    exact ⟨by rw [HE.out]; rfl, M1.out⟩
  cases hx1 : decide (e.ctx < 0)
  case true =>
    have HE := Lib.hid (show R = false by rw [HB.out, hq, hx1]; rfl)
    go_wp2_with fail
    go_ret
    exact ⟨by rw [HE.out]; rfl, M1.out⟩
  cases hx2 : decide (1099511627776 < e.ctx)
  case true =>
    have HE := Lib.hid (show R = false by rw [HB.out, hq, hx1, hx2]; rfl)
    go_wp2_with fail
    go_ret
    exact ⟨by rw [HE.out]; rfl, M1.out⟩
  cases ha1 : decide (e.at_ < 0)
  case true =>
    have HE := Lib.hid (show R = false by rw [HB.out, hq, hx1, hx2, ha1]; rfl)
    go_wp2_with fail
    go_ret
    exact ⟨by rw [HE.out]; rfl, M1.out⟩
  cases ha2 : decide (20000 < e.at_)
  case true =>
    have HE := Lib.hid (show R = false by rw [HB.out, hq, hx1, hx2, ha1, ha2]; rfl)
    go_wp2_with fail
    go_ret
    exact ⟨by rw [HE.out]; rfl, M1.out⟩
  have HR2 := Lib.hid (show R = editKind e by rw [HB.out, hq, hx1, hx2, ha1, ha2]; rfl)
  clear HB HR
  by_cases hk1 : e.kind = 1
  · have HR3 := Lib.hid (show R = (decide (e.len = 0) && textOk e.text) by rw [HR2.out]; unfold editKind; rw [if_pos hk1])
    rw [hk1] at c3
    clear hk1
    by_cases hl : e.len = 0
    · rw [hl] at c5
      have HR4 := Lib.hid (show R = textOk e.text by rw [HR3.out, hl]; rfl)
      clear hl
      go_wp2_with fail
      refine (rtextOk_any e.text _ hsz).mono ?_
      rintro r w4 ⟨rfl, m4⟩
      have M4 := Lib.hid (M1.out.trans m4)
      clear m4
      go_wp2_with fail
      go_ret
      exact ⟨by rw [HR4.out]; rfl, M4.out⟩
    · have hb : (e.len == 0) = false := by simpa using hl
      have HE := Lib.hid (show R = false by rw [HR3.out]; simp [hl])
      go_wp2_with fail
      go_ret
      exact ⟨by rw [HE.out]; rfl, M1.out⟩
  have hb1 : (e.kind == 1) = false := by simpa using hk1
  by_cases hk2 : e.kind = 2
  · have HR3 := Lib.hid (show R = ((decide (1 ≤ e.len) && decide (e.len ≤ 20000)) && e.text.toList.isEmpty) by rw [HR2.out, ← inB_ge]; unfold editKind; rw [if_neg hk1, if_pos hk2])
    rw [hk2] at c3
    clear hk1 hk2 hb1
    cases hl1 : decide (1 ≤ e.len)
    · have HE := Lib.hid (show R = false by rw [HR3.out, hl1]; rfl)
      go_wp2_with fail
      go_ret
      exact ⟨by rw [HE.out]; rfl, M1.out⟩
    cases hl2 : decide (e.len ≤ 20000)
    · have HE := Lib.hid (show R = false by rw [HR3.out, hl1, hl2]; rfl)
      go_wp2_with fail
      go_ret
      exact ⟨by rw [HE.out]; rfl, M1.out⟩
    cases ht : e.text.toList.isEmpty
    · have HE := Lib.hid (show R = false by rw [HR3.out, ht, Bool.and_false])
      go_wp2_with fail
      go_ret
      exact ⟨by rw [HE.out]; rfl, M1.out⟩
    · have HE := Lib.hid (show R = true by rw [HR3.out, ht, hl1, hl2]; rfl)
      rw [text_empty ht] at c6
      clear ht
      go_wp2_with fail
      go_ret
      exact ⟨by rw [HE.out]; rfl, M1.out⟩
  · have hb2 : (e.kind == 2) = false := by simpa using hk2
    have HE := Lib.hid (show R = false by rw [HR2.out]; unfold editKind; rw [if_neg hk1, if_neg hk2])
    go_wp2_with fail
    go_ret
    exact ⟨by rw [HE.out]; rfl, M1.out⟩
end Go.Proofs.YtjgjjlolhdlofaaGreatDoor

namespace Go.Proofs.YtjgjjlolhdlofaaGreatDoor
open Go.RowKit Go.Mine

/-- Numbers in memory. -/
structure IsVec (w : World) (a : Option Addr) (len cap : Nat) (l : List Int) : Prop where
  n : l.length = len
  le : len ≤ cap
  big : cap ≤ maxLen
  ok : ∀ x ∈ l, -9223372036854775808 ≤ x ∧ x ≤ 9223372036854775807
  cells : ∀ (i : Nat) (x : Int), l[i]? = some x → ∃ b off, a = some ⟨b, off, none⟩ ∧ w.cell? ⟨b, off + i, none⟩ = some (.int .i64 x)
theorem IsVec.grown {w w' : World} {a : Option Addr} {len cap : Nat} {l : List Int} (h : IsVec w a len cap l) (m : Mine.Mod none_ w w') : IsVec w' a len cap l :=
  ⟨h.n, h.le, h.big, h.ok, fun i x hx => by
    obtain ⟨b, off, e, c0⟩ := h.cells i x hx
    exact ⟨b, off, e, m.cell (fun e => e) c0⟩⟩

def lastPos (l : List Int) : Bool := match l.getLast? with
  | none => true
  | some x => decide (0 < x)
/-- May a vector be? -/
def vecOk (l : List Int) : Bool := (l.all fun x => inB x 0 1099511627776) && decide (l.length ≤ 16) && lastPos l
/-- The count of a site. -/
def cntV (l : List Int) (s : Int) : Int := if inB s 1 l.length then (l[(s - 1).toNat]?).getD 0 else 0
theorem vec_snoc {l : List Int} {k : Nat} {x : Int} (h : l[k]? = some x) : l.take (k + 1) = l.take k ++ [x] := by
  obtain ⟨hk, e⟩ := List.getElem?_eq_some_iff.1 h
  rw [List.take_succ_eq_append_getElem hk, e]
theorem lastPos_at {l : List Int} {n : Nat} {x : Int} (hl : l.length = n + 1) (hx : l[n]? = some x) : lastPos l = decide (0 < x) := by
  unfold lastPos
  rw [List.getLast?_eq_getElem?, hl, Nat.add_sub_cancel, hx]
theorem cntV_le {l : List Int} (h : vecOk l = true) (s : Int) : 0 ≤ cntV l s ∧ cntV l s ≤ 1099511627776 := by
  unfold cntV
  split
  · cases hx : l[(s - 1).toNat]? with
    | none => simp
    | some x =>
      unfold vecOk at h
      simp only [Bool.and_eq_true] at h
      have := List.all_eq_true.1 h.1.1 x (List.mem_of_getElem? hx)
      unfold inB at this
      simp only [decide_eq_true_eq] at this
      simpa using this
  · simp

set_option maxHeartbeats 2000000 in
set_option maxRecDepth 1000000 in
theorem vmay_any (w : World) (a : Option Addr) (len cap : Nat) (l : List Int) (h : IsVec w a len cap l) :
    Calls Tryz.prog 78 #[.slice a len cap] w fun e w' => e = .returned (.bool (vecOk l)) ∧ Mine.Mod none_ w w' := by
  have hle := h.le
  have hcap := h.big
  unfold maxLen at hcap
  have H := Lib.hid h
  have HN := Lib.hid h.n
  obtain ⟨R, hR⟩ : ∃ R, R = vecOk l := ⟨_, rfl⟩
  rw [← hR]
  have HR := Lib.hid hR
  clear h hR
  go_enter Tryz.func78, Tryz.ntmps78
  go_wp2_with fail
  go_loopg [7] len (fun g s7 wx => ∃ k : Nat, g = len - k ∧ s7 = .int .i64 k ∧ k ≤ len ∧ wx = w ∧ RowKit.Hid (((l.take k).all fun x => inB x 0 1099511627776) = true))
  case atStart => exact ⟨0, rfl, rfl, Nat.zero_le _, rfl, Lib.hid rfl⟩
  case round =>
    obtain ⟨k, rfl, rfl, hk, rfl, hst⟩ := hrel
    by_cases hlk : k < len
    · obtain ⟨x, hx⟩ : ∃ x, l[k]? = some x := ⟨l[k]'(by rw [HN.out]; exact hlk), by simp⟩
      obtain ⟨b, off, rfl, c0⟩ := H.out.cells k x hx
      have HX := Lib.hid hx
      clear hx
      cases hb : inB x 0 1099511627776
      · have HE := Lib.hid (show R = false by
          rw [HR.out]; unfold vecOk
          have : (l.all fun x => inB x 0 1099511627776) = false := by
            rw [List.all_eq_false]
            exact ⟨x, List.mem_of_getElem? HX.out, by rw [hb]; simp⟩
          rw [this]; rfl)
        clear hst
        go_wp2_with fail
        refine (vwithin_any x 0 1099511627776 _).mono ?_
        rintro e w1 ⟨rfl, rfl⟩
        rw [hb]
        go_wp2_with fail
        go_ret
        exact ⟨by rw [HE.out]; rfl, Mine.Mod.refl _ _⟩
      · have HST := Lib.hid (show ((l.take (k + 1)).all fun x => inB x 0 1099511627776) = true by
          rw [vec_snoc HX.out, List.all_append, hst.out]
          simp [hb])
        clear hst
        go_wp2_with fail
        refine (vwithin_any x 0 1099511627776 _).mono ?_
        rintro e w1 ⟨rfl, rfl⟩
        rw [hb]
        go_wp2_with fail
        go_roundg (len - (k + 1))
        all_goals first
          | omega
          | exact ⟨k + 1, rfl, by go_num, by omega, rfl, HST⟩
    · obtain rfl : k = len := by omega
      have HALL := Lib.hid (show (l.all fun x => inB x 0 1099511627776) = true by
        have := hst.out
        rw [List.take_of_length_le (by rw [HN.out]; exact Nat.le_refl _)] at this
        exact this)
      clear hst
      by_cases h16 : (k : Int) ≤ 16
      · have d16 : decide ((k : Int) ≤ 16) = true := by simpa using h16
        cases k with
        | zero =>
          have HE := Lib.hid (show R = true by
            rw [HR.out]; unfold vecOk
            rw [HALL.out]
            have : l = [] := List.eq_nil_of_length_eq_zero HN.out
            rw [this]; rfl)
          go_wp2_with fail
          go_ret
          exact ⟨by rw [HE.out]; rfl, Mine.Mod.refl _ _⟩
        | succ n =>
          obtain ⟨x, hx⟩ : ∃ x, l[n]? = some x := ⟨l[n]'(by rw [HN.out]; omega), by simp⟩
          obtain ⟨b, off, rfl, c0⟩ := H.out.cells n x hx
          have HE := Lib.hid (show R = decide (0 < x) by
            rw [HR.out]; unfold vecOk
            rw [HALL.out, lastPos_at HN.out hx, HN.out]
            have : decide (n + 1 ≤ 16) = true := by simp; omega
            rw [this]; rfl)
          have hz : ((n : Int) + 1 == 0) = false := by rw [beq_eq_false_iff_ne]; omega
          have hw1 : IntKind.i64.wrap ((n : Int) + 1 - 1) = (n : Int) := by rw [IntKind.wrap_i64]; omega
          clear hx
          go_wp2_with fail
          go_ret
          exact ⟨by rw [HE.out]; rfl, Mine.Mod.refl _ _⟩
      · have d16 : decide ((k : Int) ≤ 16) = false := by simpa using h16
        have HE := Lib.hid (show R = false by
          rw [HR.out]; unfold vecOk
          have : decide (l.length ≤ 16) = false := by rw [HN.out]; simp; omega
          rw [this, Bool.and_false, Bool.false_and])
        go_wp2_with fail
        go_ret
        exact ⟨by rw [HE.out]; rfl, Mine.Mod.refl _ _⟩

set_option maxHeartbeats 2000000 in
set_option maxRecDepth 1000000 in
theorem vcount_any (w : World) (a : Option Addr) (len cap : Nat) (l : List Int) (s : Int) (h : IsVec w a len cap l) (_hs : -9223372036854775808 ≤ s ∧ s ≤ 9223372036854775807) :
    Calls Tryz.prog 103 #[.slice a len cap, .int .i64 s] w fun e w' => e = .returned (.int .i64 (cntV l s)) ∧ Mine.Mod none_ w w' := by
  have hle := h.le
  have hcap := h.big
  unfold maxLen at hcap
  have H := Lib.hid h
  have HN := Lib.hid h.n
  clear h
  go_enter Tryz.func103, Tryz.ntmps103
  cases hb : inB s 1 (len : Int)
  · have HE := Lib.hid (show cntV l s = 0 by unfold cntV; rw [HN.out, hb]; rfl)
    go_wp2_with fail
    refine (vwithin_any s 1 (len : Int) _).mono ?_
    rintro e w1 ⟨rfl, rfl⟩
    rw [hb]
    go_wp2_with fail
    go_ret
    exact ⟨by rw [HE.out]; rfl, Mine.Mod.refl _ _⟩
  · have hs : 1 ≤ s ∧ s ≤ (len : Int) := by unfold inB at hb; simpa using hb
    obtain ⟨n, rfl⟩ : ∃ n : Nat, s = (n : Int) + 1 := ⟨(s - 1).toNat, by omega⟩
    have hnl : n < len := by omega
    obtain ⟨x, hx⟩ : ∃ x, l[n]? = some x := ⟨l[n]'(by rw [HN.out]; exact hnl), by simp⟩
    obtain ⟨b, off, rfl, c0⟩ := H.out.cells n x hx
    have HE := Lib.hid (show cntV l ((n : Int) + 1) = x by
      unfold cntV
      rw [HN.out, hb]
      simp only [if_true]
      rw [show ((n : Int) + 1 - 1).toNat = n by omega, hx]; rfl)
    have hw1 : IntKind.i64.wrap ((n : Int) + 1 - 1) = (n : Int) := by rw [IntKind.wrap_i64]; omega
    clear hx
    go_wp2_with fail
    refine (vwithin_any ((n : Int) + 1) 1 (len : Int) _).mono ?_
    rintro e w1 ⟨rfl, rfl⟩
    rw [hb]
    go_wp2_with fail
    go_ret
    exact ⟨by rw [HE.out]; rfl, Mine.Mod.refl _ _⟩

set_option maxHeartbeats 2000000 in
set_option maxRecDepth 1000000 in
/-- Has, of a vector and a name that may be. -/
theorem vhas_any (w : World) (a : Option Addr) (len cap : Nat) (l : List Int) (s q : Int) (h : IsVec w a len cap l) (hv : vecOk l = true) (hq : nameOk s q = true) :
    Calls Tryz.prog 77 #[.slice a len cap, .agg #[.int .i64 s, .int .i64 q]] w fun e w' => e = .returned (.bool (decide (q ≤ cntV l s))) ∧ Mine.Mod none_ w w' := by
  obtain ⟨W0, hW0⟩ : ∃ W0, w.alloc (.cells #[.int .i64 s, .int .i64 q] 42) = W0 := ⟨_, rfl⟩
  obtain ⟨K, hK⟩ : ∃ K, w.heap.size = K := ⟨_, rfl⟩
  have m0 : Mine.Mod none_ w W0 := by rw [← hW0]; exact (Mine.Mod.refl none_ w).alloc _
  have k0 : Blk W0 K [.int .i64 s, .int .i64 q] 42 := by rw [← hW0, ← hK]; exact Blk.new (w := w) (cs := [.int .i64 s, .int .i64 q])
  have M0 := Lib.hid m0
  have HQ := Lib.hid hq
  have hs : -9223372036854775808 ≤ s ∧ s ≤ 9223372036854775807 := by
    unfold nameOk inB at hq
    simp only [Bool.and_eq_true, decide_eq_true_eq] at hq
    omega
  obtain ⟨n, hn⟩ : ∃ n, n = cntV l s := ⟨_, rfl⟩
  rw [← hn]
  have HV := Lib.hid (show ∀ W, Mine.Mod none_ W0 W → Calls Tryz.prog 78 #[.slice a len cap] W fun e w' => e = .returned (.bool true) ∧ Mine.Mod none_ W w' from fun W m => by
    have := vmay_any W a len cap l (h.grown (m0.trans m))
    rwa [hv] at this)
  have HC := Lib.hid (show ∀ W, Mine.Mod none_ W0 W → Calls Tryz.prog 103 #[.slice a len cap, .int .i64 s] W fun e w' => e = .returned (.int .i64 n) ∧ Mine.Mod none_ W w' from fun W m => by
    have := vcount_any W a len cap l s (h.grown (m0.trans m)) hs
    rwa [← hn] at this)
  have c0 : W0.cell? ⟨K, 0, none⟩ = some (.int .i64 s) := by rw [k0.cell]; rfl
  have c1 : W0.cell? ⟨K, 1, none⟩ = some (.int .i64 q) := by rw [k0.cell]; rfl
  clear h hv hq hn m0 k0 hs
  go_enter Tryz.func77, Tryz.ntmps77
  go_upto_region 1 with fail
  clear hW0 hK
  refine wp_region_held_drew (S := fun w' => Mine.Mod none_ W0 w' ∧ w'.cell? ⟨K, 0, none⟩ = some (.int .i64 s) ∧ w'.cell? ⟨K, 1, none⟩ = some (.int .i64 q)) (by kernel_rfl) ⟨Mine.Mod.drew (Mine.Mod.refl none_ W0), c0, c1⟩ (fun hS => ?_)
  refine wpAnyH_take (i := 0) (v := .slice a len cap) rfl (by kernel_rfl) (by kernel_rfl) (by kernel_rfl) (fun _ _ _ h => h) (Or.inl ⟨by kernel_rfl, ?_⟩) hS ?_
  · rintro w' ⟨_, q0, q1⟩; go_simp
  try simp only [Act.put, List.setIfInBounds_toArray, List.set_cons_zero, List.set_cons_succ]
  refine wpAnyH_ready (rs := [1]) (by kernel_rfl) (by simp) (AllReadyH.cons rfl (fun K2 hK2 => ?_) <| AllReadyH.nil)
  go_simp
  refine (HV.out _ hS.1).mono ?_
  rintro e w1 ⟨rfl, m1⟩
  refine hK2.out _ _ ⟨hS.1.trans m1, m1.cell (fun e => e) hS.2.1, m1.cell (fun e => e) hS.2.2⟩ (fun hS => ?_)
  clear hK2 K2 m1
  try simp only [Act.put, List.setIfInBounds_toArray, List.set_cons_zero, List.set_cons_succ]
  refine wpAnyH_take (i := 2) (v := .bool true) rfl (by kernel_rfl) (by kernel_rfl) (by kernel_rfl) (fun _ _ _ h => h) (Or.inl ⟨by kernel_rfl, ?_⟩) hS ?_
  · rintro w' ⟨_, q0, q1⟩; go_simp
  try simp only [Act.put, List.setIfInBounds_toArray, List.set_cons_zero, List.set_cons_succ]
  refine wpAnyH_take (i := 3) (v := .agg #[.int .i64 s, .int .i64 q]) rfl (by kernel_rfl) (by kernel_rfl) (by kernel_rfl) (fun _ _ _ h => h) (Or.inl ⟨by kernel_rfl, ?_⟩) hS ?_
  · rintro w' ⟨_, q0, q1⟩; go_simp
  try simp only [Act.put, List.setIfInBounds_toArray, List.set_cons_zero, List.set_cons_succ]
  refine wpAnyH_ready (rs := [4]) (by kernel_rfl) (by simp) (AllReadyH.cons rfl (fun K2 hK2 => ?_) <| AllReadyH.nil)
  rw [if_pos (by kernel_rfl)]
  go_simp
  refine (vname_any s q _).mono ?_
  rintro e w2 ⟨rfl, m2⟩
  rw [HQ.out]
  refine hK2.out _ _ ⟨hS.1.trans m2, m2.cell (fun e => e) hS.2.1, m2.cell (fun e => e) hS.2.2⟩ (fun hS => ?_)
  clear hK2 K2 m2
  try simp only [Act.put, List.setIfInBounds_toArray, List.set_cons_zero, List.set_cons_succ]
  refine wpAnyH_take (i := 5) (v := .bool true) rfl (by kernel_rfl) (by kernel_rfl) (by kernel_rfl) (fun _ _ _ h => h) (Or.inl ⟨by kernel_rfl, ?_⟩) hS ?_
  · rintro w' ⟨_, q0, q1⟩; go_simp
  try simp only [Act.put, List.setIfInBounds_toArray, List.set_cons_zero, List.set_cons_succ]
  refine wpAnyH_take (i := 6) (v := .bool true) rfl (by kernel_rfl) (by kernel_rfl) (by kernel_rfl) (fun _ _ _ h => h) (Or.inl ⟨by kernel_rfl, ?_⟩) hS ?_
  · rintro w' ⟨_, q0, q1⟩; go_simp
  try simp only [Act.put, List.setIfInBounds_toArray, List.set_cons_zero, List.set_cons_succ]
  refine wpAnyH_take (i := 7) (v := .pointer (some ⟨K, 1, none⟩)) rfl (by kernel_rfl) (by kernel_rfl) (by kernel_rfl) (fun _ _ _ h => h) (Or.inl ⟨by kernel_rfl, ?_⟩) hS ?_
  · rintro w' ⟨_, q0, q1⟩; go_simp
  try simp only [Act.put, List.setIfInBounds_toArray, List.set_cons_zero, List.set_cons_succ]
  refine wpAnyH_take (i := 8) (v := .int .i64 q) rfl (by kernel_rfl) (by kernel_rfl) (by kernel_rfl) (fun _ _ _ h => h) (Or.inl ⟨by kernel_rfl, ?_⟩) hS ?_
  · rintro w' ⟨_, q0, q1⟩; go_simp
  try simp only [Act.put, List.setIfInBounds_toArray, List.set_cons_zero, List.set_cons_succ]
  refine wpAnyH_take (i := 9) (v := .slice a len cap) rfl (by kernel_rfl) (by kernel_rfl) (by kernel_rfl) (fun _ _ _ h => h) (Or.inl ⟨by kernel_rfl, ?_⟩) hS ?_
  · rintro w' ⟨_, q0, q1⟩; go_simp
  try simp only [Act.put, List.setIfInBounds_toArray, List.set_cons_zero, List.set_cons_succ]
  refine wpAnyH_take (i := 10) (v := .pointer (some ⟨K, 0, none⟩)) rfl (by kernel_rfl) (by kernel_rfl) (by kernel_rfl) (fun _ _ _ h => h) (Or.inl ⟨by kernel_rfl, ?_⟩) hS ?_
  · rintro w' ⟨_, q0, q1⟩; go_simp
  try simp only [Act.put, List.setIfInBounds_toArray, List.set_cons_zero, List.set_cons_succ]
  refine wpAnyH_take (i := 11) (v := .int .i64 s) rfl (by kernel_rfl) (by kernel_rfl) (by kernel_rfl) (fun _ _ _ h => h) (Or.inl ⟨by kernel_rfl, ?_⟩) hS ?_
  · rintro w' ⟨_, q0, q1⟩; go_simp
  try simp only [Act.put, List.setIfInBounds_toArray, List.set_cons_zero, List.set_cons_succ]
  refine wpAnyH_ready (rs := [12]) (by kernel_rfl) (by simp) (AllReadyH.cons rfl (fun K2 hK2 => ?_) <| AllReadyH.nil)
  rw [if_pos (by kernel_rfl)]
  go_simp
  refine (HC.out _ hS.1).mono ?_
  rintro e w3 ⟨rfl, m3⟩
  refine hK2.out _ _ ⟨hS.1.trans m3, m3.cell (fun e => e) hS.2.1, m3.cell (fun e => e) hS.2.2⟩ (fun hS => ?_)
  clear hK2 K2 m3
  try simp only [Act.put, List.setIfInBounds_toArray, List.set_cons_zero, List.set_cons_succ]
  refine wpAnyH_take (i := 13) (v := .bool (decide (q ≤ n))) rfl (by kernel_rfl) (by kernel_rfl) (by kernel_rfl) (fun _ _ _ h => h) (Or.inl ⟨by kernel_rfl, ?_⟩) hS ?_
  · rintro w' ⟨_, q0, q1⟩; go_simp
  try simp only [Act.put, List.setIfInBounds_toArray, List.set_cons_zero, List.set_cons_succ]
  refine wpAnyH_take (i := 14) (v := .bool (decide (q ≤ n))) rfl (by kernel_rfl) (by kernel_rfl) (by kernel_rfl) (fun _ _ _ h => h) (Or.inl ⟨by kernel_rfl, ?_⟩) hS ?_
  · rintro w' ⟨_, q0, q1⟩; go_simp
  try simp only [Act.put, List.setIfInBounds_toArray, List.set_cons_zero, List.set_cons_succ]
  refine wpAnyH_take (i := 15) (v := .bool (decide (q ≤ n))) rfl (by kernel_rfl) (by kernel_rfl) (by kernel_rfl) (fun _ _ _ h => h) (Or.inl ⟨by kernel_rfl, ?_⟩) hS ?_
  · rintro w' ⟨_, q0, q1⟩; go_simp
  try simp only [Act.put, List.setIfInBounds_toArray, List.set_cons_zero, List.set_cons_succ]
  refine wpAnyH_done (by kernel_rfl) ?_ _
  try simp only [List.getElem_toArray, List.getElem_cons_succ, List.getElem_cons_zero]
  try simp only [Act.put, List.setIfInBounds_toArray, List.set_cons_zero, List.set_cons_succ]
  have MF := Lib.hid (M0.out.trans hS.1)
  clear hS c0 c1
  go_wp2_with fail
  go_ret
  exact ⟨rfl, MF.out⟩
end Go.Proofs.YtjgjjlolhdlofaaGreatDoor

namespace Go.Proofs.YtjgjjlolhdlofaaGreatDoor
open Go.RowKit Go.Mine

abbrev intCs (l : List Int) : List Value := l.map fun x => Value.int .i64 x
/-- Nothing is copied. -/
theorem run_copy0 {P : Program} {w : World} {T E : TypeId} {i0 : TypeInfo} (hu : P.underlying T = some (.slice E)) (hi : P.info? E = some i0) (ty : TypeId) (g o dLen dCap : Nat) (a : Option Addr) (sCap : Nat) :
    (Builtin.copy_ #[T, T] ty #[.slice (some ⟨g, o, none⟩) dLen dCap, .slice a 0 sCap]).run P w = .ok (goInt 0) w := by
  cases a with
  | none => simp [Builtin.copy_, run_underlying hu, Builtin.lenOf, Builtin.firstCells, sizeOf, typeInfo, hi, storeCells]
  | some a =>
    have hl := run_loadCells_list (P := P) w a [] (fun j v h => by simp at h)
    rw [List.length_nil] at hl
    simp [Builtin.copy_, run_underlying hu, Builtin.lenOf, Builtin.firstCells, sizeOf, typeInfo, hi, hl, storeCells]

/-- What Raise answers. -/
def raiseE (l : List Int) (s q : Int) : Int := if vecOk l && nameOk s q then (if cntV l s = 1099511627776 then 7 else if q = cntV l s + 1 then 0 else 17) else 1
/-- The vector with one more. -/
def raiseL (l : List Int) (s : Int) : List Int := (l ++ List.replicate (s.toNat - l.length) 0).set (s.toNat - 1) (cntV l s + 1)
theorem raiseL_len (l : List Int) (s : Int) : (raiseL l s).length = max l.length s.toNat := by
  unfold raiseL
  rw [List.length_set, List.length_append, List.length_replicate]
  omega
theorem grown_at {l : List Int} {s : Int} (h : 1 ≤ s) : (l ++ List.replicate (s.toNat - l.length) 0)[s.toNat - 1]? = some (cntV l s) := by
  unfold cntV inB
  by_cases hs : s ≤ (l.length : Int)
  · rw [if_pos (by simpa using ⟨h, hs⟩), List.getElem?_append_left (by omega), show (s - 1).toNat = s.toNat - 1 by omega, List.getElem?_eq_getElem (by omega)]
    rfl
  · rw [if_neg (by simpa using fun _ => by omega), List.getElem?_append_right (by omega), List.getElem?_replicate, if_pos (by omega)]
theorem infoInt : (Tryz.prog.info? 3).map (fun i => (i.zero, i.size, i.bytes)) = some (some (.int .i64 0), 1, 8) := by kernel_rfl

/-- Numbers in new memory. -/
theorem own_vec {w : World} {B n vc : Nat} {va : Option Addr} {l : List Int} (h : w.ownsRow B 3 1 (.slice va n vc) n (intCs l)) (ok : ∀ x ∈ l, -9223372036854775808 ≤ x ∧ x ≤ 9223372036854775807) : IsVec w va n vc l := by
  rcases ownsRow_blk h with ⟨h1, h2, h3⟩ | ⟨g, cap, more, h1, _, hb, hc, hm, _⟩
  · cases h1
    have : l = [] := by simpa using h3
    subst this
    exact ⟨rfl, Nat.le_refl _, Nat.zero_le _, ok, fun i x hx => by simp at hx⟩
  · cases h1
    have hl : l.length = n := by have := h.1; simpa using this
    refine ⟨hl, hc, hm, ok, fun i x hx => ⟨g, 0, rfl, ?_⟩⟩
    have hi := (List.getElem?_eq_some_iff.1 hx).1
    rw [Nat.zero_add, hb.cell, List.getElem?_append_left (by rw [List.length_map]; exact hi), List.getElem?_map, hx]
    rfl

def RaiseTo (w : World) (l : List Int) (s q : Int) (e : Ending) (w' : World) : Prop :=
  ((raiseE l s q ≠ 0 ∧ e = .returned (.tuple #[.slice none 0 0, .int .i64 (raiseE l s q)])) ∨
    (raiseE l s q = 0 ∧ ∃ va n vc, e = .returned (.tuple #[.slice va n vc, .int .i64 0]) ∧ w'.ownsRow w.heap.size 3 1 (.slice va n vc) n (intCs (raiseL l s)))) ∧ Mine.Mod none_ w w'

set_option maxHeartbeats 8000000 in
set_option maxRecDepth 1000000 in
theorem vraise_any (w : World) (a : Option Addr) (len cap : Nat) (l : List Int) (s q : Int) (h : IsVec w a len cap l) (hs : -9223372036854775808 ≤ s ∧ s ≤ 9223372036854775807) :
    Calls Tryz.prog 82 #[.slice a len cap, .agg #[.int .i64 s, .int .i64 q]] w (RaiseTo w l s q) := by
  have hle := h.le
  have hcap := h.big
  unfold maxLen at hcap
  obtain ⟨W0, hW0⟩ : ∃ W0, w.alloc (.cells #[.int .i64 s, .int .i64 q] 42) = W0 := ⟨_, rfl⟩
  obtain ⟨K, hK⟩ : ∃ K, w.heap.size = K := ⟨_, rfl⟩
  have m0 : Mine.Mod none_ w W0 := by rw [← hW0]; exact (Mine.Mod.refl none_ w).alloc _
  have k0 : Blk W0 K [.int .i64 s, .int .i64 q] 42 := by rw [← hW0, ← hK]; exact Blk.new (w := w) (cs := [.int .i64 s, .int .i64 q])
  have M0 := Lib.hid m0
  have K0 := Lib.hid k0
  have HN := Lib.hid h.n
  have H := Lib.hid h
  have HV := Lib.hid (show ∀ W, Mine.Mod none_ w W → Calls Tryz.prog 78 #[.slice a len cap] W fun e w' => e = .returned (.bool (vecOk l)) ∧ Mine.Mod none_ W w' from fun W m => vmay_any W a len cap l (h.grown m))
  have HC := Lib.hid (show ∀ W, Mine.Mod none_ w W → Calls Tryz.prog 103 #[.slice a len cap, .int .i64 s] W fun e w' => e = .returned (.int .i64 (cntV l s)) ∧ Mine.Mod none_ W w' from fun W m => vcount_any W a len cap l s (h.grown m) hs)
  have c0 : W0.cell? ⟨K, 0, none⟩ = some (.int .i64 s) := by rw [k0.cell]; rfl
  have c1 : W0.cell? ⟨K, 1, none⟩ = some (.int .i64 q) := by rw [k0.cell]; rfl
  clear h m0 k0
  go_enter Tryz.func82, Tryz.ntmps82
  go_upto_region 1 with fail
  clear hW0 hK
  cases hv : vecOk l
  · have HE := Lib.hid (show raiseE l s q = 1 by unfold raiseE; rw [hv]; rfl)
    go_wp2_with fail
    refine (HV.out _ M0.out).mono ?_
    rintro e w1 ⟨rfl, m1⟩
    rw [hv]
    have M1 := Lib.hid (M0.out.trans m1)
    clear m1 c0 c1
    go_wp2_with fail
    go_ret2
    exact ⟨.inl ⟨by rw [HE.out]; omega, by rw [HE.out]; rfl⟩, M1.out⟩
  go_wp2_with fail
  refine (HV.out _ M0.out).mono ?_
  rintro e w1 ⟨rfl, m1⟩
  rw [hv]
  have M1 := Lib.hid (M0.out.trans m1)
  have K1 := Lib.hid (K0.out.mod m1 (fun e => e))
  have d0 : w1.cell? ⟨K, 0, none⟩ = some (.int .i64 s) := by rw [K1.out.cell]; rfl
  have d1 : w1.cell? ⟨K, 1, none⟩ = some (.int .i64 q) := by rw [K1.out.cell]; rfl
  clear m1 c0 c1 M0 K0
  go_wp2_with fail
  refine (vname_any s q _).mono ?_
  rintro e w2 ⟨rfl, m2⟩
  have M2 := Lib.hid (M1.out.trans m2)
  have K2 := Lib.hid (K1.out.mod m2 (fun e => e))
  have c0 : w2.cell? ⟨K, 0, none⟩ = some (.int .i64 s) := by rw [K2.out.cell]; rfl
  have c1 : w2.cell? ⟨K, 1, none⟩ = some (.int .i64 q) := by rw [K2.out.cell]; rfl
  clear m2 d0 d1 M1 K1
  cases hq : nameOk s q
  · have HE := Lib.hid (show raiseE l s q = 1 by unfold raiseE; rw [hq, Bool.and_false]; rfl)
    go_wp2_with fail
    go_ret2
    exact ⟨.inl ⟨by rw [HE.out]; omega, by rw [HE.out]; rfl⟩, M2.out⟩
  have hsq : (1 ≤ s ∧ s ≤ 16) ∧ 1 ≤ q ∧ q ≤ 1099511627776 := by
    unfold nameOk inB at hq
    simpa using hq
  have hc := cntV_le hv s
  have HRE := Lib.hid (show raiseE l s q = if cntV l s = 1099511627776 then 7 else if q = cntV l s + 1 then 0 else 17 by unfold raiseE; rw [hv, hq]; rfl)
  have hln : len ≤ 16 := by
    unfold vecOk at hv
    simp only [Bool.and_eq_true, decide_eq_true_eq] at hv
    rw [← HN.out]; exact hv.1.2
  go_wp2_with fail
  refine (HC.out _ M2.out).mono ?_
  rintro e w3 ⟨rfl, m3⟩
  obtain ⟨n, hn⟩ : ∃ n, n = cntV l s := ⟨_, rfl⟩
  rw [← hn] at hc HRE ⊢
  have HNN := Lib.hid hn
  have M3 := Lib.hid (M2.out.trans m3)
  have K3 := Lib.hid (K2.out.mod m3 (fun e => e))
  have d0 : w3.cell? ⟨K, 0, none⟩ = some (.int .i64 s) := by rw [K3.out.cell]; rfl
  have d1 : w3.cell? ⟨K, 1, none⟩ = some (.int .i64 q) := by rw [K3.out.cell]; rfl
  clear m3 c0 c1 M2 K2 hv hq hn HV HC
  by_cases h1 : n = 1099511627776
  · have HE := Lib.hid (show raiseE l s q = 7 by rw [HRE.out, if_pos h1])
    have hb1 : (n == 1099511627776) = true := by simpa using h1
    clear h1
    go_wp2_with fail
    go_ret2
    exact ⟨.inl ⟨by rw [HE.out]; omega, by rw [HE.out]; rfl⟩, M3.out⟩
  have hb1 : (n == 1099511627776) = false := by simpa using h1
  have hw : IntKind.i64.wrap (n + 1) = n + 1 := by rw [IntKind.wrap_i64]; omega
  by_cases h2 : q = n + 1
  · have HE := Lib.hid (show raiseE l s q = 0 by rw [HRE.out, if_neg h1, if_pos h2])
    obtain ⟨S, rfl⟩ : ∃ S : Nat, s = (S : Int) + 1 := ⟨(s - 1).toNat, by omega⟩
    have hS : S < 16 := by omega
    have HQ := Lib.hid h2
    subst h2
    -- the new row
    obtain ⟨T, hT⟩ : ∃ T, T = max len (S + 1) := ⟨_, rfl⟩
    have hTle : T ≤ 16 := by omega
    have hTl : len ≤ T := by omega
    have hTS : S + 1 ≤ T := by omega
    obtain ⟨i0, hi0, hz0, hz1, hz2⟩ := info_parts infoInt
    have hmk := run_make_row' (P := Tryz.prog) 23 3 (.int .i64 0) 8 Tryz.underlying23 infoInt rfl .i64 .i64 T (by omega) (by omega) w3
    have mG := (Mine.Mod.refl none_ w3).alloc (.cells (madeCells #[.int .i64 0] T) 3)
    obtain ⟨G, hG⟩ : ∃ G, G = w3.heap.size := ⟨_, rfl⟩
    have kG : Blk (w3.alloc (.cells (madeCells #[.int .i64 0] T) 3)) G (List.replicate T (.int .i64 0)) 3 := by
      have e : madeCells #[Value.int .i64 0] T = (List.replicate T (Value.int .i64 0)).toArray := by
        rw [← toList_madeCells_one]
      rw [e, hG]
      exact Blk.new
    have hGw : w.heap.size ≤ G := by rw [hG]; exact M3.out.size
    rw [← hG] at hmk
    obtain ⟨w4, hw4⟩ : ∃ w4, w4 = w3.alloc (.cells (madeCells #[.int .i64 0] T) 3) := ⟨_, rfl⟩
    rw [← hw4] at hmk kG mG
    have h4 := H.out.grown (M3.out.trans mG)
    have K4 := Lib.hid (K3.out.mod mG (fun e => e))
    have M4 := Lib.hid (M3.out.trans mG)
    -- the copy
    have hcopy : ∃ w5, (Builtin.copy_ #[23, 23] 3 #[.slice (some ⟨G, 0, none⟩) T T, .slice a len cap]).run Tryz.prog w4 = .ok (goInt len) w5 ∧ Blk w5 G (intCs (l ++ List.replicate (T - len) 0)) 3 ∧ Mine.Mod (one G) w4 w5 := by
      by_cases hl0 : len = 0
      · refine ⟨w4, ?_, ?_, Mine.Mod.refl _ _⟩
        · rw [hl0]; exact run_copy0 Tryz.underlying23 hi0 _ _ _ _ _ _ _
        · have : l = [] := List.eq_nil_of_length_eq_zero (by rw [HN.out]; exact hl0)
          rw [this, hl0, List.nil_append, Nat.sub_zero]
          unfold intCs
          rw [List.map_replicate]
          exact kG
      · obtain ⟨b, off, hab⟩ : ∃ b off, a = some ⟨b, off, none⟩ := by
          obtain ⟨x, hx⟩ : ∃ x, l[0]? = some x := ⟨l[0]'(by rw [HN.out]; omega), by simp⟩
          obtain ⟨b, off, e, _⟩ := h4.cells 0 x hx
          exact ⟨b, off, e⟩
        obtain ⟨w5, hr, hb, hm⟩ := run_copyN (P := Tryz.prog) (w := w4) (sz := 1) Tryz.underlying23 hi0 hz1 3 G 0 T T ⟨b, off, none⟩ len cap _ (intCs l) kG (by rw [List.length_map, HN.out]; simp only [Nat.min_def]; split <;> omega) (fun j v hv => by
          rw [List.getElem?_map] at hv
          obtain ⟨x, hx, rfl⟩ := Option.map_eq_some_iff.1 hv
          obtain ⟨b2, off2, e, hc2⟩ := h4.cells j x hx
          rw [hab] at e
          cases e
          rw [Addr.add_lit]; exact hc2) (by rw [List.length_map, HN.out, List.length_replicate]; omega) (fun v hv => by obtain ⟨z, _, rfl⟩ := List.mem_map.1 hv; rfl)
        refine ⟨w5, ?_, ?_, hm⟩
        · rw [hab, hr, show Nat.min len T = len by simp only [Nat.min_def]; split <;> omega]
        · rw [List.take_zero, List.nil_append, Nat.zero_add, List.length_map, HN.out, List.drop_replicate] at hb
          unfold intCs at hb ⊢
          rw [List.map_append, List.map_replicate]
          exact hb
    obtain ⟨w5, hrun, kG5, m5⟩ := hcopy
    have hTe : T - len = ((S : Int) + 1).toNat - l.length := by rw [HN.out]; omega
    have hat := grown_at (l := l) (s := (S : Int) + 1) (by omega)
    rw [← hTe, ← HNN.out, show ((S : Int) + 1).toNat - 1 = S by omega] at hat
    have e5 : w5.cell? ⟨G, S, none⟩ = some (.int .i64 n) := by
      rw [kG5.cell, List.getElem?_map, hat]; rfl
    have f5 := kG5.frozen S
    have kF := kG5.set S (.int .i64 (n + 1))
    have hRL : (intCs (l ++ List.replicate (T - len) 0)).set S (.int .i64 (n + 1)) = intCs (raiseL l ((S : Int) + 1)) := by
      unfold raiseL
      rw [← hTe, ← HNN.out, show ((S : Int) + 1).toNat - 1 = S by omega]
      unfold intCs
      rw [List.map_set]
    rw [hRL] at kF
    have m5G : Mine.Mod (one G) w4 (w5.setCell ⟨G, S, none⟩ (.int .i64 (n + 1))) := m5.setCell ⟨G, S, none⟩ (fun _ => rfl) _
    have hKG : ¬ K = G := by
      have := K3.out.lt
      omega
    have K5 := K4.out.mod m5 (fun e => hKG e)
    have d05 : w5.cell? ⟨K, 0, none⟩ = some (.int .i64 ((S : Int) + 1)) := by rw [K5.cell]; rfl
    have FIN := Lib.hid (show RaiseTo w l ((S : Int) + 1) (n + 1) (.returned (.tuple #[.slice (some ⟨G, 0, none⟩) T T, .int .i64 0])) (w5.setCell ⟨G, S, none⟩ (.int .i64 (n + 1))) from by
      refine ⟨.inr ⟨HE.out, _, _, _, rfl, ?_⟩, M4.out.transIn m5G (fun b hb e => by have e' : b = G := e; omega)⟩
      have hlen : (raiseL l ((S : Int) + 1)).length = T := by rw [raiseL_len, HN.out, hT]; congr 1
      have h5 := blk_ownsRow (more := []) (n := T) (cap := T) (size := 1) hGw (by rw [List.append_nil]; exact kF) (by rw [List.length_map, hlen]; omega) (Nat.le_refl _) (by unfold maxLen; omega) (by rw [List.length_map, hlen]; simp)
      exact h5)
    have HMK := Lib.hid hmk
    have hwl : IntKind.i64.wrap ((S : Int) + 1 - 1) = (S : Int) := by rw [IntKind.wrap_i64]; omega
    have hmax : max (len : Int) ((S : Int) + 1) = (T : Int) := by rw [hT]; omega
    have hST : S < T := by omega
    clear hat hRL kF kG5 m5 m5G K5 h4 hG hw4 mG kG hTe HRE h1 HNN HQ hi0 hz0 hz1 hz2 hT
    clear HMK
    go_wp2_with fail
    go_ret2
    exact FIN.out
  · have HE := Lib.hid (show raiseE l s q = 17 by rw [HRE.out, if_neg h1, if_neg h2])
    go_wp2_with fail
    go_ret2
    exact ⟨.inl ⟨by rw [HE.out]; omega, by rw [HE.out]; rfl⟩, M3.out⟩
end Go.Proofs.YtjgjjlolhdlofaaGreatDoor

namespace Go.Proofs.YtjgjjlolhdlofaaGreatDoor
open Go.RowKit Go.Shelf Go.Mine Go.Deep
open Classical

theorem src_zero {P : Program} {size : Nat} {tx e' : TypeId} (w : World) (hk : P.underlying tx = some (.slice e')) (a : Option Addr) (c : Nat) : Src P size tx (.slice a 0 c) 0 [] w := by
  cases a with
  | none => exact Src.ofNil w hk c
  | some a => exact Src.ofSlice w hk a 0 c [] (by simp) (fun j u h => by simp at h) (fun u h => by cases h)
theorem step_append_runI {P : Program} {ops : Array Oper} {o : Oper} {a : Act} {w w' : World} {K : Act → World → Prop} {Q : Exit → Act → World → Prop} {E : Prop} (hgd : o.guard = none) (s x : Operand) (t : TypeId)
    (hop : o.op = Op.call { callee := Callee.builtin Builtin.append, args := #[s, x], argTypes := #[t, t] }) (v u v' : Value) (hs : a.eval s = v) (hx : a.eval x = u)
    (hrun : (Builtin.append_ #[t, t] o.type #[v, u]).run P w = .ok v' w') (hK : K (a.put o.dst v') w') :
    if Region.wanted o (yielded ops a.tmps) = true then Oper.wp P o a w K Q else E := by
  have hw : Region.wanted o (yielded ops a.tmps) = true := by simp [Region.wanted, hgd]
  rw [if_pos hw]
  unfold Oper.wp
  simp [execOp, hop, resolve, invoke, builtin, hs, hx, hrun, Result.andThen]
  exact hK
/-- Cells behind others: append. -/
theorem app_cells {W : World} {B n vc len cap : Nat} {va a : Option Addr} {xs l : List CellV} (ho : W.ownsRow B 53 5 (.slice va n vc) n (flat CellV.cs xs)) (h : IsCells W a len cap l) (hb : n + len ≤ 1099511627776) (hB : B ≤ W.heap.size) :
    ∃ va' vc' w', (Builtin.append_ #[22, 22] 22 #[.slice va n vc, .slice a len cap]).run Tryz.prog W = .ok (.slice va' (n + len) vc') w' ∧
      w'.ownsRow B 53 5 (.slice va' (n + len) vc') (n + len) (flat CellV.cs (xs ++ l)) ∧ Mine.Mod (fun k => (Value.slice va n vc).ownBlock = some k) W w' := by
  obtain ⟨i0, hi0, hz0, hz1, hz2⟩ := info_parts infoCell
  by_cases hl0 : len = 0
  · subst hl0
    have hl : l = [] := List.eq_nil_of_length_eq_zero h.n
    subst hl
    have hle : n ≤ vc := by
      rcases ownsRow_blk ho with ⟨h1, h2, _⟩ | ⟨g, cap, more, h1, _, _, h2, _⟩
      · omega
      · cases h1; exact h2
    refine ⟨va, vc, W, ?_, by simpa using ho, Mine.Mod.refl _ _⟩
    have hs := src_zero (P := Tryz.prog) (size := i0.size) W Tryz.underlying22 a cap
    have := run_append_nothing (P := Tryz.prog) W 22 22 22 53 i0 Tryz.underlying22 hi0 va n vc hle _ hs
    simpa using this
  · obtain ⟨c, hc⟩ : ∃ x, l[0]? = some x := ⟨l[0]'(by rw [h.n]; omega), by simp⟩
    obtain ⟨b, off, rfl, _⟩ := h.cells 0 c hc
    have hr := h.row
    obtain ⟨v', w', hrun, hown, hgrow, _⟩ := run_append_own (P := Tryz.prog) W B 22 22 53 i0 _ 5 32 Tryz.underlying22 hi0 hz0 hz1 hz2 rfl (by decide) (.slice va n vc) n _ ho ⟨b, off, none⟩ len cap (flat CellV.cs l) (by rw [flat_length CellV.len, h.n]) (fun j u hj => by rw [Addr.add_lit]; exact hr j u hj) (flat_ones l) (by unfold maxLen; omega) (by omega) hB
    obtain ⟨va', vc', rfl⟩ : ∃ va' vc', v' = .slice va' (n + len) vc' := by
      rcases ownsRow_blk hown with ⟨_, h0, _⟩ | ⟨g', c', _, rfl, _⟩
      · omega
      · exact ⟨_, c', rfl⟩
    refine ⟨va', vc', w', hrun, ?_, (Mine.Mod.refl _ _).grown hgrow (fun k e _ => e)⟩
    rw [flat_append]; exact hown
theorem own_cells {w : World} {B n vc : Nat} {va : Option Addr} {xs : List CellV} (h : w.ownsRow B 53 5 (.slice va n vc) n (flat CellV.cs xs)) (ok : ∀ c ∈ xs, c.ok) : IsCells w va n vc xs := by
  have hl := h.1
  rw [flat_length CellV.len] at hl
  rcases ownsRow_blk h with ⟨h1, h2, h3⟩ | ⟨g, cap, more, h1, _, hb, hc, hm, _⟩
  · cases h1
    have : xs = [] := List.eq_nil_of_length_eq_zero (by omega)
    subst this
    exact ⟨rfl, Nat.le_refl _, Nat.zero_le _, ok, fun i x hx => by simp at hx⟩
  · cases h1
    refine ⟨by omega, hc, hm, ok, fun i x hx => ⟨g, 0, rfl, ?_⟩⟩
    intro j v hj
    rw [Nat.zero_add]
    have hj5 : j < 5 := by have := (List.getElem?_eq_some_iff.1 hj).1; exact this
    rw [Blk.elem CellV.len hb i j x hx hj5]
    exact hj
theorem IsCells.take {w : World} {a : Option Addr} {len cap : Nat} {l : List CellV} (h : IsCells w a len cap l) (k : Nat) (hk : k ≤ len) : IsCells w a k cap (l.take k) :=
  ⟨by rw [List.length_take, h.n]; omega, Nat.le_trans hk h.le, h.big, fun c hc => h.ok c (List.mem_of_mem_take hc), fun i c hc => h.cells i c (by
    rw [List.getElem?_take] at hc
    split at hc
    · exact hc
    · cases hc)⟩

theorem IsCells.drop {w : World} {b off len cap : Nat} {l : List CellV} (h : IsCells w (some ⟨b, off, none⟩) len cap l) (k : Nat) (hk : k ≤ len) : IsCells w (some ⟨b, off + k * 5, none⟩) (len - k) (cap - k) (l.drop k) :=
  ⟨by rw [List.length_drop, h.n], Nat.sub_le_sub_right h.le _, Nat.le_trans (Nat.sub_le _ _) h.big, fun c hc => h.ok c (List.mem_of_mem_drop hc), fun i c hc => by
    rw [List.getElem?_drop] at hc
    obtain ⟨b2, off2, e, hr⟩ := h.cells (k + i) c hc
    cases e
    refine ⟨b, off + k * 5, rfl, ?_⟩
    rw [show off + k * 5 + i * 5 = off + (k + i) * 5 by omega]
    exact hr⟩
theorem IsCells.one {W : World} {X : Nat} {c : CellV} (k : Blk W X c.cs 53) (hc : c.ok) : IsCells W (some ⟨X, 0, none⟩) 1 1 [c] :=
  ⟨rfl, Nat.le_refl _, by unfold maxLen; omega, fun x hx => by rw [List.mem_singleton.1 hx]; exact hc, fun i x hx => by
    obtain ⟨hi, e⟩ := List.getElem?_eq_some_iff.1 hx
    have hi0 : i = 0 := by simpa using hi
    subst hi0
    refine ⟨X, 0, rfl, fun j v hj => ?_⟩
    have e2 : c = x := by simpa using e
    subst e2
    have e3 : 0 + 0 * 5 + j = j := by omega
    rw [e3, k.cell]
    exact hj⟩
theorem take_snoc {α : Type} {l : List α} {k : Nat} {x : α} (h : l[k]? = some x) : l.take (k + 1) = l.take k ++ [x] := by
  obtain ⟨hk, e⟩ := List.getElem?_eq_some_iff.1 h
  rw [List.take_succ_eq_append_getElem hk, e]

/-- What the document's Run leaves. -/
noncomputable def runL9 (o : OpV) (sp : List (Int × Int)) (l : List CellV) : List CellV := if o.kind = 2 then markS sp 0 l else l.take o.at_.toNat ++ freshC o (runesD o.text) ++ l.drop o.at_.toNat
def Run9To (w : World) (o : OpV) (sp : List (Int × Int)) (l : List CellV) (e : Ending) (w' : World) : Prop :=
  (∃ va n vc, e = .returned (.slice va n vc) ∧ w'.ownsRow w.heap.size 53 5 (.slice va n vc) n (flat CellV.cs (runL9 o sp l)) ∧ ∀ c ∈ runL9 o sp l, c.ok) ∧ Mine.Mod none_ w w'

set_option maxHeartbeats 8000000 in
set_option maxRecDepth 1000000 in
theorem rrun9_any (w : World) (a : Option Addr) (len cap : Nat) (l : List CellV) (h : IsCells w a len cap l) (o : OpV) (sp : List (Int × Int)) (ho : o.ok w sp) (hm : opMay o sp len = true) (hlen : len ≤ 20000) (htx : o.text.size ≤ 1099511627776) :
    Calls Tryz.prog 33 #[.slice a len cap, o.v] w (Run9To w o sp l) := by
  have hle := h.le
  have hcap := h.big
  unfold maxLen at hcap
  obtain ⟨W0, hW0⟩ : ∃ W0, w.alloc (.cells o.cs.toArray 58) = W0 := ⟨_, rfl⟩
  obtain ⟨m0, kB⟩ := opBox1 hW0
  obtain ⟨K, hK⟩ : ∃ K, w.heap.size = K := ⟨_, rfl⟩
  rw [hK] at kB
  have HA := Lib.hid h
  have HO0 := Lib.hid ho
  have H := Lib.hid (h.grown m0)
  have H0 := Lib.hid (ho.grown m0)
  have M0 := Lib.hid m0
  have K0 := Lib.hid kB
  have HN := Lib.hid h.n
  have c3 : W0.cell? ⟨K, 3, none⟩ = some (.int .i64 o.kind) := by rw [kB.cell]; rfl
  have c4 : W0.cell? ⟨K, 4, none⟩ = some (.int .i64 o.at_) := by rw [kB.cell]; rfl
  have hKw : w.heap.size ≤ K := by omega
  clear h ho m0 kB
  by_cases hk : o.kind = 2
  · have hdel : spansOk sp = true ∧ (sp.all fun x => decide (x.1 + x.2 ≤ (len : Int))) = true := by
      unfold opMay at hm
      rw [if_neg (by omega), if_pos hk] at hm
      simp only [Bool.and_eq_true] at hm
      have h2 := hm.2
      unfold delOk at h2
      simp only [Bool.and_eq_true] at h2
      exact ⟨h2.1.2, by rw [← lastLe_all h2.1.2]; exact h2.2⟩
    have hkb : (o.kind == 1) = false := by rw [hk]; rfl
    have HD := Lib.hid hdel
    have HEQ := Lib.hid (show runL9 o sp l = markP (hasPl sp) l by
      unfold runL9
      rw [if_pos hk]
      unfold markS
      simp only [Nat.zero_add])
    have HSN := Lib.hid HO0.out.sp.n
    obtain ⟨va1, vc1, w1, hrun1, hown1, hmod1⟩ := app_cells (W := W0) (B := K) (va := none) (n := 0) (vc := 0) (xs := []) ⟨rfl, .inl ⟨rfl, rfl⟩⟩ H.out (by omega) (by rw [← hK]; exact M0.out.size)
    rw [Nat.zero_add] at hrun1 hown1
    have HRUN1 := Lib.hid hrun1
    have M1 := Lib.hid (M0.out.trans (hmod1.mono (fun k _ e => by cases e)))
    have K1 := Lib.hid (K0.out.mod hmod1 (fun e => by cases e))
    have O1 := Lib.hid (show w1.ownsRow K 53 5 (.slice va1 len vc1) len (flat CellV.cs (markP (hasPl (sp.take 0)) l)) by
      have e : markP (hasPl (sp.take 0)) l = l := markP_none (fun i _ => by simp [hasPl])
      rw [e]
      simpa using hown1)
    have hle5 := HO0.out.sp.le
    have hbig5 := HO0.out.sp.big
    unfold maxLen at hbig5
    clear hrun1 hk hm hown1 hmod1 c4 hdel
    go_enter Tryz.func33, Tryz.ntmps33
    go_upto_region 2 with fail
    clear hW0 hK
    go_wp2_with (at_builtin; refine Lib.wpList_append_run _ rfl (.tmp 49) (.tmp 50) 22 22 rfl _ _ rfl rfl _ _ HRUN1.out ?_)
    clear HRUN1 M0 K0 H H0 c3
    go_loopg [9] o.slen (fun g s9 wx => ∃ (i : Nat), g = o.slen - i ∧ s9 = .int .i64 i ∧ i ≤ o.slen ∧ Mine.Mod none_ w wx ∧ RowKit.Hid (Blk wx K o.cs 58 ∧ wx.ownsRow K 53 5 (.slice va1 len vc1) len (flat CellV.cs (markP (hasPl (sp.take i)) l))))
    case atStart => exact ⟨0, rfl, rfl, Nat.zero_le _, M1.out, Lib.hid ⟨K1.out, O1.out⟩⟩
    case round =>
      obtain ⟨i, rfl, rfl, hi, mx, hst⟩ := hrel
      obtain ⟨wx, rfl⟩ : ∃ wx, wx = wr := ⟨_, rfl⟩
      have MX := Lib.hid mx
      have c6 : wx.cell? ⟨K, 6, none⟩ = some (.slice o.sa o.slen o.scap) := by rw [hst.out.1.cell]; rfl
      by_cases hli : i < o.slen
      · obtain ⟨⟨f, n⟩, hx⟩ : ∃ x, sp[i]? = some x := ⟨sp[i]'(by rw [HSN.out]; exact hli), by simp⟩
        obtain ⟨sb, so, hsa, _, _⟩ := HO0.out.sp.cells i _ hx
        obtain ⟨f1, f2, f3, f4⟩ := spansFrom_ok sp _ HD.out.1 _ (List.mem_of_getElem? hx)
        have f5 := List.all_eq_true.1 HD.out.2 _ (List.mem_of_getElem? hx)
        simp only [decide_eq_true_eq] at f5
        dsimp only at f1 f2 f3 f4
        obtain ⟨F, rfl⟩ : ∃ F : Nat, f = F := ⟨f.toNat, by omega⟩
        obtain ⟨N, rfl⟩ : ∃ N : Nat, n = N := ⟨n.toNat, by omega⟩
        have hFN : F + N ≤ len := by omega
        have hN1 : 1 ≤ N := by omega
        obtain ⟨G, hvc, hG⟩ : ∃ G, va1 = some ⟨G, 0, none⟩ ∧ K ≤ G := by
          rcases ownsRow_blk hst.out.2 with ⟨_, h0, _⟩ | ⟨g, cap2, more, h1, hg, _⟩
          · omega
          · cases h1; exact ⟨g, rfl, hg⟩
        have HX := Lib.hid hx
        have HSA := Lib.hid hsa
        subst hvc
        rw [hsa] at c6
        clear f1 f2 f3 f4 f5 hx hsa
        go_wp2_with fail
        go_loopg [10] N (fun g s10 wy => ∃ (j : Nat), g = N - j ∧ s10 = .int .i64 j ∧ j ≤ N ∧ Mine.Mod none_ w wy ∧ RowKit.Hid (Blk wy K o.cs 58 ∧ wy.ownsRow K 53 5 (.slice (some ⟨G, 0, none⟩) len vc1) len (flat CellV.cs (markP (fun p => hasPl (sp.take i) p || decide (F ≤ p ∧ p < F + j)) l))))
        case atStart => exact ⟨0, rfl, rfl, Nat.zero_le _, MX.out, by
          have e : (fun p => hasPl (sp.take i) p || decide (F ≤ p ∧ p < F + 0)) = hasPl (sp.take i) := by
            funext p
            have : decide (F ≤ p ∧ p < F + 0) = false := decide_eq_false (by omega)
            rw [this, Bool.or_false]
          rw [e]
          exact hst⟩
        case round =>
          obtain ⟨j, rfl, rfl, hj, my, hst2⟩ := hrel
          have MY := Lib.hid my
          obtain ⟨b2, o2, hsa2, e0, e1⟩ := (HO0.out.sp.grown my).cells i _ HX.out
          rw [HSA.out] at hsa2
          obtain ⟨rfl, rfl⟩ : sb = b2 ∧ so = o2 := by simpa using hsa2
          dsimp only at e0 e1
          have c7 : wr.cell? ⟨K, 6, none⟩ = some (.slice o.sa o.slen o.scap) := by rw [hst2.out.1.cell]; rfl
          rw [HSA.out] at c7
          by_cases hlj : j < N
          · obtain ⟨c, hc⟩ : ∃ c, l[F + j]? = some c := ⟨l[F + j]'(by rw [HN.out]; omega), by simp⟩
            obtain ⟨kx, ox⟩ := hst2.out
            rcases ownsRow_blk ox with ⟨_, h0, _⟩ | ⟨g, cap2, more, h1, hg, hb, hcap2, hcm, hll⟩
            · omega
            obtain ⟨rfl, rfl⟩ : G = g ∧ vc1 = cap2 := by simpa using h1
            have hmg : (markP (fun p => hasPl (sp.take i) p || decide (F ≤ p ∧ p < F + j)) l)[F + j]? = some (if (hasPl (sp.take i) (F + j) || decide (F ≤ F + j ∧ F + j < F + j)) then goneC c else c) := by rw [markP_get, hc]; rfl
            have d4 : wr.cell? ⟨G, (F + j) * 5 + 4, none⟩ = (CellV.cs (if (hasPl (sp.take i) (F + j) || decide (F ≤ F + j ∧ F + j < F + j)) then goneC c else c))[4]? := Blk.elem CellV.len hb (F + j) 4 _ hmg (by decide)
            have d4' : wr.cell? ⟨G, (F + j) * 5 + 4, none⟩ = some (.bool (if (hasPl (sp.take i) (F + j) || decide (F ≤ F + j ∧ F + j < F + j)) then goneC c else c).gone) := d4
            have fz := hb.frozen ((F + j) * 5 + 4)
            have kb := hb.set ((F + j) * 5 + 4) (.bool true)
            have hmk : (markP (fun p => hasPl (sp.take i) p || decide (F ≤ p ∧ p < F + j)) l).set (F + j) (goneC (if (hasPl (sp.take i) (F + j) || decide (F ≤ F + j ∧ F + j < F + j)) then goneC c else c)) = markP (fun p => hasPl (sp.take i) p || decide (F ≤ p ∧ p < F + (j + 1))) l := by
              have eg : ∀ b : Bool, goneC (if b then goneC c else c) = goneC c := fun b => by cases b <;> rfl
              have h2 := markP_set (fun p => hasPl (sp.take i) p || decide (F ≤ p ∧ p < F + j)) l (F + j) c hc
              rw [eg, ← h2]
              refine markP_congr (fun p _ => ?_)
              have e3 : decide (F ≤ p ∧ p < F + (j + 1)) = (decide (F ≤ p ∧ p < F + j) || decide (p = F + j)) := by
                rw [Bool.eq_iff_iff]
                simp only [decide_eq_true_eq, Bool.or_eq_true]
                omega
              rw [e3, Bool.or_assoc]
            rw [flat_gone _ _ _ hmg, hmk] at kb
            have mG : Mine.Mod (one G) wr (wr.setCell ⟨G, (F + j) * 5 + 4, none⟩ (.bool true)) := (Mine.Mod.refl (one G) wr).setCell ⟨G, (F + j) * 5 + 4, none⟩ (fun _ => rfl) _
            have hKG : ¬ K = G := fun e => by
              subst e
              have e2 := Option.some.inj (kx.symm.trans hb)
              injection e2 with _ h2 _
              exact absurd h2 (by decide)
            have FIN := Lib.hid (show Mine.Mod none_ w (wr.setCell ⟨G, (F + j) * 5 + 4, none⟩ (.bool true)) ∧ Blk (wr.setCell ⟨G, (F + j) * 5 + 4, none⟩ (.bool true)) K o.cs 58 ∧ (wr.setCell ⟨G, (F + j) * 5 + 4, none⟩ (.bool true)).ownsRow K 53 5 (.slice (some ⟨G, 0, none⟩) len vc1) len (flat CellV.cs (markP (fun p => hasPl (sp.take i) p || decide (F ≤ p ∧ p < F + (j + 1))) l)) from
              ⟨my.transIn mG (fun b hb e => by have e' : b = G := e; omega), kx.mod mG (fun e => hKG e), blk_ownsRow hG kb (by rw [flat_length CellV.len, markP_len, HN.out]) hcap2 hcm (by rw [flat_length CellV.len, markP_len]; rw [flat_length CellV.len, markP_len] at hll; exact hll)⟩)
            generalize (if (hasPl (sp.take i) (F + j) || decide (F ≤ F + j ∧ F + j < F + j)) then goneC c else c).gone = bv at d4'
            clear hst2 kx ox h1 hb hll hmg d4 kb hmk mG hKG my hc hsa2
            obtain ⟨p, hp⟩ : ∃ p, p = F + j := ⟨_, rfl⟩
            have hwi : (F : Int) + (j : Int) = (p : Int) := by omega
            have hpl : p < len := by omega
            rw [← hp] at d4' fz FIN
            clear hp
            go_wp2_with fail
            go_roundg (N - (j + 1))
            all_goals first
              | omega
              | exact ⟨j + 1, rfl, by go_num, by omega, FIN.out.1, Lib.hid FIN.out.2⟩
          · obtain rfl : j = N := by omega
            have HPL := Lib.hid (show (fun p => hasPl (sp.take i) p || decide (F ≤ p ∧ p < F + j)) = hasPl (sp.take (i + 1)) from by
              funext p
              rw [hasPl_take sp i F j HX.out])
            have hx2 := hst2.out
            rw [HPL.out] at hx2
            have HS := Lib.hid hx2
            clear hst2 my hx2 hsa2
            go_wp2_with fail
            go_roundg (o.slen - (i + 1))
            all_goals first
              | omega
              | exact ⟨i + 1, rfl, by go_num, by omega, MY.out, HS⟩
      · obtain hik : i = o.slen := by omega
        have htk : sp.take i = sp := List.take_of_length_le (by rw [HSN.out]; omega)
        have HF := Lib.hid (show Run9To w o sp l (.returned (.slice va1 len vc1)) wx from by
          have h2 := hst.out.2
          rw [htk] at h2
          refine ⟨⟨_, _, _, rfl, ?_, ?_⟩, MX.out⟩
          · rw [HEQ.out]; exact ownsRow_base h2 hKw
          · rw [HEQ.out]; exact markP_ok HA.out.ok)
        clear hst mx htk
        go_wp2_with fail
        go_ret
        exact HF.out
  · have hk1 : o.kind = 1 ∧ insOk o len = true := by
      unfold opMay at hm
      by_cases h1 : o.kind = 1
      · rw [if_pos h1] at hm
        simp only [Bool.and_eq_true] at hm
        exact ⟨h1, hm.2⟩
      · rw [if_neg h1, if_neg hk] at hm
        simp at hm
    have hin : (0 ≤ o.at_ ∧ o.at_ ≤ (len : Int)) ∧ textOk o.text = true := by
      have := hk1.2
      unfold insOk inB at this
      simp only [Bool.and_eq_true, decide_eq_true_eq] at this
      exact ⟨this.1.1.1, this.1.1.2⟩
    obtain ⟨at', hat⟩ : ∃ at' : Nat, o.at_ = at' := ⟨o.at_.toNat, by omega⟩
    have hkb : (o.kind == 1) = true := by simpa using hk1.1
    have hatl : at' ≤ len := by omega
    rw [hat] at c4
    have HIN := Lib.hid hin
    have HAT := Lib.hid hat
    have HATE := Lib.hid hat
    obtain ⟨va1, vc1, w1, hrun1, hown1, hmod1⟩ := app_cells (W := W0) (B := K) (va := none) (n := 0) (vc := 0) (xs := []) ⟨rfl, .inl ⟨rfl, rfl⟩⟩ (H.out.take at' hatl) (by omega) (by rw [← hK]; exact M0.out.size)
    have HRUN1 := Lib.hid hrun1
    have M1 := Lib.hid (M0.out.trans (hmod1.mono (fun k _ e => by cases e)))
    have K1 := Lib.hid (K0.out.mod hmod1 (fun e => by cases e))
    have H1 := Lib.hid (H.out.grown (hmod1.mono (fun k _ e => by cases e)))
    have O1 := Lib.hid hown1
    obtain ⟨rs, hr1, hr2, hr3, hr4, hr5, hr6, hr7, hr8, hr9⟩ := ins_runes hk1.2
    have HRS := Lib.hid hr1
    have HR9 := Lib.hid hr9
    have hrl : rs.length ≤ 200 := hr5
    have hrl1 : 1 ≤ rs.length := hr4
    have HEQ := Lib.hid (show runL9 o sp l = l.take at' ++ freshC o rs ++ l.drop at' by
      unfold runL9
      rw [if_neg hk, hr2, hat, Int.toNat_natCast])
    have HOI := Lib.hid (And.intro H0.out.i1 H0.out.i2)
    have HFL := Lib.hid (show (freshC o rs).length = rs.length by unfold freshC; rw [List.length_mapIdx])
    have c5 : w1.cell? ⟨K, 5, none⟩ = some (.string o.text) := by rw [K1.out.cell]; rfl
    clear hrun1 hk hk1 hm hin hat hown1 hmod1 hr1 hr2 hr3 hr4 hr5 hr6 hr7 hr8 hr9 HAT HIN
    go_enter Tryz.func33, Tryz.ntmps33
    go_upto_region 2 with fail
    clear hW0
    go_wp2_with (at_builtin; refine Lib.wpList_append_run _ rfl (.tmp 14) (.tmp 18) 22 22 rfl _ _ rfl rfl _ _ HRUN1.out ?_)
    refine (rsplit_any o.text w1 htx).mono ?_
    rintro e w2 ⟨m2, _, hsp⟩
    obtain ⟨rv, rfl, hro⟩ := hsp rs HRS.out
    obtain ⟨rg, rc, rfl⟩ : ∃ rg rc, rv = .slice (some ⟨rg, 0, none⟩) rs.length rc := by
      rcases ownsRow_blk hro with ⟨h1, h2, _⟩ | ⟨g, cap, more, h1, _⟩
      · omega
      · exact ⟨_, _, h1⟩
    have RO := Lib.hid hro
    have M2 := Lib.hid (M1.out.trans m2)
    have K2 := Lib.hid (K1.out.mod m2 (fun e => e))
    have H2 := Lib.hid (H1.out.grown m2)
    have O2 := Lib.hid (ownsRow_mod O1.out m2 (fun _ _ e => e))
    obtain ⟨B2, hB2⟩ : ∃ B2, B2 = w1.heap.size := ⟨_, rfl⟩
    rw [← hB2] at RO
    obtain ⟨L, hL⟩ : ∃ L, L = rs.length := ⟨_, rfl⟩
    have HL := Lib.hid hL
    rw [← hL] at RO hrl ⊢
    clear m2 hsp hro c3 c4 c5 hB2 hL hK M0 K0 H0 HRUN1 M1 K1 H1 O1 H
    go_wp2_with fail
    go_loopg [5, 8] L (fun g s5 s8 wx => ∃ (k : Nat) (va : Option Addr) (vc : Nat), g = L - k ∧ s5 = .slice va (at' + k) vc ∧ s8 = .int .i64 k ∧ k ≤ L ∧ Mine.Mod none_ w wx ∧ RowKit.Hid (Blk wx K o.cs 58 ∧ IsCells wx a len cap l ∧ wx.ownsRow B2 21 1 (.slice (some ⟨rg, 0, none⟩) L rc) L (runeCs rs) ∧ wx.ownsRow K 53 5 (.slice va (at' + k) vc) (at' + k) (flat CellV.cs (l.take at' ++ (freshC o rs).take k))))
    case atStart => exact ⟨0, va1, vc1, rfl, by simp, rfl, Nat.zero_le _, M2.out, Lib.hid ⟨K2.out, H2.out, RO.out, by simpa using O2.out⟩⟩
    case round =>
      obtain ⟨k, va, vc, rfl, rfl, rfl, hk, mx, hst⟩ := hrel
      have MX := Lib.hid mx
      obtain ⟨kx, hx, rx, ox⟩ := hst.out
      by_cases hlk : k < L
      · obtain ⟨r, hr⟩ : ∃ r, rs[k]? = some r := ⟨rs[k]'(by rw [← HL.out]; exact hlk), by simp⟩
        have rblk : wr.cell? ⟨rg, k, none⟩ = some (.int .i32 (r : Int)) := by
          rcases ownsRow_blk rx with ⟨h1, h2, _⟩ | ⟨g, cap2, more, h1, _, hb, _⟩
          · omega
          · cases h1
            rw [hb.cell, List.getElem?_append_left (by rw [List.length_map]; exact (List.getElem?_eq_some_iff.1 hr).1), List.getElem?_map, hr]
            rfl
        have hrb := HR9.out r (List.mem_of_getElem? hr)
        obtain ⟨c, hcdef⟩ : ∃ c : CellV, c = ⟨o.site, o.seq, (k : Int), (r : Int), false⟩ := ⟨_, rfl⟩
        have hcok : c.ok := by
          rw [hcdef]
          exact ⟨HOI.out.1, HOI.out.2, by simp only; omega, by simp only; omega⟩
        have hfr : (freshC o rs).take (k + 1) = (freshC o rs).take k ++ [c] := by
          refine take_snoc ?_
          unfold freshC
          rw [List.getElem?_mapIdx, hr, hcdef]
          rfl
        have mY : Mine.Mod none_ wr (wr.drew.alloc (.cells c.cs.toArray 53)) := ((Mine.Mod.refl none_ wr).drew).alloc _
        have kY := Blk.new (w := wr.drew) (cs := c.cs) (t := 53)
        have hBw : K ≤ wr.heap.size := Nat.le_of_lt kx.lt
        obtain ⟨va', vc', w4, hrun, hown, hmod⟩ := app_cells (W := wr.drew.alloc (.cells c.cs.toArray 53)) (B := K) (ownsRow_mod ox mY (fun _ _ e => e)) (IsCells.one kY hcok) (by omega) (Nat.le_trans hBw mY.size)
        have mW : Mine.Mod (fun j => (Value.slice va (at' + k) vc).ownBlock = some j) wr w4 := (mY.mono (fun _ _ e => e.elim)).trans hmod
        have hne : ∀ j, (Value.slice va (at' + k) vc).ownBlock = some j → ∀ cs t, Blk wr j cs t → t = 53 := fun j hj cs t hb => by
          obtain ⟨cs2, hb2⟩ := ownsRow_type ox hj
          unfold Blk at hb hb2
          rw [hb] at hb2
          cases hb2; rfl
        have hlo : ∀ j, (Value.slice va (at' + k) vc).ownBlock = some j → w.heap.size ≤ j := fun j hj => Nat.le_trans hKw (ox.lt j hj).1
        have k4 : Blk w4 K o.cs 58 := kx.mod mW (fun e => absurd (hne K e _ _ kx) (by decide))
        have FIN := Lib.hid (show Mine.Mod none_ w w4 ∧ Blk w4 K o.cs 58 ∧ IsCells w4 a len cap l ∧ w4.ownsRow B2 21 1 (.slice (some ⟨rg, 0, none⟩) L rc) L (runeCs rs) ∧ w4.ownsRow K 53 5 (.slice va' (at' + (k + 1)) vc') (at' + (k + 1)) (flat CellV.cs (l.take at' ++ (freshC o rs).take (k + 1))) from by
          refine ⟨mx.transIn mW (fun b hb e => by have := hlo b e; omega), k4, HA.out.grown (mx.transIn mW (fun b hb e => by have := hlo b e; omega)), ?_, ?_⟩
          · exact ownsRow_mod rx mW (fun j hj e => by
              obtain ⟨cs2, hb2⟩ := ownsRow_type rx hj
              exact absurd (hne j e _ _ hb2) (by decide))
          · rw [hfr, ← List.append_assoc, ← Nat.add_assoc]
            exact hown)
        have r4 : w4.cell? ⟨rg, k, none⟩ = some (.int .i32 (r : Int)) := by
          refine mW.cell (fun e => ?_) rblk
          obtain ⟨cs2, hb2⟩ := ownsRow_type rx (k := rg) rfl
          exact absurd (hne rg e _ _ hb2) (by decide)
        have e0 : wr.cell? ⟨K, 0, none⟩ = some (.int .i64 o.site) := by rw [kx.cell]; rfl
        have e1 : wr.cell? ⟨K, 1, none⟩ = some (.int .i64 o.seq) := by rw [kx.cell]; rfl
        have e04 : w4.cell? ⟨K, 0, none⟩ = some (.int .i64 o.site) := by rw [k4.cell]; rfl
        have e14 : w4.cell? ⟨K, 1, none⟩ = some (.int .i64 o.seq) := by rw [k4.cell]; rfl
        rw [hcdef] at hrun
        have HRUN := Lib.hid hrun
        have mA := ((Mine.Mod.refl none_ wr).drew).alloc (.cells #[.int .i64 o.site, .int .i64 o.seq, .int .i64 (k : Int), .int .i32 (r : Int), .bool false] 53)
        have SA := Lib.hid (And.intro (mA.cell (fun e => e) e0) (And.intro (mA.cell (fun e => e) e1) (mA.cell (fun e => e) rblk)))
        have S4 := Lib.hid (And.intro e04 (And.intro e14 r4))
        clear hst kx hx rx ox hr hrb hfr mY kY hown hmod hne hcok hcdef hrun mA e04 e14 r4 mW hlo k4 mx
        go_upto_region 8 with fail
        refine wp_region_held_drew (S := fun w' => w'.cell? ⟨K, 0, none⟩ = some (.int .i64 o.site) ∧ w'.cell? ⟨K, 1, none⟩ = some (.int .i64 o.seq) ∧ w'.cell? ⟨rg, k, none⟩ = some (.int .i32 (r : Int))) (by kernel_rfl) ⟨e0, e1, rblk⟩ (fun hS => ?_)
        refine wpAnyH_take (i := 0) (v := .slice va (at' + k) vc) rfl (by kernel_rfl) (by kernel_rfl) (by kernel_rfl) (fun _ _ _ h => h) (Or.inl ⟨by kernel_rfl, ?_⟩) hS ?_
        · rintro w' ⟨q0, q1, q2⟩; go_simp
        try simp only [Act.put, List.setIfInBounds_toArray]
        refine wpAnyH_take (i := 1) (v := .pointer (some ⟨K, 0, none⟩)) rfl (by kernel_rfl) (by kernel_rfl) (by kernel_rfl) (fun _ _ _ h => h) (Or.inl ⟨by kernel_rfl, ?_⟩) hS ?_
        · rintro w' ⟨q0, q1, q2⟩; go_simp
        try simp only [Act.put]
        refine wpAnyH_take (i := 2) (v := .agg #[.int .i64 o.site, .int .i64 o.seq]) rfl (by kernel_rfl) (by kernel_rfl) (by kernel_rfl) (fun _ _ _ h => h) (Or.inl ⟨by kernel_rfl, ?_⟩) hS ?_
        · rintro w' ⟨q0, q1, q2⟩; go_simp
        try simp only [Act.put]
        refine wpAnyH_take (i := 3) (v := .int .i64 (k : Int)) rfl (by kernel_rfl) (by kernel_rfl) (by kernel_rfl) (fun _ _ _ h => h) (Or.inl ⟨by kernel_rfl, ?_⟩) hS ?_
        · rintro w' ⟨q0, q1, q2⟩; go_simp
        try simp only [Act.put]
        refine wpAnyH_take (i := 4) (v := .slice (some ⟨rg, 0, none⟩) L rc) rfl (by kernel_rfl) (by kernel_rfl) (by kernel_rfl) (fun _ _ _ h => h) (Or.inl ⟨by kernel_rfl, ?_⟩) hS ?_
        · rintro w' ⟨q0, q1, q2⟩; go_simp
        try simp only [Act.put]
        refine wpAnyH_take (i := 5) (v := .int .i64 (k : Int)) rfl (by kernel_rfl) (by kernel_rfl) (by kernel_rfl) (fun _ _ _ h => h) (Or.inl ⟨by kernel_rfl, ?_⟩) hS ?_
        · rintro w' ⟨q0, q1, q2⟩; go_simp
        try simp only [Act.put]
        refine wpAnyH_take (i := 6) (v := .pointer (some ⟨rg, k, none⟩)) rfl (by kernel_rfl) (by kernel_rfl) (by kernel_rfl) (fun _ _ _ h => h) (Or.inl ⟨by kernel_rfl, ?_⟩) hS ?_
        · rintro w' ⟨q0, q1, q2⟩; go_simp
        try simp only [Act.put]
        refine wpAnyH_take (i := 7) (v := .int .i32 (r : Int)) rfl (by kernel_rfl) (by kernel_rfl) (by kernel_rfl) (fun _ _ _ h => h) (Or.inl ⟨by kernel_rfl, ?_⟩) hS ?_
        · rintro w' ⟨q0, q1, q2⟩; go_simp
        try simp only [Act.put]
        refine wpAnyH_take (i := 8) (v := .agg #[.int .i64 o.site, .int .i64 o.seq, .int .i64 (k : Int), .int .i32 (r : Int), .bool false]) rfl (by kernel_rfl) (by kernel_rfl) (by kernel_rfl) (fun _ _ _ h => h) (Or.inl ⟨by kernel_rfl, ?_⟩) hS ?_
        · rintro w' ⟨q0, q1, q2⟩; go_simp
        try simp only [Act.put]
        refine wpAnyH_ready (rs := [9]) (by kernel_rfl) (by simp) (AllReadyH.cons rfl (fun K2 hK2 => ?_) <| AllReadyH.nil)
        go_simp
        refine hK2.out _ _ SA.out (fun hS => ?_)
        clear hK2 K2
        try simp only [Act.put, List.setIfInBounds_toArray, List.set_cons_zero, List.set_cons_succ]
        refine wpAnyH_ready (rs := [10]) (by kernel_rfl) (by simp) (AllReadyH.cons rfl (fun K2 hK2 => ?_) <| AllReadyH.nil)
        refine step_append_runI rfl (.tmp 32) (.tmp 41) 22 rfl _ _ _ rfl rfl HRUN.out ?_
        refine hK2.out _ _ S4.out (fun hS => ?_)
        clear hK2 K2
        try simp only [Act.put, List.setIfInBounds_toArray]
        refine wpAnyH_take (i := 11) (v := .slice va' (at' + k + 1) vc') rfl (by kernel_rfl) (by kernel_rfl) (by kernel_rfl) (fun _ _ _ h => h) (Or.inl ⟨by kernel_rfl, ?_⟩) hS ?_
        · rintro w' ⟨q0, q1, q2⟩; go_simp
        try simp only [Act.put]
        refine wpAnyH_done (by kernel_rfl) ?_ _
        try simp only [List.getElem_toArray, List.getElem_cons_succ, List.getElem_cons_zero]
        try simp only [List.setIfInBounds_toArray, List.set_cons_zero, List.set_cons_succ]
        clear hS e0 e1 rblk
        go_wp2_with fail
        go_roundg (L - (k + 1))
        all_goals first
          | omega
          | exact ⟨k + 1, va', vc', rfl, rfl, by go_num, by omega, FIN.out.1, Lib.hid FIN.out.2⟩
      · obtain rfl : k = L := by omega
        have hfl : (freshC o rs).take k = freshC o rs := List.take_of_length_le (by rw [HFL.out, ← HL.out]; exact Nat.le_refl _)
        rw [hfl] at ox
        have HO := Lib.hid ox
        have HX := Lib.hid hx
        have HKL := Lib.hid (Nat.le_of_lt kx.lt)
        have e4 : wr.cell? ⟨K, 4, none⟩ = some (.int .i64 o.at_) := by rw [kx.cell]; rfl
        rw [HATE.out] at e4
        clear hst kx hx rx ox hfl mx
        go_upto_region 9 with fail
        have hB9 : K ≤ wr.heap.size := HKL.out
        have hend : ∀ (a2 : Option Addr) (c2 : Nat), IsCells wr a2 (len - at') c2 (l.drop at') → ∃ va' vc' w', (Builtin.append_ #[22, 22] 22 #[.slice va (at' + k) vc, .slice a2 (len - at') c2]).run Tryz.prog wr = .ok (.slice va' (at' + k + (len - at')) vc') w' ∧ Run9To w o sp l (.returned (.slice va' (at' + k + (len - at')) vc')) w' := fun a2 c2 h2 => by
          obtain ⟨va', vc', w', hrun, hown, hmod⟩ := app_cells HO.out h2 (by omega) hB9
          refine ⟨va', vc', w', hrun, ⟨_, _, _, rfl, ?_, ?_⟩, MX.out.transIn hmod (fun b hb e => by have := (HO.out.lt b e).1; omega)⟩
          · rw [HEQ.out]; exact ownsRow_base hown hKw
          · rw [HEQ.out]
            intro c hc
            rcases List.mem_append.1 hc with hc | hc
            · rcases List.mem_append.1 hc with hc | hc
              · exact HX.out.ok c (List.mem_of_mem_take hc)
              · obtain ⟨i, hi, rfl⟩ := List.mem_mapIdx.1 hc
                have := HR9.out _ (List.getElem_mem hi)
                have hLL := HL.out
                exact ⟨HOI.out.1, HOI.out.2, by simp only; omega, by simp only; omega⟩
            · exact HX.out.ok c (List.mem_of_mem_drop hc)
        have HE := Lib.hid hend
        clear hend
        by_cases hce : cap = at'
        · subst hce
          obtain rfl : len = cap := by omega
          obtain ⟨va', vc', w5, hrun, hfin⟩ := HE.out a 0 (by
            have hd : l.drop len = [] := List.drop_eq_nil_of_le (by rw [HN.out]; exact Nat.le_refl _)
            rw [hd, Nat.sub_self]
            exact ⟨rfl, Nat.le_refl _, Nat.zero_le _, (fun c hc => by cases hc), (fun i c hc => by simp at hc)⟩)
          rw [Nat.sub_self] at hrun hfin
          have HF := Lib.hid hfin
          have HRUN := Lib.hid hrun
          clear hrun hfin
          go_wp2_with (at_builtin; refine Lib.wpList_append_run _ rfl (.tmp 43) (.tmp 47) 22 22 rfl _ _ rfl rfl _ _ HRUN.out ?_)
          go_ret
          exact HF.out
        · by_cases hl0 : len = 0
          · have hln : l = [] := List.eq_nil_of_length_eq_zero (by rw [HN.out]; exact hl0)
            have hz : len - at' = 0 := by omega
            have hce3 : ¬ at' = cap := fun e => hce e.symm
            cases a with
            | none =>
              obtain ⟨va', vc', w5, hrun, hfin⟩ := HE.out none (cap - at') (by
                rw [hln, hz, List.drop_nil]
                exact ⟨rfl, Nat.zero_le _, by unfold maxLen; omega, (fun c hc => by cases hc), (fun i c hc => by simp at hc)⟩)
              have HF := Lib.hid hfin
              have HRUN := Lib.hid hrun
              clear hrun hfin hln hz hl0
              go_wp2_with (at_builtin; refine Lib.wpList_append_run _ rfl (.tmp 43) (.tmp 47) 22 22 rfl _ _ rfl rfl _ _ HRUN.out ?_)
              go_ret
              exact HF.out
            | some x =>
              obtain rfl : at' = 0 := by omega
              subst hl0
              obtain ⟨va', vc', w5, hrun, hfin⟩ := HE.out (some (x.add 0)) (cap - 0) (by
                rw [hln]
                exact ⟨rfl, Nat.zero_le _, by unfold maxLen; omega, (fun c hc => by cases hc), (fun i c hc => by simp at hc)⟩)
              simp only [Nat.zero_add, Nat.sub_self, Nat.add_zero] at hfin
              have HF := Lib.hid hfin
              have HRUN := Lib.hid hrun
              clear hrun hfin hln
              go_wp2_with (at_builtin; refine Lib.wpList_append_run _ rfl (.tmp 43) (.tmp 47) 22 22 rfl _ _ rfl rfl _ _ HRUN.out ?_)
              go_ret
              exact HF.out
          · obtain ⟨b, off, rfl⟩ : ∃ b off, a = some ⟨b, off, none⟩ := by
              obtain ⟨c, hc⟩ : ∃ x, l[0]? = some x := ⟨l[0]'(by rw [HN.out]; omega), by simp⟩
              obtain ⟨b, off, e, _⟩ := HX.out.cells 0 c hc
              exact ⟨b, off, e⟩
            obtain ⟨va', vc', w5, hrun, hfin⟩ := HE.out _ _ (HX.out.drop at' hatl)
            have HF := Lib.hid hfin
            have HRUN := Lib.hid hrun
            clear hrun hfin
            have hce2 : ¬ cap - at' = 0 := by omega
            have hce3 : ¬ at' = cap := fun e => hce e.symm
            go_wp2_with (at_builtin; refine Lib.wpList_append_run _ rfl (.tmp 43) (.tmp 47) 22 22 rfl _ _ rfl rfl _ _ HRUN.out ?_)
            go_ret
            exact HF.out
end Go.Proofs.YtjgjjlolhdlofaaGreatDoor

namespace Go.Proofs.YtjgjjlolhdlofaaGreatDoor
open Go.RowKit Go.Shelf Go.Mine

/-- An entry. -/
structure EntV where
  o : OpV
  sp : List (Int × Int)
  ed : EditV
abbrev EntV.cs (x : EntV) : List Value := [.int .i64 x.o.site, .int .i64 x.o.seq, .int .i64 x.o.num, .int .i64 x.o.kind, .int .i64 x.o.at_, .string x.o.text, .slice x.o.sa x.o.slen x.o.scap, .int .i64 x.ed.site, .int .i64 x.ed.seq, .int .i64 x.ed.ctx, .int .i64 x.ed.kind, .int .i64 x.ed.at_, .int .i64 x.ed.len, .string x.ed.text]
abbrev EntV.v (x : EntV) : Value := .agg #[.int .i64 x.o.site, .int .i64 x.o.seq, .int .i64 x.o.num, .int .i64 x.o.kind, .int .i64 x.o.at_, .string x.o.text, .slice x.o.sa x.o.slen x.o.scap, .int .i64 x.ed.site, .int .i64 x.ed.seq, .int .i64 x.ed.ctx, .int .i64 x.ed.kind, .int .i64 x.ed.at_, .int .i64 x.ed.len, .string x.ed.text]
/-- Entries in memory. -/
structure IsEnts (w : World) (a : Option Addr) (len cap : Nat) (l : List EntV) : Prop where
  n : l.length = len
  le : len ≤ cap
  big : cap ≤ maxLen
  ok : ∀ x ∈ l, x.o.ok w x.sp ∧ x.ed.ok w
  ents : ∀ (i : Nat) (x : EntV), l[i]? = some x → ∃ b off, a = some ⟨b, off, none⟩ ∧ w.rangeAt b (off + i * 14) x.cs
theorem IsEnts.grown {w w' : World} {a : Option Addr} {len cap : Nat} {l : List EntV} (h : IsEnts w a len cap l) (m : Mine.Mod none_ w w') : IsEnts w' a len cap l :=
  ⟨h.n, h.le, h.big, fun x hx => ⟨(h.ok x hx).1.grown m, (h.ok x hx).2.grown m⟩, fun i c hc => by
    obtain ⟨b, off, e, hr⟩ := h.ents i c hc
    exact ⟨b, off, e, fun j v hv => m.cell (fun e => e) (hr j v hv)⟩⟩
/-- A history: where its parts lie. -/
structure HistV where
  ba : Option Addr
  bl : Nat
  bc : Nat
  va : Option Addr
  vl : Nat
  vc : Nat
  from_ : Int
  num : Int
  la : Option Addr
  ll : Nat
  lc : Nat
abbrev HistV.cs (h : HistV) : List Value := [.slice h.ba h.bl h.bc, .slice h.va h.vl h.vc, .int .i64 h.from_, .int .i64 h.num, .slice h.la h.ll h.lc]
abbrev HistV.v (h : HistV) : Value := .agg #[.slice h.ba h.bl h.bc, .slice h.va h.vl h.vc, .int .i64 h.from_, .int .i64 h.num, .slice h.la h.ll h.lc]
structure HistIs (w : World) (h : HistV) (B : List CellV) (V : List Int) (E : List EntV) : Prop where
  b : IsCells w h.ba h.bl h.bc B
  v : IsVec w h.va h.vl h.vc V
  e : IsEnts w h.la h.ll h.lc E
  i1 : -9223372036854775808 ≤ h.from_ ∧ h.from_ ≤ 9223372036854775807
  i2 : -9223372036854775808 ≤ h.num ∧ h.num ≤ 9223372036854775807
theorem HistIs.grown {w w' : World} {h : HistV} {B : List CellV} {V : List Int} {E : List EntV} (k : HistIs w h B V E) (m : Mine.Mod none_ w w') : HistIs w' h B V E := ⟨k.b.grown m, k.v.grown m, k.e.grown m, k.i1, k.i2⟩
abbrev opsOf (E : List EntV) : List OpS := E.map fun x => ⟨x.o, x.sp⟩
abbrev OpS.cs (x : OpS) : List Value := x.o.cs
theorem OpS.len (x : OpS) : x.cs.length = 7 := rfl
theorem OpS.ones (x : OpS) : ∀ v ∈ x.cs, v.oneCell' = true := by
  intro v hv
  simp only [OpS.cs, OpV.cs, List.mem_cons, List.not_mem_nil, or_false] at hv
  rcases hv with rfl | rfl | rfl | rfl | rfl | rfl | rfl <;> rfl
theorem infoOp : (Tryz.prog.info? 58).map (fun i => (i.zero, i.size, i.bytes)) = some (some (.agg #[.int .i64 0, .int .i64 0, .int .i64 0, .int .i64 0, .int .i64 0, .string ⟨#[]⟩, .slice none 0 0]), 7, 80) := by kernel_rfl
/-- Operations in new memory. -/
theorem own_ops {w : World} {B n vc : Nat} {va : Option Addr} {xs : List OpS} (h : w.ownsRow B 58 7 (.slice va n vc) n (flat OpS.cs xs)) (ok : ∀ x ∈ xs, x.o.ok w x.sp) : IsOps w va n vc xs := by
  have hl := h.1
  rw [flat_length OpS.len] at hl
  rcases ownsRow_blk h with ⟨h1, h2, h3⟩ | ⟨g, cap, more, h1, _, hb, hc, hm, _⟩
  · cases h1
    have : xs = [] := List.eq_nil_of_length_eq_zero (by omega)
    subst this
    exact ⟨rfl, Nat.le_refl _, Nat.zero_le _, ok, fun i x hx => by simp at hx⟩
  · cases h1
    refine ⟨by omega, hc, hm, ok, fun i x hx => ⟨g, 0, rfl, ?_⟩⟩
    intro j v hj
    rw [Nat.zero_add]
    have hj7 : j < 7 := by have := (List.getElem?_eq_some_iff.1 hj).1; exact this
    rw [Blk.elem OpS.len hb i j x hx hj7]
    exact hj
theorem ents_snoc {α : Type} {l : List α} {k : Nat} {x : α} (h : l[k]? = some x) : l.take (k + 1) = l.take k ++ [x] := by
  obtain ⟨hk, e⟩ := List.getElem?_eq_some_iff.1 h
  rw [List.take_succ_eq_append_getElem hk, e]
/-- One operation more. -/
theorem app_op {W : World} {B n vc X : Nat} {va : Option Addr} {xs : List OpS} {x : OpS} (ho : W.ownsRow B 58 7 (.slice va n vc) n (flat OpS.cs xs)) (k : Blk W X x.cs 58) (hb : n ≤ 1000000) (hB : B ≤ W.heap.size) :
    ∃ va' vc' w', (Builtin.append_ #[73, 73] 73 #[.slice va n vc, .slice (some ⟨X, 0, none⟩) 1 1]).run Tryz.prog W = .ok (.slice va' (n + 1) vc') w' ∧
      w'.ownsRow B 58 7 (.slice va' (n + 1) vc') (n + 1) (flat OpS.cs (xs ++ [x])) ∧ Mine.Mod (fun k => (Value.slice va n vc).ownBlock = some k) W w' := by
  obtain ⟨i0, hi0, hz0, hz1, hz2⟩ := info_parts infoOp
  obtain ⟨v', w', hrun, hown, hgrow, _⟩ := run_append_own (P := Tryz.prog) W B 73 73 58 i0 _ 7 80 Tryz.underlying73 hi0 hz0 hz1 hz2 rfl (by decide) (.slice va n vc) n _ ho ⟨X, 0, none⟩ 1 1 x.cs rfl (World.news_of_block k) (OpS.ones x) (by unfold maxLen; omega) (by omega) hB
  obtain ⟨va', vc', rfl⟩ : ∃ va' vc', v' = .slice va' (n + 1) vc' := by
    rcases ownsRow_blk hown with ⟨_, h0, _⟩ | ⟨g', c', _, rfl, _⟩
    · omega
    · exact ⟨_, c', rfl⟩
  refine ⟨va', vc', w', hrun, ?_, (Mine.Mod.refl _ _).grown hgrow (fun k e _ => e)⟩
  rw [flat_append]
  simpa using hown
/-- What a list of operations leaves. -/
def AllTo (w : World) (E : List EntV) (e : Ending) (w' : World) : Prop :=
  (∃ va n vc, e = .returned (.slice va n vc) ∧ w'.ownsRow w.heap.size 58 7 (.slice va n vc) n (flat OpS.cs (opsOf E))) ∧ Mine.Mod none_ w w'

set_option maxHeartbeats 4000000 in
set_option maxRecDepth 1000000 in
theorem hall_any (w : World) (h : HistV) (E : List EntV) (he : IsEnts w h.la h.ll h.lc E) (hl : h.ll ≤ 100000) :
    Calls Tryz.prog 56 #[h.v] w (AllTo w E) := by
  obtain ⟨xba, xbl, xbc, xva, xvl, xvc, xfr, xnum, xla, xll, xlc⟩ := h
  have hle := he.le
  have hcap := he.big
  unfold maxLen at hcap
  dsimp only at hle hcap hl he
  obtain ⟨W0, hW0⟩ : ∃ W0, w.alloc (.cells #[.slice xba xbl xbc, .slice xva xvl xvc, .int .i64 xfr, .int .i64 xnum, .slice xla xll xlc] 32) = W0 := ⟨_, rfl⟩
  obtain ⟨K, hK⟩ : ∃ K, w.heap.size = K := ⟨_, rfl⟩
  have m0 : Mine.Mod none_ w W0 := by rw [← hW0]; exact (Mine.Mod.refl none_ w).alloc _
  have k0 : Blk W0 K [.slice xba xbl xbc, .slice xva xvl xvc, .int .i64 xfr, .int .i64 xnum, .slice xla xll xlc] 32 := by rw [← hW0, ← hK]; exact Blk.new (w := w) (cs := [.slice xba xbl xbc, .slice xva xvl xvc, .int .i64 xfr, .int .i64 xnum, .slice xla xll xlc])
  obtain ⟨cs0, hcs0⟩ : ∃ cs0 : List Value, cs0 = [.slice xba xbl xbc, .slice xva xvl xvc, .int .i64 xfr, .int .i64 xnum, .slice xla xll xlc] := ⟨_, rfl⟩
  rw [← hcs0] at k0
  have HCS := Lib.hid (show ∀ W, Blk W K cs0 32 → W.cell? ⟨K, 4, none⟩ = some (.slice xla xll xlc) from fun W k => by rw [k.cell, hcs0]; rfl)
  have M0 := Lib.hid m0
  have K0 := Lib.hid k0
  have H := Lib.hid he
  have HN := Lib.hid he.n
  have hKw : w.heap.size ≤ K := by omega
  have c4 : W0.cell? ⟨K, 4, none⟩ = some (.slice xla xll xlc) := HCS.out W0 k0
  clear he m0 k0 hcs0
  go_enter Tryz.func56, Tryz.ntmps56
  go_upto_region 1 with fail
  clear hW0 hK
  go_wp2_with fail
  clear c4
  go_loopg [3, 9] xll (fun g s3 s9 wx => ∃ (k : Nat) (va : Option Addr) (vc : Nat), g = xll - k ∧ s3 = .slice va k vc ∧ s9 = .int .i64 k ∧ k ≤ xll ∧ Mine.Mod none_ w wx ∧ RowKit.Hid (Blk wx K cs0 32 ∧ wx.ownsRow w.heap.size 58 7 (.slice va k vc) k (flat OpS.cs (opsOf (E.take k)))))
  case atStart => exact ⟨0, none, 0, rfl, rfl, rfl, Nat.zero_le _, M0.out, Lib.hid ⟨K0.out, ⟨by simp, .inl ⟨rfl, rfl⟩⟩⟩⟩
  case round =>
    obtain ⟨k, va, vc, rfl, rfl, rfl, hk, mx, hst⟩ := hrel
    have MX := Lib.hid mx
    obtain ⟨kx, ox⟩ := hst.out
    have d4 : wr.cell? ⟨K, 4, none⟩ = some (.slice xla xll xlc) := HCS.out wr kx
    by_cases hlk : k < xll
    · obtain ⟨x, hx⟩ : ∃ x, E[k]? = some x := ⟨E[k]'(by rw [HN.out]; exact hlk), by simp⟩
      obtain ⟨b, off, rfl, hr⟩ := (H.out.grown mx).ents k x hx
      have c0 := hr 0 _ rfl
      have c1 := hr 1 _ rfl
      have c2 := hr 2 _ rfl
      have c3 := hr 3 _ rfl
      have c4 := hr 4 _ rfl
      have c5 := hr 5 _ rfl
      have c6 := hr 6 _ rfl
      have c7 := hr 7 _ rfl
      have c8 := hr 8 _ rfl
      have c9 := hr 9 _ rfl
      have c10 := hr 10 _ rfl
      have c11 := hr 11 _ rfl
      have c12 := hr 12 _ rfl
      have c13 := hr 13 _ rfl
      rw [Nat.add_zero] at c0
      have mY : Mine.Mod none_ wr ((wr.alloc (.cells x.cs.toArray 62)).alloc (.cells x.o.cs.toArray 58)) := ((Mine.Mod.refl none_ wr).alloc (.cells x.cs.toArray 62)).alloc _
      have kY := Blk.new (w := (wr.alloc (.cells x.cs.toArray 62))) (cs := x.o.cs) (t := 58)
      rw [World.size_alloc] at kY
      obtain ⟨va', vc', w4, hrun, hown, hmod⟩ := app_op (x := ⟨x.o, x.sp⟩) (ownsRow_mod ox mY (fun _ _ e => e)) kY (by omega) (Nat.le_trans mx.size mY.size)
      have mW : Mine.Mod (fun j => (Value.slice va k vc).ownBlock = some j) wr w4 := (mY.mono (fun _ _ e => e.elim)).trans hmod
      have FIN := Lib.hid (show Mine.Mod none_ w w4 ∧ Blk w4 K cs0 32 ∧ w4.ownsRow w.heap.size 58 7 (.slice va' (k + 1) vc') (k + 1) (flat OpS.cs (opsOf (E.take (k + 1)))) from by
        refine ⟨mx.transIn mW (fun j hb e => by have := (ox.lt j e).1; omega), kx.mod mW (fun e => ?_), ?_⟩
        · obtain ⟨cs2, hb2⟩ := ownsRow_type ox e
          have e2 := Option.some.inj (kx.symm.trans hb2)
          injection e2 with _ h2 _
          exact absurd h2 (by decide)
        · rw [ents_snoc hx]; unfold opsOf; rw [List.map_append]
          exact hown)
      dsimp only [EntV.cs, OpV.cs] at hrun
      have HRUN := Lib.hid hrun
      clear mx kx ox hst hx hr hrun hown hmod mW mY kY
      go_wp2_with (at_builtin; refine Lib.wpList_append_run _ rfl (.tmp 13) (.tmp 16) 73 73 rfl _ _ rfl rfl _ _ HRUN.out ?_)
      go_roundg (xll - (k + 1))
      all_goals first
        | omega
        | exact ⟨k + 1, va', vc', rfl, rfl, by go_num, by omega, FIN.out.1, Lib.hid FIN.out.2⟩
    · have hkl : k = xll := by omega
      have HF := Lib.hid (show AllTo w E (.returned (.slice va k vc)) wr from by
        refine ⟨⟨va, k, vc, rfl, ?_⟩, mx⟩
        have := ox
        rwa [List.take_of_length_le (by rw [HN.out]; omega)] at this)
      clear mx kx ox hst
      go_wp2_with fail
      go_ret
      exact HF.out
set_option maxHeartbeats 4000000 in
set_option maxRecDepth 1000000 in
theorem rops_any (w : World) (h : HistV) (E : List EntV) (he : IsEnts w h.la h.ll h.lc E) (hl : h.ll ≤ 100000) :
    Calls Tryz.prog 29 #[h.v] w (AllTo w E) := by
  obtain ⟨xba, xbl, xbc, xva, xvl, xvc, xfr, xnum, xla, xll, xlc⟩ := h
  have hle := he.le
  have hcap := he.big
  unfold maxLen at hcap
  dsimp only at hle hcap hl he
  obtain ⟨W0, hW0⟩ : ∃ W0, w.alloc (.cells #[.slice xba xbl xbc, .slice xva xvl xvc, .int .i64 xfr, .int .i64 xnum, .slice xla xll xlc] 26) = W0 := ⟨_, rfl⟩
  obtain ⟨K, hK⟩ : ∃ K, w.heap.size = K := ⟨_, rfl⟩
  have m0 : Mine.Mod none_ w W0 := by rw [← hW0]; exact (Mine.Mod.refl none_ w).alloc _
  have k0 : Blk W0 K [.slice xba xbl xbc, .slice xva xvl xvc, .int .i64 xfr, .int .i64 xnum, .slice xla xll xlc] 26 := by rw [← hW0, ← hK]; exact Blk.new (w := w) (cs := [.slice xba xbl xbc, .slice xva xvl xvc, .int .i64 xfr, .int .i64 xnum, .slice xla xll xlc])
  obtain ⟨cs0, hcs0⟩ : ∃ cs0 : List Value, cs0 = [.slice xba xbl xbc, .slice xva xvl xvc, .int .i64 xfr, .int .i64 xnum, .slice xla xll xlc] := ⟨_, rfl⟩
  rw [← hcs0] at k0
  have HCS := Lib.hid (show ∀ W, Blk W K cs0 26 → W.cell? ⟨K, 4, none⟩ = some (.slice xla xll xlc) from fun W k => by rw [k.cell, hcs0]; rfl)
  have M0 := Lib.hid m0
  have K0 := Lib.hid k0
  have H := Lib.hid he
  have HN := Lib.hid he.n
  have hKw : w.heap.size ≤ K := by omega
  have c4 : W0.cell? ⟨K, 4, none⟩ = some (.slice xla xll xlc) := HCS.out W0 k0
  clear he m0 k0 hcs0
  go_enter Tryz.func29, Tryz.ntmps29
  go_upto_region 1 with fail
  clear hW0 hK
  go_wp2_with fail
  clear c4
  go_loopg [3, 4] xll (fun g s3 s9 wx => ∃ (k : Nat) (va : Option Addr) (vc : Nat), g = xll - k ∧ s3 = .slice va k vc ∧ s9 = .int .i64 k ∧ k ≤ xll ∧ Mine.Mod none_ w wx ∧ RowKit.Hid (Blk wx K cs0 26 ∧ wx.ownsRow w.heap.size 58 7 (.slice va k vc) k (flat OpS.cs (opsOf (E.take k)))))
  case atStart => exact ⟨0, none, 0, rfl, rfl, rfl, Nat.zero_le _, M0.out, Lib.hid ⟨K0.out, ⟨by simp, .inl ⟨rfl, rfl⟩⟩⟩⟩
  case round =>
    obtain ⟨k, va, vc, rfl, rfl, rfl, hk, mx, hst⟩ := hrel
    have MX := Lib.hid mx
    obtain ⟨kx, ox⟩ := hst.out
    have d4 : wr.cell? ⟨K, 4, none⟩ = some (.slice xla xll xlc) := HCS.out wr kx
    by_cases hlk : k < xll
    · obtain ⟨x, hx⟩ : ∃ x, E[k]? = some x := ⟨E[k]'(by rw [HN.out]; exact hlk), by simp⟩
      obtain ⟨b, off, rfl, hr⟩ := (H.out.grown mx).ents k x hx
      have c0 := hr 0 _ rfl
      have c1 := hr 1 _ rfl
      have c2 := hr 2 _ rfl
      have c3 := hr 3 _ rfl
      have c4 := hr 4 _ rfl
      have c5 := hr 5 _ rfl
      have c6 := hr 6 _ rfl
      have c7 := hr 7 _ rfl
      have c8 := hr 8 _ rfl
      have c9 := hr 9 _ rfl
      have c10 := hr 10 _ rfl
      have c11 := hr 11 _ rfl
      have c12 := hr 12 _ rfl
      have c13 := hr 13 _ rfl
      rw [Nat.add_zero] at c0
      have mY : Mine.Mod none_ wr (wr.alloc (.cells x.o.cs.toArray 58)) := (Mine.Mod.refl none_ wr).alloc _
      have kY := Blk.new (w := wr) (cs := x.o.cs) (t := 58)
      obtain ⟨va', vc', w4, hrun, hown, hmod⟩ := app_op (x := ⟨x.o, x.sp⟩) (ownsRow_mod ox mY (fun _ _ e => e)) kY (by omega) (Nat.le_trans mx.size mY.size)
      have mW : Mine.Mod (fun j => (Value.slice va k vc).ownBlock = some j) wr w4 := (mY.mono (fun _ _ e => e.elim)).trans hmod
      have FIN := Lib.hid (show Mine.Mod none_ w w4 ∧ Blk w4 K cs0 26 ∧ w4.ownsRow w.heap.size 58 7 (.slice va' (k + 1) vc') (k + 1) (flat OpS.cs (opsOf (E.take (k + 1)))) from by
        refine ⟨mx.transIn mW (fun j hb e => by have := (ox.lt j e).1; omega), kx.mod mW (fun e => ?_), ?_⟩
        · obtain ⟨cs2, hb2⟩ := ownsRow_type ox e
          have e2 := Option.some.inj (kx.symm.trans hb2)
          injection e2 with _ h2 _
          exact absurd h2 (by decide)
        · rw [ents_snoc hx]; unfold opsOf; rw [List.map_append]
          exact hown)
      dsimp only [EntV.cs, OpV.cs] at hrun
      have HRUN := Lib.hid hrun
      clear mx kx ox hst hx hr hrun hown hmod mW mY kY
      go_wp2_with (at_builtin; refine Lib.wpList_append_run _ rfl (.tmp 12) (.tmp 19) 73 73 rfl _ _ rfl rfl _ _ HRUN.out ?_)
      go_roundg (xll - (k + 1))
      all_goals first
        | omega
        | exact ⟨k + 1, va', vc', rfl, rfl, by go_num, by omega, FIN.out.1, Lib.hid FIN.out.2⟩
    · have hkl : k = xll := by omega
      have HF := Lib.hid (show AllTo w E (.returned (.slice va k vc)) wr from by
        refine ⟨⟨va, k, vc, rfl, ?_⟩, mx⟩
        have := ox
        rwa [List.take_of_length_le (by rw [HN.out]; omega)] at this)
      clear mx kx ox hst
      go_wp2_with fail
      go_ret
      exact HF.out
end Go.Proofs.YtjgjjlolhdlofaaGreatDoor

namespace Go.Proofs.YtjgjjlolhdlofaaGreatDoor
open Go.RowKit Go.Mine
open Classical

/-- The size behind a list; none: one may not be. -/
def runOps : List OpS → Int → Option Int
  | [], n => some n
  | x :: r, n => if opMay x.o x.sp n then runOps r (n + addsOf x.o) else none
abbrev OpS.nm (x : OpS) : Value := .agg #[.int .i64 x.o.site, .int .i64 x.o.seq]
/-- What one step of Run answers. -/
def stepV (x : OpS) (n : Int) : Value := if opMay x.o x.sp n then .tuple #[.int .i64 (n + addsOf x.o), .int .i64 0] else .tuple #[.int .i64 0, .int .i64 1]
theorem stepV_no {x : OpS} {n : Int} (h : opMay x.o x.sp n = false) : stepV x n = .tuple #[.int .i64 0, .int .i64 1] := by unfold stepV; rw [h]; rfl
theorem stepV_yes {x : OpS} {n : Int} (h : opMay x.o x.sp n = true) : stepV x n = .tuple #[.int .i64 (n + addsOf x.o), .int .i64 0] := by unfold stepV; rw [h]; rfl
/-- The size behind a list of operations of names of their own. -/
noncomputable def listRun (l : List OpS) (n : Int) : Option Int := if (l.map OpS.nm).Nodup ∧ inB n 0 20000 = true then runOps l n else none
noncomputable def listV (l : List OpS) (n : Int) : Value := match listRun l n with
  | some m => .tuple #[.int .i64 m, .bool true]
  | none => .tuple #[.int .i64 0, .bool false]
theorem runOps_append : ∀ (a b : List OpS) (n : Int), runOps (a ++ b) n = (runOps a n).bind (runOps b)
  | [], b, n => rfl
  | x :: a, b, n => by
    rw [List.cons_append, runOps, runOps]
    split
    · exact runOps_append a b _
    · rfl
theorem adds_in {o : OpV} {sp : List (Int × Int)} {n : Int} (h : inB n 0 20000 = true) (hm : opMay o sp n = true) : inB (n + addsOf o) 0 20000 = true ∧ 0 ≤ addsOf o ∧ addsOf o ≤ 200 := by
  unfold inB at h
  simp only [decide_eq_true_eq] at h
  unfold addsOf
  by_cases hk : o.kind = 1
  · rw [if_pos hk]
    unfold opMay at hm
    rw [if_pos hk] at hm
    simp only [Bool.and_eq_true] at hm
    have h2 := hm.2
    unfold insOk textOk inB at h2
    simp only [Bool.and_eq_true, decide_eq_true_eq] at h2
    unfold inB
    simp only [decide_eq_true_eq]
    omega
  · rw [if_neg hk]
    unfold inB
    simp only [decide_eq_true_eq]
    omega
theorem runOps_in : ∀ (l : List OpS) (n m : Int), inB n 0 20000 = true → runOps l n = some m → inB m 0 20000 = true
  | [], n, m, h, hr => by cases hr; exact h
  | x :: r, n, m, h, hr => by
    rw [runOps] at hr
    split at hr
    · rename_i hm
      exact runOps_in r _ m (adds_in h hm).1 hr
    · cases hr
theorem same_nm {x : OpS} {s q : Int} : sameNm s q x = true ↔ x.nm = .agg #[.int .i64 s, .int .i64 q] := by
  unfold sameNm
  rw [decide_eq_true_eq]
  constructor
  · rintro ⟨h1, h2⟩
    show Value.agg #[.int .i64 x.o.site, .int .i64 x.o.seq] = _
    rw [h1, h2]
  · intro h
    have h2 : Value.agg #[.int .i64 x.o.site, .int .i64 x.o.seq] = .agg #[.int .i64 s, .int .i64 q] := h
    simpa using h2
theorem any_nm {l : List OpS} {x : OpS} : l.any (sameNm x.o.site x.o.seq) = true ↔ x.nm ∈ l.map OpS.nm := by
  rw [List.any_eq_true, List.mem_map]
  constructor
  · rintro ⟨y, hy, h⟩; exact ⟨y, hy, same_nm.1 h⟩
  · rintro ⟨y, hy, h⟩; exact ⟨y, hy, same_nm.2 h⟩
theorem ops_snoc {l : List OpS} {k : Nat} {x : OpS} (h : l[k]? = some x) : l.take (k + 1) = l.take k ++ [x] := by
  obtain ⟨hk, e⟩ := List.getElem?_eq_some_iff.1 h
  rw [List.take_succ_eq_append_getElem hk, e]
theorem nodup_snoc' {α : Type} {l : List α} {x : α} : (l ++ [x]).Nodup ↔ l.Nodup ∧ x ∉ l := by
  rw [List.nodup_append]
  constructor
  · rintro ⟨h1, _, h3⟩
    exact ⟨h1, fun hx => h3 x hx x (List.mem_singleton.2 rfl) rfl⟩
  · rintro ⟨h1, h2⟩
    exact ⟨h1, by simp, fun a ha b hb e => by rw [List.mem_singleton.1 hb] at e; subst e; exact h2 ha⟩
theorem nodup_take {α : Type} {l : List α} (h : l.Nodup) (k : Nat) : (l.take k).Nodup := h.sublist (List.take_sublist k l)

set_option maxHeartbeats 2000000 in
set_option maxRecDepth 1000000 in
theorem run1_step (w : World) (x : OpS) (n : Int) (h : x.o.ok w x.sp) (hn : inB n 0 20000 = true) :
    Calls Tryz.prog 110 #[.int .i64 n, x.o.v] w fun e w' => e = .returned (stepV x n) ∧ Mine.Mod none_ w w' := by
  obtain ⟨W0, hW0⟩ : ∃ W0, w.alloc (.cells x.o.cs.toArray 58) = W0 := ⟨_, rfl⟩
  obtain ⟨m0, kB⟩ := opBox1 hW0
  obtain ⟨K, hK⟩ : ∃ K, w.heap.size = K := ⟨_, rfl⟩
  rw [hK] at kB
  have M0 := Lib.hid m0
  have K0 := Lib.hid kB
  have HO := Lib.hid (h.grown m0)
  have HNB := Lib.hid hn
  have HM := Lib.hid (may_any x.o n W0 x.sp (h.grown m0) hn)
  have c0 : W0.cell? ⟨K, 0, none⟩ = some (.int .i64 x.o.site) := by rw [kB.cell]; rfl
  have c1 : W0.cell? ⟨K, 1, none⟩ = some (.int .i64 x.o.seq) := by rw [kB.cell]; rfl
  have c2 : W0.cell? ⟨K, 2, none⟩ = some (.int .i64 x.o.num) := by rw [kB.cell]; rfl
  have c3 : W0.cell? ⟨K, 3, none⟩ = some (.int .i64 x.o.kind) := by rw [kB.cell]; rfl
  have c4 : W0.cell? ⟨K, 4, none⟩ = some (.int .i64 x.o.at_) := by rw [kB.cell]; rfl
  have c5 : W0.cell? ⟨K, 5, none⟩ = some (.string x.o.text) := by rw [kB.cell]; rfl
  have c6 : W0.cell? ⟨K, 6, none⟩ = some (.slice x.o.sa x.o.slen x.o.scap) := by rw [kB.cell]; rfl
  clear h m0 kB hn
  go_enter Tryz.func110, Tryz.ntmps110
  go_upto_region 1 with fail
  clear hW0 hK
  go_wp2_with fail
  refine HM.out.mono ?_
  rintro e w1 ⟨rfl, m1⟩
  have M1 := Lib.hid (M0.out.trans m1)
  have K1 := Lib.hid (K0.out.mod m1 (fun e => e))
  have HA := Lib.hid (adds_any x.o w1 x.sp (HO.out.grown m1))
  clear m1 c0 c1 c2 c3 c4 c5 c6 HM
  cases hm : opMay x.o x.sp n
  · have SV := Lib.hid (stepV_no hm)
    clear hm
    go_wp2_with fail
    go_ret2
    exact ⟨by rw [SV.out]; rfl, M1.out⟩
  · have SV := Lib.hid (stepV_yes hm)
    have c0 : w1.cell? ⟨K, 0, none⟩ = some (.int .i64 x.o.site) := by rw [K1.out.cell]; rfl
    have c1 : w1.cell? ⟨K, 1, none⟩ = some (.int .i64 x.o.seq) := by rw [K1.out.cell]; rfl
    have c2 : w1.cell? ⟨K, 2, none⟩ = some (.int .i64 x.o.num) := by rw [K1.out.cell]; rfl
    have c3 : w1.cell? ⟨K, 3, none⟩ = some (.int .i64 x.o.kind) := by rw [K1.out.cell]; rfl
    have c4 : w1.cell? ⟨K, 4, none⟩ = some (.int .i64 x.o.at_) := by rw [K1.out.cell]; rfl
    have c5 : w1.cell? ⟨K, 5, none⟩ = some (.string x.o.text) := by rw [K1.out.cell]; rfl
    have c6 : w1.cell? ⟨K, 6, none⟩ = some (.slice x.o.sa x.o.slen x.o.scap) := by rw [K1.out.cell]; rfl
    obtain ⟨_, ha1, ha2⟩ := adds_in HNB.out hm
    have hn2 := HNB.out
    unfold inB at hn2
    simp only [decide_eq_true_eq] at hn2
    have hw : IntKind.i64.wrap (n + addsOf x.o) = n + addsOf x.o := by rw [IntKind.wrap_i64]; omega
    clear hm
    go_wp2_with fail
    refine HA.out.mono ?_
    rintro e w2 ⟨rfl, m2⟩
    generalize addsOf x.o = ad at hw ha1 ha2 SV ⊢
    have M2 := Lib.hid (M1.out.trans m2)
    clear m2 HA c0 c1 c2 c3 c4 c5 c6
    go_wp2_with fail
    go_ret2
    exact ⟨by rw [SV.out]; rfl, M2.out⟩

set_option maxHeartbeats 4000000 in
set_option maxRecDepth 1000000 in
theorem fold_any (w : World) (a : Option Addr) (len cap : Nat) (l : List OpS) (n0 : Int) (h : IsOps w a len cap l) (hn : inB n0 0 20000 = true) :
    Calls Tryz.prog 109 #[.slice a len cap, .int .i64 n0, .func (.func 110) #[] #[]] w fun e w' => ((∃ m, runOps l n0 = some m ∧ e = .returned (.tuple #[.int .i64 m, .int .i64 0])) ∨ (runOps l n0 = none ∧ ∃ m, e = .returned (.tuple #[.int .i64 m, .int .i64 1]))) ∧ Mine.Mod none_ w w' := by
  have hle := h.le
  have hcap := h.big
  unfold maxLen at hcap
  have H := Lib.hid h
  have HN := Lib.hid h.n
  have HNB := Lib.hid hn
  clear h hn
  go_enter Tryz.func109, Tryz.ntmps109
  go_wp2_with fail
  go_loopg [1, 14] len (fun g s1 s14 wx => ∃ (k : Nat) (n : Int), g = len - k ∧ s1 = .int .i64 n ∧ s14 = .int .i64 k ∧ k ≤ len ∧ Mine.Mod none_ w wx ∧ RowKit.Hid (runOps (l.take k) n0 = some n))
  case atStart => exact ⟨0, n0, rfl, rfl, rfl, Nat.zero_le _, Mine.Mod.refl _ _, Lib.hid rfl⟩
  case round =>
    obtain ⟨k, n, rfl, rfl, rfl, hk, mx, hst⟩ := hrel
    have MX := Lib.hid mx
    by_cases hlk : k < len
    · obtain ⟨x, hx⟩ : ∃ x, l[k]? = some x := ⟨l[k]'(by rw [HN.out]; exact hlk), by simp⟩
      have hnb := runOps_in _ _ _ HNB.out hst.out
      obtain ⟨b, off, rfl, hr⟩ := (H.out.grown mx).ops k x hx
      have c0 := hr 0 _ rfl
      have c1 := hr 1 _ rfl
      have c2 := hr 2 _ rfl
      have c3 := hr 3 _ rfl
      have c4 := hr 4 _ rfl
      have c5 := hr 5 _ rfl
      have c6 := hr 6 _ rfl
      rw [Nat.add_zero] at c0
      have HX := Lib.hid hx
      have hstep := runOps_append (l.take k) [x] n0
      rw [← ops_snoc hx, hst.out] at hstep
      have hst1 : runOps (l.take (k + 1)) n0 = if opMay x.o x.sp n then some (n + addsOf x.o) else none := by rw [hstep]; rfl
      have hrest := runOps_append (l.take (k + 1)) (l.drop (k + 1)) n0
      rw [List.take_append_drop] at hrest
      have hb := hlk
      have hxk : x.o.ok wr x.sp := (H.out.ok x (List.mem_of_getElem? hx)).grown mx
      have HS := Lib.hid (fun (W : World) (m : Mine.Mod none_ wr W) => run1_step W x n (hxk.grown m) hnb)
      clear hr mx hst hx hstep hxk
      cases hm : opMay x.o x.sp n
      · rw [hm] at hst1
        have HE := Lib.hid (show runOps l n0 = none by rw [hrest, hst1]; rfl)
        have HS := Lib.hid (fun (W : World) (m : Mine.Mod none_ wr W) => by
          have := HS.out W m
          rw [stepV_no hm] at this
          exact this)
        simp only [Bool.false_eq_true, if_false] at hst1
        clear hst1 hrest hm
        go_wp2_with (go_at_call 110; refine (HS.out _ ((Mine.Mod.refl none_ wr).alloc _)).mono ?_; rintro e w1 ⟨rfl, m1⟩)
        have M1 := Lib.hid ((MX.out.alloc _).trans m1)
        clear m1 HS
        go_wp2_with fail
        go_ret2
        exact ⟨.inr ⟨HE.out, _, rfl⟩, M1.out⟩
      · rw [hm] at hst1
        simp only [if_true] at hst1
        have HST := Lib.hid hst1
        have HS := Lib.hid (fun (W : World) (m : Mine.Mod none_ wr W) => by
          have := HS.out W m
          rw [stepV_yes hm] at this
          exact this)
        clear hst1 hrest hm
        obtain ⟨n2, hn2⟩ : ∃ n2, n2 = n + addsOf x.o := ⟨_, rfl⟩
        rw [← hn2] at HST HS
        clear hn2
        go_wp2_with (go_at_call 110; refine (HS.out _ ((Mine.Mod.refl none_ wr).alloc _)).mono ?_; rintro e w1 ⟨rfl, m1⟩)
        have M1 := Lib.hid ((MX.out.alloc _).trans m1)
        clear m1 HS
        go_wp2_with fail
        go_roundg (len - (k + 1))
        all_goals first
          | omega
          | exact ⟨k + 1, n2, rfl, rfl, by go_num, by omega, M1.out, HST⟩
    · obtain rfl : k = len := by omega
      have HE := Lib.hid (show runOps l n0 = some n by
        have := hst.out
        rwa [List.take_of_length_le (by rw [HN.out]; omega)] at this)
      clear mx hst
      go_wp2_with fail
      go_ret2
      exact ⟨.inl ⟨n, HE.out, rfl⟩, MX.out⟩

set_option maxHeartbeats 4000000 in
set_option maxRecDepth 1000000 in
theorem listRun_any (w : World) (a : Option Addr) (len cap : Nat) (l : List OpS) (n0 : Int) (h : IsOps w a len cap l) :
    Calls Tryz.prog 81 #[.slice a len cap, .int .i64 n0] w fun e w' => e = .returned (listV l n0) ∧ Mine.Mod none_ w w' := by
  have hle := h.le
  have hcap := h.big
  unfold maxLen at hcap
  have H := Lib.hid h
  have HN := Lib.hid h.n
  obtain ⟨R, hR⟩ : ∃ R, R = listV l n0 := ⟨_, rfl⟩
  rw [← hR]
  have HR := Lib.hid hR
  clear h hR
  go_enter Tryz.func81, Tryz.ntmps81
  go_wp2_with fail
  go_loopg [11] len (fun g s11 wx => ∃ (k : Nat), g = len - k ∧ s11 = .int .i64 k ∧ k ≤ len ∧ Mine.Mod none_ w wx ∧ RowKit.Hid (((l.take k).map OpS.nm).Nodup))
  case atStart => exact ⟨0, rfl, rfl, Nat.zero_le _, Mine.Mod.refl _ _, Lib.hid (by simp)⟩
  case round =>
    obtain ⟨k, rfl, rfl, hk, mx, hst⟩ := hrel
    have MX := Lib.hid mx
    by_cases hlk : k < len
    · obtain ⟨x, hx⟩ : ∃ x, l[k]? = some x := ⟨l[k]'(by rw [HN.out]; exact hlk), by simp⟩
      obtain ⟨b, off, rfl, hr⟩ := (H.out.grown mx).ops k x hx
      have c0 := hr 0 _ rfl
      have c1 := hr 1 _ rfl
      rw [Nat.add_zero] at c0
      have HX := Lib.hid hx
      have HNM := Lib.hid (fun (W : World) (m : Mine.Mod none_ wr W) => named_any W (some ⟨b, off, none⟩) k cap (l.take k) x.o.site x.o.seq (((H.out.grown mx).grown m).take k (by omega)))
      have hsn : ((l.take (k + 1)).map OpS.nm).Nodup ↔ ((l.take k).map OpS.nm).Nodup ∧ x.nm ∉ (l.take k).map OpS.nm := by
        rw [ops_snoc hx, List.map_append]
        exact nodup_snoc'
      have HSN := Lib.hid hsn
      clear hr mx hx hsn
      cases hdup : (l.take k).any (sameNm x.o.site x.o.seq)
      · have HST := Lib.hid (HSN.out.2 ⟨hst.out, fun hm => by rw [any_nm.2 hm] at hdup; cases hdup⟩)
        go_upto_region 4 with fail
        refine wp_region_held_drew (S := fun w' => Mine.Mod none_ wr w' ∧ w'.cell? ⟨b, off + k * 7, none⟩ = some (.int .i64 x.o.site) ∧ w'.cell? ⟨b, off + k * 7 + 1, none⟩ = some (.int .i64 x.o.seq)) (by kernel_rfl) ⟨Mine.Mod.drew (Mine.Mod.refl none_ wr), c0, c1⟩ (fun hS => ?_)
        refine wpAnyH_take (i := 0) (v := .slice (some ⟨b, off, none⟩) len cap) rfl (by kernel_rfl) (by kernel_rfl) (by kernel_rfl) (fun _ _ _ h => h) (Or.inl ⟨by kernel_rfl, ?_⟩) hS ?_
        · rintro w' ⟨_, q0, q1⟩; go_simp
        try simp only [Act.put, List.setIfInBounds_toArray, List.set_cons_zero, List.set_cons_succ]
        refine wpAnyH_take (i := 1) (v := .int .i64 (k : Int)) rfl (by kernel_rfl) (by kernel_rfl) (by kernel_rfl) (fun _ _ _ h => h) (Or.inl ⟨by kernel_rfl, ?_⟩) hS ?_
        · rintro w' ⟨_, q0, q1⟩; go_simp
        try simp only [Act.put, List.setIfInBounds_toArray, List.set_cons_zero, List.set_cons_succ]
        refine wpAnyH_take (i := 2) (v := .slice (some ⟨b, off, none⟩) k cap) rfl (by kernel_rfl) (by kernel_rfl) (by kernel_rfl) (fun _ _ _ h => h) (Or.inl ⟨by kernel_rfl, ?_⟩) hS ?_
        · rintro w' ⟨_, q0, q1⟩; go_simp <;> (intro h; omega)
        try simp only [Act.put, List.setIfInBounds_toArray, List.set_cons_zero, List.set_cons_succ]
        refine wpAnyH_take (i := 3) (v := .slice (some ⟨b, off, none⟩) len cap) rfl (by kernel_rfl) (by kernel_rfl) (by kernel_rfl) (fun _ _ _ h => h) (Or.inl ⟨by kernel_rfl, ?_⟩) hS ?_
        · rintro w' ⟨_, q0, q1⟩; go_simp
        try simp only [Act.put, List.setIfInBounds_toArray, List.set_cons_zero, List.set_cons_succ]
        refine wpAnyH_take (i := 4) (v := .int .i64 (k : Int)) rfl (by kernel_rfl) (by kernel_rfl) (by kernel_rfl) (fun _ _ _ h => h) (Or.inl ⟨by kernel_rfl, ?_⟩) hS ?_
        · rintro w' ⟨_, q0, q1⟩; go_simp
        try simp only [Act.put, List.setIfInBounds_toArray, List.set_cons_zero, List.set_cons_succ]
        refine wpAnyH_take (i := 5) (v := .pointer (some ⟨b, off + k * 7, none⟩)) rfl (by kernel_rfl) (by kernel_rfl) (by kernel_rfl) (fun _ _ _ h => h) (Or.inl ⟨by kernel_rfl, ?_⟩) hS ?_
        · rintro w' ⟨_, q0, q1⟩; go_simp
        try simp only [Act.put, List.setIfInBounds_toArray, List.set_cons_zero, List.set_cons_succ]
        refine wpAnyH_take (i := 6) (v := .pointer (some ⟨b, off + k * 7, none⟩)) rfl (by kernel_rfl) (by kernel_rfl) (by kernel_rfl) (fun _ _ _ h => h) (Or.inl ⟨by kernel_rfl, ?_⟩) hS ?_
        · rintro w' ⟨_, q0, q1⟩; go_simp
        try simp only [Act.put, List.setIfInBounds_toArray, List.set_cons_zero, List.set_cons_succ]
        refine wpAnyH_take (i := 7) (v := .agg #[.int .i64 x.o.site, .int .i64 x.o.seq]) rfl (by kernel_rfl) (by kernel_rfl) (by kernel_rfl) (fun _ _ _ h => h) (Or.inl ⟨by kernel_rfl, ?_⟩) hS ?_
        · rintro w' ⟨_, q0, q1⟩; go_simp
        try simp only [Act.put, List.setIfInBounds_toArray, List.set_cons_zero, List.set_cons_succ]
        refine wpAnyH_ready (rs := [8]) (by kernel_rfl) (by simp) (AllReadyH.cons rfl (fun K2 hK2 => ?_) <| AllReadyH.nil)
        go_simp
        refine (HNM.out _ hS.1).mono ?_
        rintro e w1 ⟨rfl, m1⟩
        rw [hdup]
        refine hK2.out _ _ ⟨hS.1.trans m1, m1.cell (fun e => e) hS.2.1, m1.cell (fun e => e) hS.2.2⟩ (fun hS => ?_)
        clear hK2 K2 m1
        try simp only [Act.put, List.setIfInBounds_toArray, List.set_cons_zero, List.set_cons_succ]
        refine wpAnyH_done (by kernel_rfl) ?_ _
        try simp only [List.getElem_toArray, List.getElem_cons_succ, List.getElem_cons_zero]
        try simp only [Act.put, List.setIfInBounds_toArray, List.set_cons_zero, List.set_cons_succ]
        have MF := Lib.hid (MX.out.trans hS.1)
        clear hS c0 c1 hst hdup HNM
        go_wp2_with fail
        go_roundg (len - (k + 1))
        all_goals first
          | omega
          | exact ⟨k + 1, rfl, by go_num, by omega, MF.out, HST⟩
      · have HE := Lib.hid (show R = .tuple #[.int .i64 0, .bool false] by
          rw [HR.out]
          unfold listV listRun
          rw [if_neg]
          rintro ⟨hnd, _⟩
          have h2 : ((l.take (k + 1)).map OpS.nm).Nodup := by
            rw [List.map_take]
            exact nodup_take hnd _
          exact (HSN.out.1 h2).2 (any_nm.1 hdup))
        go_upto_region 4 with fail
        refine wp_region_held_drew (S := fun w' => Mine.Mod none_ wr w' ∧ w'.cell? ⟨b, off + k * 7, none⟩ = some (.int .i64 x.o.site) ∧ w'.cell? ⟨b, off + k * 7 + 1, none⟩ = some (.int .i64 x.o.seq)) (by kernel_rfl) ⟨Mine.Mod.drew (Mine.Mod.refl none_ wr), c0, c1⟩ (fun hS => ?_)
        refine wpAnyH_take (i := 0) (v := .slice (some ⟨b, off, none⟩) len cap) rfl (by kernel_rfl) (by kernel_rfl) (by kernel_rfl) (fun _ _ _ h => h) (Or.inl ⟨by kernel_rfl, ?_⟩) hS ?_
        · rintro w' ⟨_, q0, q1⟩; go_simp
        try simp only [Act.put, List.setIfInBounds_toArray, List.set_cons_zero, List.set_cons_succ]
        refine wpAnyH_take (i := 1) (v := .int .i64 (k : Int)) rfl (by kernel_rfl) (by kernel_rfl) (by kernel_rfl) (fun _ _ _ h => h) (Or.inl ⟨by kernel_rfl, ?_⟩) hS ?_
        · rintro w' ⟨_, q0, q1⟩; go_simp
        try simp only [Act.put, List.setIfInBounds_toArray, List.set_cons_zero, List.set_cons_succ]
        refine wpAnyH_take (i := 2) (v := .slice (some ⟨b, off, none⟩) k cap) rfl (by kernel_rfl) (by kernel_rfl) (by kernel_rfl) (fun _ _ _ h => h) (Or.inl ⟨by kernel_rfl, ?_⟩) hS ?_
        · rintro w' ⟨_, q0, q1⟩; go_simp <;> (intro h; omega)
        try simp only [Act.put, List.setIfInBounds_toArray, List.set_cons_zero, List.set_cons_succ]
        refine wpAnyH_take (i := 3) (v := .slice (some ⟨b, off, none⟩) len cap) rfl (by kernel_rfl) (by kernel_rfl) (by kernel_rfl) (fun _ _ _ h => h) (Or.inl ⟨by kernel_rfl, ?_⟩) hS ?_
        · rintro w' ⟨_, q0, q1⟩; go_simp
        try simp only [Act.put, List.setIfInBounds_toArray, List.set_cons_zero, List.set_cons_succ]
        refine wpAnyH_take (i := 4) (v := .int .i64 (k : Int)) rfl (by kernel_rfl) (by kernel_rfl) (by kernel_rfl) (fun _ _ _ h => h) (Or.inl ⟨by kernel_rfl, ?_⟩) hS ?_
        · rintro w' ⟨_, q0, q1⟩; go_simp
        try simp only [Act.put, List.setIfInBounds_toArray, List.set_cons_zero, List.set_cons_succ]
        refine wpAnyH_take (i := 5) (v := .pointer (some ⟨b, off + k * 7, none⟩)) rfl (by kernel_rfl) (by kernel_rfl) (by kernel_rfl) (fun _ _ _ h => h) (Or.inl ⟨by kernel_rfl, ?_⟩) hS ?_
        · rintro w' ⟨_, q0, q1⟩; go_simp
        try simp only [Act.put, List.setIfInBounds_toArray, List.set_cons_zero, List.set_cons_succ]
        refine wpAnyH_take (i := 6) (v := .pointer (some ⟨b, off + k * 7, none⟩)) rfl (by kernel_rfl) (by kernel_rfl) (by kernel_rfl) (fun _ _ _ h => h) (Or.inl ⟨by kernel_rfl, ?_⟩) hS ?_
        · rintro w' ⟨_, q0, q1⟩; go_simp
        try simp only [Act.put, List.setIfInBounds_toArray, List.set_cons_zero, List.set_cons_succ]
        refine wpAnyH_take (i := 7) (v := .agg #[.int .i64 x.o.site, .int .i64 x.o.seq]) rfl (by kernel_rfl) (by kernel_rfl) (by kernel_rfl) (fun _ _ _ h => h) (Or.inl ⟨by kernel_rfl, ?_⟩) hS ?_
        · rintro w' ⟨_, q0, q1⟩; go_simp
        try simp only [Act.put, List.setIfInBounds_toArray, List.set_cons_zero, List.set_cons_succ]
        refine wpAnyH_ready (rs := [8]) (by kernel_rfl) (by simp) (AllReadyH.cons rfl (fun K2 hK2 => ?_) <| AllReadyH.nil)
        go_simp
        refine (HNM.out _ hS.1).mono ?_
        rintro e w1 ⟨rfl, m1⟩
        rw [hdup]
        refine hK2.out _ _ ⟨hS.1.trans m1, m1.cell (fun e => e) hS.2.1, m1.cell (fun e => e) hS.2.2⟩ (fun hS => ?_)
        clear hK2 K2 m1
        try simp only [Act.put, List.setIfInBounds_toArray, List.set_cons_zero, List.set_cons_succ]
        refine wpAnyH_done (by kernel_rfl) ?_ _
        try simp only [List.getElem_toArray, List.getElem_cons_succ, List.getElem_cons_zero]
        try simp only [Act.put, List.setIfInBounds_toArray, List.set_cons_zero, List.set_cons_succ]
        have MF := Lib.hid (MX.out.trans hS.1)
        clear hS c0 c1 hst hdup HNM
        go_wp2_with fail
        go_ret2
        exact ⟨by rw [HE.out]; rfl, MF.out⟩
    · obtain rfl : k = len := by omega
      have HND := Lib.hid (show (l.map OpS.nm).Nodup by
        have := hst.out
        rwa [List.take_of_length_le (by rw [HN.out]; omega)] at this)
      clear hst
      by_cases h1 : n0 < 0
      · have HE := Lib.hid (show R = .tuple #[.int .i64 0, .bool false] by
          rw [HR.out]
          unfold listV listRun
          rw [if_neg]
          rintro ⟨_, hb⟩
          unfold inB at hb
          simp only [decide_eq_true_eq] at hb
          omega)
        have d1 : decide (n0 < 0) = true := by simpa using h1
        clear mx
        go_wp2_with fail
        go_ret2
        exact ⟨by rw [HE.out]; rfl, MX.out⟩
      have d1 : decide (n0 < 0) = false := by simpa using h1
      by_cases h2 : 20000 < n0
      · have HE := Lib.hid (show R = .tuple #[.int .i64 0, .bool false] by
          rw [HR.out]
          unfold listV listRun
          rw [if_neg]
          rintro ⟨_, hb⟩
          unfold inB at hb
          simp only [decide_eq_true_eq] at hb
          omega)
        have d2 : decide (20000 < n0) = true := by simpa using h2
        clear mx
        go_wp2_with fail
        go_ret2
        exact ⟨by rw [HE.out]; rfl, MX.out⟩
      have d2 : decide (20000 < n0) = false := by simpa using h2
      have hnb : inB n0 0 20000 = true := by unfold inB; simp; omega
      have HR2 := Lib.hid (show listRun l n0 = runOps l n0 by unfold listRun; rw [if_pos ⟨HND.out, hnb⟩])
      have HF := Lib.hid (fold_any wr a k cap l n0 (H.out.grown mx) hnb)
      clear mx hnb
      go_wp2_with fail
      refine HF.out.mono ?_
      rintro e w1 ⟨⟨m, hm, rfl⟩ | ⟨hm, m, rfl⟩, m1⟩
      · have HE := Lib.hid (show R = .tuple #[.int .i64 m, .bool true] by rw [HR.out]; unfold listV; rw [HR2.out, hm])
        have M1 := Lib.hid (MX.out.trans m1)
        clear hm m1 HF
        go_wp2_with fail
        go_ret2
        exact ⟨by rw [HE.out]; rfl, M1.out⟩
      · have HE := Lib.hid (show R = .tuple #[.int .i64 0, .bool false] by rw [HR.out]; unfold listV; rw [HR2.out, hm])
        have M1 := Lib.hid (MX.out.trans m1)
        clear hm m1 HF
        go_wp2_with fail
        go_ret2
        exact ⟨by rw [HE.out]; rfl, M1.out⟩
end Go.Proofs.YtjgjjlolhdlofaaGreatDoor
