/-
  Layer 22 (net): the walk of NetCounts.
-/
import Derived.Test.YtpdfakfokegcnaaNet12
namespace Go.Proofs.Ytpdfakfokegcnaa
open Go.RowKit Go.Mine

/-- What holds behind j acts: P were put, G are gone. -/
def NInv (w : World) (p bw j : Nat) (P G : Int) (wr : World) : Prop :=
  ∃ B vs L lost, w.heap.size ≤ B ∧ NetRep B wr p bw vs L lost ∧ Below w.heap.size w wr ∧ Sz L ∧ 0 ≤ lost ∧ lost ≤ j ∧ 0 ≤ G ∧ G ≤ 200 * j ∧ P = G + onWays L + lost

/-- What holds in the round behind the act. -/
def NMid (w : World) (p bw j : Nat) (P G : Int) (wr : World) : Prop :=
  ∃ B vs L lost, w.heap.size ≤ B ∧ NetRep B wr p bw vs L lost ∧ Below w.heap.size w wr ∧ Sz L ∧ 0 ≤ lost ∧ lost ≤ j + 1 ∧ 0 ≤ G ∧ G ≤ 200 * (j + 1) ∧ P = G + onWays L + lost

theorem take_t (B p bw : Nat) (i k : Int) (vs : List Value) (L : Ways) (lost : Int) (w : World) (h : NetRep B w p bw vs L lost) (hk : k < 9223372036854775808) :
    Calls Try.prog 11 #[.pointer (some ⟨p, 0, none⟩), .int .i64 i, .int .i64 k, .bool true] w (NetPost B p bw L lost (.tuple #[.string (textOf L i k), .int .i64 (askE L i k)]) w) :=
  take_all B p bw i k true vs L lost w h hk
theorem take_f0 (B p bw : Nat) (i k : Int) (vs : List Value) (L : Ways) (lost : Int) (w : World) (h : NetRep B w p bw vs L lost) (hk : k < 9223372036854775808) (e : askE L i k = 0) :
    Calls Try.prog 11 #[.pointer (some ⟨p, 0, none⟩), .int .i64 i, .int .i64 k, .bool false] w (NetPost B p bw (goneL L i k) lost (.tuple #[.string (textOf L i k), .int .i64 0]) w) := by
  have := take_all B p bw i k false vs L lost w h hk
  rw [e] at this; exact this
theorem take_f1 (B p bw : Nat) (i k : Int) (vs : List Value) (L : Ways) (lost : Int) (w : World) (h : NetRep B w p bw vs L lost) (hk : k < 9223372036854775808) (e : ¬ askE L i k = 0) :
    Calls Try.prog 11 #[.pointer (some ⟨p, 0, none⟩), .int .i64 i, .int .i64 k, .bool false] w (NetPost B p bw L lost (.tuple #[.string (textOf L i k), .int .i64 (askE L i k)]) w) := by
  have := take_all B p bw i k false vs L lost w h hk
  rw [if_neg (by decide), gone_1 e] at this; exact this
theorem put_0 (B p bw : Nat) (i : Int) (s : ByteArray) (vs : List Value) (L : Ways) (lost : Int) (w : World) (h : NetRep B w p bw vs L lost) (hlo : 0 ≤ lost ∧ lost ≤ 1099511627776) (e : putE L i = 0) :
    Calls Try.prog 15 #[.pointer (some ⟨p, 0, none⟩), .int .i64 i, .string s] w (NetPost B p bw (putL L i s) lost (.int .i64 0) w) := by
  have := put_all B p bw i s vs L lost w h hlo
  rw [e] at this; exact this
theorem put_1 (B p bw : Nat) (i : Int) (s : ByteArray) (vs : List Value) (L : Ways) (lost : Int) (w : World) (h : NetRep B w p bw vs L lost) (hlo : 0 ≤ lost ∧ lost ≤ 1099511627776) (e : putE L i = 1) (el : putL L i s = L) :
    Calls Try.prog 15 #[.pointer (some ⟨p, 0, none⟩), .int .i64 i, .string s] w (NetPost B p bw L lost (.int .i64 1) w) := by
  have := put_all B p bw i s vs L lost w h hlo
  rw [e, el] at this; exact this
theorem put_4 (B p bw : Nat) (i : Int) (s : ByteArray) (vs : List Value) (L : Ways) (lost : Int) (w : World) (h : NetRep B w p bw vs L lost) (hlo : 0 ≤ lost ∧ lost ≤ 1099511627776) (e : putE L i = 4) (el : putL L i s = L) :
    Calls Try.prog 15 #[.pointer (some ⟨p, 0, none⟩), .int .i64 i, .string s] w (NetPost B p bw L (lost + 1) (.int .i64 4) w) := by
  have := put_all B p bw i s vs L lost w h hlo
  rw [e, el] at this; exact this
theorem put_4' (B p bw : Nat) (i : Int) (s : ByteArray) (vs : List Value) (L : Ways) (lost : Int) (w : World) (h : NetRep B w p bw vs L lost) (hlo : 0 ≤ lost ∧ lost ≤ 1099511627776) (e : putE L i = 4) (el : putL L i s = L) (lo : Int) (hl : lo = lost + 1) :
    Calls Try.prog 15 #[.pointer (some ⟨p, 0, none⟩), .int .i64 i, .string s] w (NetPost B p bw L lo (.int .i64 4) w) := by
  subst hl; exact put_4 B p bw i s vs L lost w h hlo e el
theorem lose_0 (B p bw : Nat) (i k : Int) (vs : List Value) (L : Ways) (lost : Int) (w : World) (h : NetRep B w p bw vs L lost) (hk : k < 9223372036854775808) (hlo : 0 ≤ lost ∧ lost ≤ 1099511627776) (e : askE L i k = 0) :
    Calls Try.prog 12 #[.pointer (some ⟨p, 0, none⟩), .int .i64 i, .int .i64 k] w (NetPost B p bw (goneL L i k) (lost + 1) (.int .i64 0) w) := by
  have := lose_all B p bw i k vs L lost w h hk hlo
  rw [e] at this; exact this
theorem lose_1 (B p bw : Nat) (i k : Int) (vs : List Value) (L : Ways) (lost : Int) (w : World) (h : NetRep B w p bw vs L lost) (hk : k < 9223372036854775808) (hlo : 0 ≤ lost ∧ lost ≤ 1099511627776) (e : ¬ askE L i k = 0) :
    Calls Try.prog 12 #[.pointer (some ⟨p, 0, none⟩), .int .i64 i, .int .i64 k] w (NetPost B p bw L lost (.int .i64 (askE L i k)) w) := by
  have := lose_all B p bw i k vs L lost w h hk hlo
  rw [if_neg e, gone_1 e] at this; exact this

set_option maxHeartbeats 1000000 in
set_option maxRecDepth 1000000 in
theorem counts_walk (a : Option Addr) (len cap : Nat) (l : List NAct) (w : World) (h : IsActs w a len cap l) :
    Calls Try.prog 3 #[.slice a len cap] w fun e w' => e = .returned (.bool true) ∧ Below w.heap.size w w' := by
  have hle := h.le
  have hbig := h.big
  unfold maxLen at hbig
  have hn := Lib.hid h.n
  have hal := Lib.hid (alive_any w)
  have H : Aside (IsActs w a len cap l) := h
  have hnew := Lib.hid (fun w => new_ok 3 (by decide) (by decide) w)
  clear h
  go_enter Try.func3, Try.ntmps3
  go_wp2_with fail
  refine hal.out.mono ?_
  rintro e w0 ⟨rfl, b0⟩
  have B0 := Lib.hid b0; clear b0
  go_wp2_with fail
  have Hacts : Aside (IsActs w0 a len cap l) := by
    refine ⟨H.out.n, H.out.le, H.out.big, H.out.ok, fun i x hx => ?_⟩
    obtain ⟨b, off, rfl, hat⟩ := H.out.cells i x hx
    have k := fun (o : Nat) (v : Value) (hc : w.cell? ⟨b, o, none⟩ = some v) => cell_later B0.out hc
    exact ⟨b, off, rfl, k _ _ hat.c0, k _ _ hat.c1, k _ _ hat.c2, k _ _ hat.c3, k _ _ hat.c4, k _ _ hat.c5⟩
  have hgr := great_any a len cap l w0 Hacts.out
  by_cases hg : greatB l = true
  · rw [hg] at hgr
    have Hgr := Lib.hid hgr
    clear hgr hg
    refine Hgr.out.mono ?_
    rintro e w1 ⟨rfl, rfl⟩
    go_wp2_with fail
    go_ret
    exact ⟨rfl, B0.out⟩
  have hg' : greatB l = false := by simpa using hg
  rw [hg'] at hgr
  have Hgr := Lib.hid hgr
  have Hgf := Lib.hid hg'
  clear hgr hg hg'
  refine Hgr.out.mono ?_
  rintro e w1 ⟨rfl, rfl⟩
  go_wp2_with fail
  refine (hnew.out w0).mono ?_
  rintro e w1 ⟨p, bw, vs, rfl, h1, b1⟩
  have H1 := Lib.hid h1; have B1 := Lib.hid b1; clear h1 b1
  go_wp2_with fail
  have hlen3 : l.length ≤ 300 := by
    have := Hgf.out
    unfold greatB at this
    simp only [Bool.or_eq_false_iff] at this
    simpa using this.1
  have hs200 : Aside (∀ x ∈ l, x.s.size ≤ 200) := by
    have := Hgf.out
    unfold greatB at this
    simp only [Bool.or_eq_false_iff] at this
    intro x hx
    have := List.any_eq_false.1 this.2 x hx
    simpa using this
  have hlen : len ≤ 300 := by rw [hn.out] at hlen3; exact hlen3
  have Bw1 : Aside (w.heap.size ≤ w0.heap.size) := B0.out.size
  clear hlen3 Hgf
  go_loopw [5, 6, 7] (fun P G i wr => ∃ (j : Nat) (p' g' : Int), j ≤ len ∧ i = .int .i64 j ∧ P = .int .i64 p' ∧ G = .int .i64 g' ∧ NInv w p bw j p' g' wr) (fun _ _ i _ => len - (intOf i).toNat)
  case atStart =>
    refine ⟨0, 0, 0, Nat.zero_le _, rfl, rfl, rfl, _, _, _, 0, Bw1.out, H1.out, B0.out.trans (B1.out.mono Bw1.out), ?_, by omega, by omega, by omega, by omega, by decide⟩
    intro l' hl' x hx
    obtain ⟨_, rfl⟩ := List.mem_replicate.1 hl'
    simp at hx
  case round =>
    obtain ⟨j, p', g', hj, rfl, rfl, rfl, B, vs', L, lost, hB, hr, hbel, hsz, hl0, hl1, hg0, hg1, hP⟩ := hrel
    have R := Lib.hid hr
    have BR := Lib.hid hbel
    have HP := Lib.hid hP
    have hsz' := Lib.hid hsz
    have hob := onWays_bound L hr.each
    have hfew := hr.few
    clear hr hbel hP hsz
    by_cases hlt : j < len
    · have hjl : j < l.length := by rw [hn.out]; exact hlt
      obtain ⟨b, off, rfl, hat0⟩ := H.out.cells j l[j] (by simp [hjl])
      have hok := H.out.ok l[j] (List.getElem_mem hjl)
      have hss := hs200.out l[j] (List.getElem_mem hjl)
      obtain ⟨x, hx⟩ : ∃ x, x = l[j] := ⟨_, rfl⟩
      rw [← hx] at hat0 hok hss
      have c0 := cell_later BR.out hat0.c0
      have c1 := cell_later BR.out hat0.c1
      have c2 := cell_later BR.out hat0.c2
      have c3 := cell_later BR.out hat0.c3
      have c4 := cell_later BR.out hat0.c4
      have c5 := cell_later BR.out hat0.c5
      have hd := hok.d
      have k1 := hok.k
      have k2 := hok.a
      have k3 := hok.b
      clear hx hat0 hok hjl
      have hdm : 0 ≤ (x.d : Int) % 8 ∧ (x.d : Int) % 8 < 8 := by omega
      have hpb : 0 ≤ p' ∧ p' ≤ 1000000 := by have := HP.out; omega
      by_cases d4 : (x.d : Int) % 8 = 4
      · have hfin : (p' != g' + onWays L + lost) = false := by rw [bne_eq_false_iff_eq]; exact HP.out
        have HF := Lib.hid hfin
        go_wp2_with (first
          | (go_at_call 11; refine (take_t B p bw _ _ vs' L lost _ (by exact R.out.grown ((Mod.refl none_ wr).alloc _)) (by omega)).mono ?_; rintro e w2 ⟨rfl, vs2, hr2, hb2⟩; have hob2 := onWays_bound _ hr2.each; have hf2 := hr2.few; have R2 := Lib.hid hr2; have BR2 := Lib.hid hb2; clear hr2 hb2)
          | (go_at_call 16; refine (total_any B p bw _ _ _ _ R2.out).mono ?_; rintro e w' ⟨rfl, rfl⟩)
          | (go_at_call 17; refine (lost_any B p bw _ _ _ _ R2.out).mono ?_; rintro e w' ⟨rfl, rfl⟩))
        exact ⟨⟨j + 1, p', g', by omega, by go_num, rfl, rfl, B, vs2, L, lost, hB, R2.out, (BR.out.alloc BR.out.size _).trans (BR2.out.mono hB), hsz'.out, by omega, by omega, by omega, by omega, by simpa using HF.out⟩, by simp [intOf]; omega⟩
      by_cases d3 : (x.d : Int) % 8 = 3
      · clear d4
        by_cases e0 : askE L x.way x.k = 0
        · have E0 := Lib.hid e0; clear e0
          have hfin : (p' != (g' + 1) + onWays (goneL L x.way x.k) + lost) = false := by rw [bne_eq_false_iff_eq]; rw [gone_0 E0.out]; have := HP.out; omega
          have HF := Lib.hid hfin
          go_wp2_with (first
            | (go_at_call 11; refine (take_f0 B p bw _ _ vs' L lost _ (by exact R.out.grown ((Mod.refl none_ wr).alloc _)) (by omega) E0.out).mono ?_; rintro e w2 ⟨rfl, vs2, hr2, hb2⟩; have hob2 := onWays_bound _ hr2.each; have hf2 := hr2.few; have R2 := Lib.hid hr2; have BR2 := Lib.hid hb2; clear hr2 hb2)
            | (go_at_call 16; refine (total_any B p bw _ _ _ _ R2.out).mono ?_; rintro e w' ⟨rfl, rfl⟩)
            | (go_at_call 17; refine (lost_any B p bw _ _ _ _ R2.out).mono ?_; rintro e w' ⟨rfl, rfl⟩))
          exact ⟨⟨j + 1, p', (g' + 1), by omega, by go_num, rfl, rfl, B, vs2, (goneL L x.way x.k), lost, hB, R2.out, (BR.out.alloc BR.out.size _).trans (BR2.out.mono hB), gone_sz hsz'.out _ _, by omega, by omega, by omega, by omega, by simpa using HF.out⟩, by simp [intOf]; omega⟩
        · have hne : (askE L x.way x.k == 0) = false := by rw [beq_eq_false_iff_ne]; exact e0
          have E0 := Lib.hid e0; clear e0
          have hfin : (p' != g' + onWays L + lost) = false := by rw [bne_eq_false_iff_eq]; exact HP.out
          have HF := Lib.hid hfin
          go_wp2_with (first
            | (go_at_call 11; refine (take_f1 B p bw _ _ vs' L lost _ (by exact R.out.grown ((Mod.refl none_ wr).alloc _)) (by omega) E0.out).mono ?_; rintro e w2 ⟨rfl, vs2, hr2, hb2⟩; have hob2 := onWays_bound _ hr2.each; have hf2 := hr2.few; have R2 := Lib.hid hr2; have BR2 := Lib.hid hb2; clear hr2 hb2)
            | (go_at_call 16; refine (total_any B p bw _ _ _ _ R2.out).mono ?_; rintro e w' ⟨rfl, rfl⟩)
            | (go_at_call 17; refine (lost_any B p bw _ _ _ _ R2.out).mono ?_; rintro e w' ⟨rfl, rfl⟩))
          exact ⟨⟨j + 1, p', g', by omega, by go_num, rfl, rfl, B, vs2, L, lost, hB, R2.out, (BR.out.alloc BR.out.size _).trans (BR2.out.mono hB), hsz'.out, by omega, by omega, by omega, by omega, by simpa using HF.out⟩, by simp [intOf]; omega⟩
      by_cases d5 : (x.d : Int) % 8 = 5
      · clear d4 d3
        by_cases e0 : askE L x.way x.k = 0
        · have E0 := Lib.hid e0; clear e0
          have hfin : (p' != g' + onWays (goneL L x.way x.k) + (lost + 1)) = false := by rw [bne_eq_false_iff_eq]; rw [gone_0 E0.out]; have := HP.out; omega
          have HF := Lib.hid hfin
          go_wp2_with (first
            | (go_at_call 12; refine (lose_0 B p bw _ _ vs' L lost _ (by exact R.out.grown ((Mod.refl none_ wr).alloc _)) (by omega) (by omega) E0.out).mono ?_; rintro e w2 ⟨rfl, vs2, hr2, hb2⟩; have hob2 := onWays_bound _ hr2.each; have hf2 := hr2.few; have R2 := Lib.hid hr2; have BR2 := Lib.hid hb2; clear hr2 hb2)
            | (go_at_call 16; refine (total_any B p bw _ _ _ _ R2.out).mono ?_; rintro e w' ⟨rfl, rfl⟩)
            | (go_at_call 17; refine (lost_any B p bw _ _ _ _ R2.out).mono ?_; rintro e w' ⟨rfl, rfl⟩))
          exact ⟨⟨j + 1, p', g', by omega, by go_num, rfl, rfl, B, vs2, (goneL L x.way x.k), (lost + 1), hB, R2.out, (BR.out.alloc BR.out.size _).trans (BR2.out.mono hB), gone_sz hsz'.out _ _, by omega, by omega, by omega, by omega, by simpa using HF.out⟩, by simp [intOf]; omega⟩
        · have E0 := Lib.hid e0; clear e0
          have hfin : (p' != g' + onWays L + lost) = false := by rw [bne_eq_false_iff_eq]; exact HP.out
          have HF := Lib.hid hfin
          go_wp2_with (first
            | (go_at_call 12; refine (lose_1 B p bw _ _ vs' L lost _ (by exact R.out.grown ((Mod.refl none_ wr).alloc _)) (by omega) (by omega) E0.out).mono ?_; rintro e w2 ⟨rfl, vs2, hr2, hb2⟩; have hob2 := onWays_bound _ hr2.each; have hf2 := hr2.few; have R2 := Lib.hid hr2; have BR2 := Lib.hid hb2; clear hr2 hb2)
            | (go_at_call 16; refine (total_any B p bw _ _ _ _ R2.out).mono ?_; rintro e w' ⟨rfl, rfl⟩)
            | (go_at_call 17; refine (lost_any B p bw _ _ _ _ R2.out).mono ?_; rintro e w' ⟨rfl, rfl⟩))
          exact ⟨⟨j + 1, p', g', by omega, by go_num, rfl, rfl, B, vs2, L, lost, hB, R2.out, (BR.out.alloc BR.out.size _).trans (BR2.out.mono hB), hsz'.out, by omega, by omega, by omega, by omega, by simpa using HF.out⟩, by simp [intOf]; omega⟩
      by_cases d6 : (x.d : Int) % 8 = 6
      · clear d4 d3 d5
        have hfin : (p' != g' + onWays (spoilL L x.way x.k x.a x.b) + lost) = false := by rw [bne_eq_false_iff_eq]; rw [spoil_0]; exact HP.out
        have HF := Lib.hid hfin
        go_wp2_with (first
          | (go_at_call 13; refine (spoil_all B p bw _ _ _ _ vs' L lost _ (by exact R.out.grown ((Mod.refl none_ wr).alloc _)) (by omega) (by omega) (by omega) hsz'.out).mono ?_; rintro e w2 ⟨rfl, vs2, hr2, hb2⟩; have hob2 := onWays_bound _ hr2.each; have hf2 := hr2.few; have R2 := Lib.hid hr2; have BR2 := Lib.hid hb2; clear hr2 hb2)
          | (go_at_call 16; refine (total_any B p bw _ _ _ _ R2.out).mono ?_; rintro e w' ⟨rfl, rfl⟩)
          | (go_at_call 17; refine (lost_any B p bw _ _ _ _ R2.out).mono ?_; rintro e w' ⟨rfl, rfl⟩))
        exact ⟨⟨j + 1, p', g', by omega, by go_num, rfl, rfl, B, vs2, (spoilL L x.way x.k x.a x.b), lost, hB, R2.out, (BR.out.alloc BR.out.size _).trans (BR2.out.mono hB), spoil_sz hsz'.out _ _ _ _, by omega, by omega, by omega, by omega, by simpa using HF.out⟩, by simp [intOf]; omega⟩
      by_cases d7 : (x.d : Int) % 8 = 7
      · clear d4 d3 d5 d6
        have hcb := count_bound R.out.each x.way
        have hfin : (p' != (g' + countN L x.way) + onWays (clearL L x.way) + lost) = false := by rw [bne_eq_false_iff_eq]; rw [clear_0]; have := HP.out; omega
        have HF := Lib.hid hfin
        go_wp2_with (first
          | (go_at_call 14; refine (clear_all B p bw _ vs' L lost _ (by exact R.out.grown ((Mod.refl none_ wr).alloc _))).mono ?_; rintro e w2 ⟨rfl, vs2, hr2, hb2⟩; have hob2 := onWays_bound _ hr2.each; have hf2 := hr2.few; have R2 := Lib.hid hr2; have BR2 := Lib.hid hb2; clear hr2 hb2)
          | (go_at_call 16; refine (total_any B p bw _ _ _ _ R2.out).mono ?_; rintro e w' ⟨rfl, rfl⟩)
          | (go_at_call 17; refine (lost_any B p bw _ _ _ _ R2.out).mono ?_; rintro e w' ⟨rfl, rfl⟩))
        exact ⟨⟨j + 1, p', (g' + countN L x.way), by omega, by go_num, rfl, rfl, B, vs2, (clearL L x.way), lost, hB, R2.out, (BR.out.alloc BR.out.size _).trans (BR2.out.mono hB), clear_sz hsz'.out _, by omega, by omega, by omega, by omega, by simpa using HF.out⟩, by simp [intOf]; omega⟩
      have q3 : ((x.d : Int) % 8 == 3) = false := by rw [beq_eq_false_iff_ne]; exact d3
      have q4 : ((x.d : Int) % 8 == 4) = false := by rw [beq_eq_false_iff_ne]; exact d4
      have q5 : ((x.d : Int) % 8 == 5) = false := by rw [beq_eq_false_iff_ne]; exact d5
      have q6 : ((x.d : Int) % 8 == 6) = false := by rw [beq_eq_false_iff_ne]; exact d6
      have q7 : ((x.d : Int) % 8 == 7) = false := by rw [beq_eq_false_iff_ne]; exact d7
      clear d3 d4 d5 d6 d7
      rcases put_cases L x.way x.s with ⟨e1, e2⟩ | ⟨e1, e2⟩ | ⟨e1, e2⟩
      · have E1 := Lib.hid e1; have E2 := Lib.hid e2; clear e1 e2
        have hfin : (p' != g' + onWays L + lost) = false := by rw [bne_eq_false_iff_eq]; exact HP.out
        have HF := Lib.hid hfin
        go_wp2_with (first
          | (go_at_call 15; refine (put_1 B p bw _ _ vs' L lost _ (by exact R.out.grown ((Mod.refl none_ wr).alloc _)) (by omega) E1.out E2.out).mono ?_; rintro e w2 ⟨rfl, vs2, hr2, hb2⟩; have hob2 := onWays_bound _ hr2.each; have hf2 := hr2.few; have R2 := Lib.hid hr2; have BR2 := Lib.hid hb2; clear hr2 hb2)
          | (go_at_call 16; refine (total_any B p bw _ _ _ _ R2.out).mono ?_; rintro e w' ⟨rfl, rfl⟩)
          | (go_at_call 17; refine (lost_any B p bw _ _ _ _ R2.out).mono ?_; rintro e w' ⟨rfl, rfl⟩))
        exact ⟨⟨j + 1, p', g', by omega, by go_num, rfl, rfl, B, vs2, L, lost, hB, R2.out, (BR.out.alloc BR.out.size _).trans (BR2.out.mono hB), hsz'.out, by omega, by omega, by omega, by omega, by simpa using HF.out⟩, by simp [intOf]; omega⟩
      · have E1 := Lib.hid e1; have E2 := Lib.hid e2; clear e1 e2
        obtain ⟨lo, hlo⟩ : ∃ lo, lo = lost + 1 := ⟨_, rfl⟩
        have lob : 0 ≤ lo ∧ lo ≤ j + 1 := by omega
        have HL := Lib.hid hlo
        clear hlo
        have hfin : ((p' + 1) != g' + onWays L + lo) = false := by rw [bne_eq_false_iff_eq]; have := HP.out; have := HL.out; omega
        have HF := Lib.hid hfin
        go_wp2_with (first
          | (go_at_call 15; refine (put_4' B p bw _ _ vs' L lost _ (by exact R.out.grown ((Mod.refl none_ wr).alloc _)) (by omega) E1.out E2.out lo HL.out).mono ?_; rintro e w2 ⟨rfl, vs2, hr2, hb2⟩; have hob2 := onWays_bound _ hr2.each; have hf2 := hr2.few; have R2 := Lib.hid hr2; have BR2 := Lib.hid hb2; clear hr2 hb2)
          | (go_at_call 16; refine (total_any B p bw _ _ _ _ R2.out).mono ?_; rintro e w' ⟨rfl, rfl⟩)
          | (go_at_call 17; refine (lost_any B p bw _ _ _ _ R2.out).mono ?_; rintro e w' ⟨rfl, rfl⟩))
        exact ⟨⟨j + 1, (p' + 1), g', by omega, by go_num, rfl, rfl, B, vs2, L, lo, hB, R2.out, (BR.out.alloc BR.out.size _).trans (BR2.out.mono hB), hsz'.out, by omega, by omega, by omega, by omega, by simpa using HF.out⟩, by simp [intOf]; omega⟩
      · have E1 := Lib.hid e1; have E2 := Lib.hid e2; clear e1 e2
        have hfin : ((p' + 1) != g' + onWays (putL L x.way x.s) + lost) = false := by rw [bne_eq_false_iff_eq]; rw [E2.out]; have := HP.out; omega
        have HF := Lib.hid hfin
        go_wp2_with (first
          | (go_at_call 15; refine (put_0 B p bw _ _ vs' L lost _ (by exact R.out.grown ((Mod.refl none_ wr).alloc _)) (by omega) E1.out).mono ?_; rintro e w2 ⟨rfl, vs2, hr2, hb2⟩; have hob2 := onWays_bound _ hr2.each; have hf2 := hr2.few; have R2 := Lib.hid hr2; have BR2 := Lib.hid hb2; clear hr2 hb2)
          | (go_at_call 16; refine (total_any B p bw _ _ _ _ R2.out).mono ?_; rintro e w' ⟨rfl, rfl⟩)
          | (go_at_call 17; refine (lost_any B p bw _ _ _ _ R2.out).mono ?_; rintro e w' ⟨rfl, rfl⟩))
        exact ⟨⟨j + 1, (p' + 1), g', by omega, by go_num, rfl, rfl, B, vs2, (putL L x.way x.s), lost, hB, R2.out, (BR.out.alloc BR.out.size _).trans (BR2.out.mono hB), put_sz hsz'.out _ (by omega), by omega, by omega, by omega, by omega, by simpa using HF.out⟩, by simp [intOf]; omega⟩
    · go_wp2_with fail
      go_ret
      exact ⟨rfl, BR.out⟩

end Go.Proofs.Ytpdfakfokegcnaa
