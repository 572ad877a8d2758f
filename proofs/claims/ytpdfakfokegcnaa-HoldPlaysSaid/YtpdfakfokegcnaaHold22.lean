/-
  Layer 21 (hold): the walk of HoldPlays.
-/
import Derived.Test.YtpdfakfokegcnaaHold20
import Derived.Deep.LoopGhost
import Derived.Deep.CutBlock
import Derived.Deep.CutRange
namespace Go.Proofs.Ytpdfakfokegcnaa
open Go.RowKit Go.Mine
attribute [local go_sem ↓] ld_msg st_msg ld_rq st_rq
attribute [local go_sem] run_ld_msg run_st_msg run_ld_rq run_st_rq cut_drew setCells_drew World.there_drew setCells_alloc_at there_alloc_at cut_alloc_at there_alloc_old cut_alloc_old fold_set_whole fold_set_at there_drewN cut_drewN setCells_drewN

theorem setCells_alloc_old (o : Obj) (g : Nat) : ∀ (cs : List Value) (off : Nat) (w : World), g < w.heap.size → (w.alloc o).setCells g off cs = (w.setCells g off cs).alloc o := by
  intro cs
  induction cs with
  | nil => intro off w h; rfl
  | cons v r ih =>
    intro off w h
    have e : (w.alloc o).setCell ⟨g, off, none⟩ v = (w.setCell ⟨g, off, none⟩ v).alloc o := World.setCell_alloc_past o g off v h
    show ((w.alloc o).setCell ⟨g, off, none⟩ v).setCells g (off + 1) r = ((w.setCell ⟨g, off, none⟩ v).setCells g (off + 1) r).alloc o
    rw [e, ih (off + 1) _ (by simpa using h)]
attribute [local go_sem] setCells_alloc_old

structure HAct where
  d : Nat
  num : Int
  k : Int
structure HAct.at_ (y : HAct) (w : World) (b o : Nat) : Prop where
  c0 : w.cell? ⟨b, o, none⟩ = some (.int .u8 (y.d : Int))
  c1 : w.cell? ⟨b, o + 1, none⟩ = some (.int .i64 y.num)
  c2 : w.cell? ⟨b, o + 2, none⟩ = some (.int .i64 y.k)
structure HAct.ok (y : HAct) : Prop where
  d : y.d < 256
  n : -9223372036854775808 ≤ y.num ∧ y.num ≤ 9223372036854775807
  k : -9223372036854775808 ≤ y.k ∧ y.k ≤ 9223372036854775807
structure IsHActs (w : World) (a : Option Addr) (len cap : Nat) (l : List HAct) : Prop where
  n : l.length = len
  le : len ≤ cap
  big : cap ≤ maxLen
  ok : ∀ y ∈ l, y.ok
  cells : ∀ (i : Nat) (y : HAct), l[i]? = some y → ∃ b off, a = some ⟨b, off, none⟩ ∧ y.at_ w b (off + i * 3)

/-- The two queues side by side behind j acts. -/
def PlInv (w : World) (p lb rb : Nat) (j : Nat) (wr : World) : Prop :=
  ∃ B g next a len cap L, PS w p lb rb B g next L next a len cap L wr ∧ Rising L ∧ L.length ≤ 64 ∧ 1 ≤ next ∧ next ≤ 1099511627776 + (j : Int) ∧ ∀ x ∈ L, ∃ k, -9223372036854775808 ≤ k ∧ k ≤ 9223372036854775807 ∧ x = itmOf x.num 2 k

theorem dropL_mem {L : List Itm} {num : Int} {y : Itm} (h : y ∈ dropL L num) : y ∈ L := (List.mem_filter.1 h).1

/-- Where the document's answer lies: a block y of its own. -/
structure YAt (next : Int) (n : Nat) (ra : Option Addr) (wA W1 : World) (y : Nat) (a' : Option Addr) (cap' : Nat) (M : List Itm) : Prop where
  b : Blk W1 y [.int .i64 next, .slice a' M.length cap'] 58
  m : Mod none_ wA W1
  r : RRow W1 a' M.length cap' M
  new : ∀ A, a' = some A → (M.length ≤ n ∧ ∃ A0, ra = some A0 ∧ A0.block = A.block) ∨ wA.heap.size ≤ A.block

theorem ystep1 {next : Int} {n : Nat} {ra a' : Option Addr} {cap' : Nat} {M : List Itm} {wA wB : World} (hR : RRow wB a' M.length cap' M) (hA : ∀ A, a' = some A → (M.length ≤ n ∧ ∃ A0, ra = some A0 ∧ A0.block = A.block) ∨ wA.drew.heap.size ≤ A.block) (mB : Mod none_ wA.drew wB) :
    YAt next n ra wA (wB.alloc (.cells #[.int .i64 next, .slice a' M.length cap'] 58)) wB.heap.size a' cap' M :=
  ⟨Blk.new, ((Mod.refl none_ wA).drew.trans mB).alloc _, hR.grown ((Mod.refl none_ wB).alloc _), hA⟩
theorem ystep2 {next : Int} {ra a' : Option Addr} {rlen rcap cap' : Nat} {L M : List Itm} {wA wB : World} (hr : RRow wA ra rlen rcap L) (hR : RRow wB a' M.length cap' M) (hA : ∀ A, a' = some A → (M.length ≤ L.length ∧ ∃ A0, ra = some A0 ∧ A0.block = A.block) ∨ ((wA.alloc (.cells #[.int .i64 0, .slice none 0 0] 58)).drew).heap.size ≤ A.block) (mB : Mod none_ ((wA.alloc (.cells #[.int .i64 0, .slice none 0 0] 58)).drew) wB) :
    YAt next L.length ra wA (wB.setCells wA.heap.size 0 [.int .i64 next, .slice a' M.length cap']) wA.heap.size a' cap' M := by
  have hsz : ((wA.alloc (.cells #[.int .i64 0, .slice none 0 0] 58)).drew).heap.size = wA.heap.size + 1 := by simp [World.drew]
  have k0 : Blk wB wA.heap.size [.int .i64 0, .slice none 0 0] 58 := ((Blk.new (w := wA) (cs := [.int .i64 0, .slice none 0 0]) (t := 58)).drew).mod mB (fun e => e)
  obtain ⟨k1, m1⟩ := blk_over k0 (mc := [.int .i64 next, .slice a' M.length cap']) rfl
  have mAB : Mod none_ wA wB := (((Mod.refl none_ wA).alloc _).drew).trans mB
  rw [hsz] at hA
  refine ⟨k1, mAB.transIn m1 (fun x hx e => by have : x = wA.heap.size := e; omega), hR.mod' m1 (fun h0 A e q => ?_), fun A e => (hA A e).imp id (fun q => by omega)⟩
  have hq : A.block = wA.heap.size := q
  rcases hA A e with ⟨hl, A0, e0, eb⟩ | hn
  · have := hr.lt (by have := hr.n; omega) e0
    omega
  · omega

set_option maxHeartbeats 60000000 in
set_option maxRecDepth 1000000 in
theorem plays_walk (n : Int) (a : Option Addr) (len cap : Nat) (l : List HAct) (w : World) (hn : -9223372036854775808 ≤ n ∧ n ≤ 9223372036854775807) (h : IsHActs w a len cap l) :
    Calls Try.prog 6 #[.int .i64 n, .slice a len cap] w fun e w' => e = .returned (.bool true) ∧ Below w.heap.size w w' := by
  have hal := Lib.hid (halive_any w)
  have hle := h.le
  have hbig := h.big
  unfold maxLen at hbig
  have hN := h.n
  have H := Lib.hid h
  clear h
  go_enter Try.func6, Try.ntmps6
  go_wp2_with fail
  refine hal.out.mono ?_
  rintro e w0 ⟨rfl, b0⟩
  have B0 := Lib.hid b0; clear b0
  by_cases h200 : 200 < len
  · go_wp2_with fail
    go_ret
    exact ⟨rfl, B0.out⟩
  have hd200 : decide (200 < (len : Int)) = false := by simp; omega
  by_cases hlo : n < 1
  · go_wp2_with fail
    refine (qnew_bad n (.inl hlo) w0).mono ?_
    rintro e w1 ⟨rfl, rfl⟩
    go_wp2_with fail
    go_ret
    exact ⟨rfl, B0.out⟩
  have hlod : decide (n < 1) = false := by simp; omega
  by_cases hhi : 1099511627776 < n
  · have hhid : decide (1099511627776 < n) = true := by simpa using hhi
    go_wp2_with fail
    refine (qnew_bad n (.inr hhi) w0).mono ?_
    rintro e w1 ⟨rfl, rfl⟩
    go_wp2_with fail
    go_ret
    exact ⟨rfl, B0.out⟩
  have hhid : decide (1099511627776 < n) = false := by simp; omega
  go_wp2_with fail
  refine (qnew_ok n (by omega) (by omega) w0).mono ?_
  rintro e w1 ⟨p, lb, g0, rfl, h1, m1⟩
  have H1 := Lib.hid h1; have M1 := Lib.hid m1; clear h1 m1
  go_wp2_with fail
  have hP : PlInv w p lb w1.heap.size 0 (w1.alloc (.cells #[.int .i64 n, .slice none 0 0] 58)) := by
    have b1 : Below w.heap.size w w1 := B0.out.trans (M1.out.toBelow B0.out.size (fun _ _ e => e))
    refine ⟨w0.heap.size, g0, n, none, 0, 0, [], ⟨H1.out.grown ((Mod.refl _ _).alloc _), B0.out.size, b1.size, b1.alloc b1.size _, Blk.new, ⟨rfl, Nat.le_refl _, by unfold maxLen; omega, fun h => by omega⟩, fun q => Nat.lt_irrefl _ (H1.out.foot q).2, fun h => by omega⟩, List.Pairwise.nil, by simp, by omega, by omega, fun x hx => by simp at hx⟩
  have HP := Lib.hid hP
  clear hP H1 M1 B0
  generalize (w1.alloc (.cells #[.int .i64 n, .slice none 0 0] 58)) = wa at HP ⊢
  obtain ⟨rb, hrb⟩ : ∃ rb, rb = w1.heap.size := ⟨_, rfl⟩
  rw [← hrb] at HP ⊢
  clear hrb
  go_loopg [8] len (fun g s8 wx => ∃ j : Nat, g = len - j ∧ s8 = .int .i64 j ∧ j ≤ len ∧ PlInv w p lb rb j wx)
  case atStart => exact ⟨0, rfl, rfl, Nat.zero_le _, HP.out⟩
  case round =>
    obtain ⟨j, rfl, rfl, hj, B, g, next, ra, rlen, rcap, L, hs, hris, hlen, hnx1, hnx2, hform⟩ := hrel
    have S := Lib.hid hs
    have RI := Lib.hid hris
    have FO := Lib.hid hform
    by_cases hlt : j < len
    · obtain ⟨x, hx⟩ : ∃ x, x = l[j]'(by omega) := ⟨_, rfl⟩
      obtain ⟨bb, off, rfl, hat⟩ := H.out.cells j x (by rw [hx]; simp)
      have hok := H.out.ok x (by rw [hx]; exact List.getElem_mem _)
      have AT := Lib.hid hat
      have a0 := cell_later hs.bel hat.c0
      have a1 := cell_later hs.bel hat.c1
      have a2 := cell_later hs.bel hat.c2
      have r0 := cut_of_range (blk_range hs.k) (k := 2) rfl
      have t0 := hs.k.there 0 2 (by simp)
      have l0 := hs.k.lt
      have hd := hok.d
      have hk1 := hok.n
      have hk2 := hok.k
      have hlb := block_lt_of_cell a0
      clear hx hat hok hs hris hform
      have hdm : 0 ≤ (x.d : Int) % 8 ∧ (x.d : Int) % 8 < 8 := by omega
      go_upto_block 2 with fail
      go_cut [] from 47 to 185 (fun wx => PlInv w p lb rb (j + 1) wx)
      case first =>
        by_cases d6 : (x.d : Int) % 8 = 6
        · as_aux_lemma =>
            have hst := S.out.q
            have HP := Lib.hid (fun w a len cap h => pass_both next L RI.out hlen (by omega) w a len cap h)
            go_wp2_with fail
            refine (HP.out wr ra rlen rcap S.out.r).mono ?_
            rintro e w1 ⟨M, a', cap', rfl, hperm, hris', hR, hA, mB⟩
            have k1 := S.out.k.mod mB (fun e => e)
            have f1 := k1.there 0 2 (by simp)
            have s2 := S.out.rset (nr' := next + 1) mB hR (by have := S.out.r.n; rw [← this]; exact hA)
            have S2 := Lib.hid s2
            have PB := Lib.hid (And.intro hperm hris')
            clear hperm hris' hR hA mB k1 s2 hst
            go_wp2_with fail
            refine (qpass_any B p lb g next L _ S2.out.q (by omega)).mono ?_
            rintro e w3 hq
            obtain ⟨g3, s3⟩ := S2.out.qstep hq
            obtain ⟨rfl, _⟩ := hq
            have S3 := Lib.hid (s3.lperm PB.out.1.symm)
            clear s3
            go_wp2_with fail
            go_meet
            exact ⟨B, g3, next + 1, a', M.length, cap', M, S3.out, PB.out.2, by have := PB.out.1.length_eq; have := dropL_le L next; omega, by omega, by omega, fun y hy => FO.out y (dropL_mem (PB.out.1.mem_iff.1 hy))⟩
        by_cases d7 : (x.d : Int) % 8 = 7
        · as_aux_lemma =>
            have HP := Lib.hid (fun w a len cap h => drop_both next x.num L RI.out hlen w a len cap h)
            have tA := there_alloc_at wr #[.int .i64 0, .slice none 0 0] 58 2 wr.heap.size rfl (by simp)
            go_upto_region 31 with fail
            go_cut [16, 17] from 47 to 185 (fun s16 s17 wx => ∃ y a' cap' M, s16 = .pointer (some ⟨y, 0, none⟩) ∧ s17 = .bool (decide ((dropL L x.num).length < L.length)) ∧ YAt next L.length ra wr wx y a' cap' M ∧ M.Perm (dropL L x.num) ∧ Rising M)
            case first =>
              go_region_law (first
                | (go_simp; go_at_call 28; refine (HP.out _ ra rlen rcap (by exact S.out.r.grown (Mod.refl none_ wr).drew)).mono ?_; rintro e wB ⟨M, a', cap', rfl, hperm, hris', hR, hA, mB⟩; have Y := Lib.hid (ystep1 (next := next) hR hA mB); have PB := Lib.hid (And.intro hperm hris'); clear hperm hris' hR hA mB)
                | (go_simp; go_at_call 28; refine (HP.out _ ra rlen rcap (by exact S.out.r.grown ((Mod.refl none_ wr).alloc _).drew)).mono ?_; rintro e wB ⟨M, a', cap', rfl, hperm, hris', hR, hA, mB⟩; have t9 := there_mod mB (fun e => e) tA; have Y := Lib.hid (ystep2 (next := next) S.out.r hR hA mB); have PB := Lib.hid (And.intro hperm hris'); clear hperm hris' hR hA mB))
              all_goals go_wp2_with fail
              all_goals go_meet
              all_goals exact ⟨_, _, _, _, rfl, rfl, Y.out, PB.out.1, PB.out.2⟩
            case rest =>
              obtain ⟨y, a', cap', M, rfl, rfl, hY, hperm, hris'⟩ := hcut
              have k1 := S.out.grown hY.m
              have ry := cut_of_range (blk_range hY.b) (k := 2) rfl
              have ty := hY.b.there 0 2 (by simp)
              have ly := hY.b.lt
              have f1 := k1.k.there 0 2 (by simp)
              have s2 := S.out.rset (nr' := next) hY.m hY.r (by have := S.out.r.n; rw [← this]; exact hY.new)
              have c2 := cell_later s2.bel AT.out.c1
              have S2 := Lib.hid s2
              have PB := Lib.hid (And.intro hperm hris')
              clear hperm hris' hY k1 s2 r0 t0
              go_wp2_with fail
              refine (qdrop_any B p lb g next x.num L _ S2.out.q).mono ?_
              rintro e w3 hq
              obtain ⟨g3, s3⟩ := S2.out.qstep hq
              obtain ⟨rfl, _⟩ := hq
              have S3 := Lib.hid (s3.lperm PB.out.1.symm)
              clear s3
              go_wp2_with fail
              go_meet
              exact ⟨B, g3, next, a', M.length, cap', M, S3.out, PB.out.2, by have := PB.out.1.length_eq; have := dropL_le L x.num; omega, by omega, by omega, fun y hy => FO.out y (dropL_mem (PB.out.1.mem_iff.1 hy))⟩
        by_cases d45 : (x.d : Int) % 8 = 4 ∨ (x.d : Int) % 8 = 5
        · as_aux_lemma =>
            obtain ⟨d, k, b, next', M0, hd1, hk3, hn1, hn2, hM1, hM2, hrp, hlk, hqp⟩ := take_both next L RI.out FO.out (fun y hy => S.out.q.ge hy) hnx1
            have RP := Lib.hid hrp
            have LP := Lib.hid hlk
            have QP := Lib.hid hqp
            have MM := Lib.hid hM2
            have oM : Ones [.int .i64 d, .int .i64 k, .int .i64 0, .int .i64 0, .int .i64 0, .int .i64 0, .int .i64 0, .int .i64 0, .int .i64 0, .string ⟨#[]⟩, .string ⟨#[]⟩] := (itmOf 0 d k).one
            have hst := S.out.q
            clear hrp hlk hqp hM2
            rcases d45 with d4 | d5
            all_goals
              go_wp2_with fail
              refine (LP.out B _ p lb g S.out.q).mono ?_
              rintro e w1 ⟨rfl, m1⟩
              have s1 := S.out.grown m1
              have S1 := Lib.hid s1
              clear s1 m1 hst
              go_wp2_with fail
              have mo := (Mod.refl none_ w1).alloc (.cells #[.int .i64 d, .int .i64 k, .int .i64 0, .int .i64 0, .int .i64 0, .int .i64 0, .int .i64 0, .int .i64 0, .int .i64 0, .string ⟨#[]⟩, .string ⟨#[]⟩] 51)
              have kO := Blk.new (w := w1) (cs := [.int .i64 d, .int .i64 k, .int .i64 0, .int .i64 0, .int .i64 0, .int .i64 0, .int .i64 0, .int .i64 0, .int .i64 0, .string ⟨#[]⟩, .string ⟨#[]⟩]) (t := 51)
              generalize hwA : (w1.alloc (.cells #[.int .i64 d, .int .i64 k, .int .i64 0, .int .i64 0, .int .i64 0, .int .i64 0, .int .i64 0, .int .i64 0, .int .i64 0, .string ⟨#[]⟩, .string ⟨#[]⟩] 51)) = wA at mo kO ⊢
              clear hwA
              have sA := S1.out.grown mo
              refine (QP.out B _ p lb g sA.q).mono ?_
              rintro e w2 hq
              obtain ⟨g2, s2⟩ := sA.qstep hq
              obtain ⟨rfl, _, _, mq, _⟩ := hq
              have kO2 := kO.mod mq (fun e => by have := (S1.out.q.foot e).2; omega)
              have r2 := cut_of_range (blk_range s2.k) (k := 2) rfl
              have t2 := s2.k.there 0 2 (by simp)
              have l2 := s2.k.lt
              have lO : rb < w1.heap.size := S1.out.k.lt
              have KO2 := Lib.hid kO2
              have S2 := Lib.hid s2
              clear sA kO kO2 s2 mo mq
              go_wp2_with fail
              have mm := (Mod.refl none_ w2).alloc (.cells #[.int .i64 d, .int .i64 k, .int .i64 0, .int .i64 0, .int .i64 0, .int .i64 0, .int .i64 0, .int .i64 0, .int .i64 0, .string ⟨#[]⟩, .string ⟨#[]⟩] 51)
              have kM := Blk.new (w := w2) (cs := [.int .i64 d, .int .i64 k, .int .i64 0, .int .i64 0, .int .i64 0, .int .i64 0, .int .i64 0, .int .i64 0, .int .i64 0, .string ⟨#[]⟩, .string ⟨#[]⟩]) (t := 51)
              generalize hwB : (w2.alloc (.cells #[.int .i64 d, .int .i64 k, .int .i64 0, .int .i64 0, .int .i64 0, .int .i64 0, .int .i64 0, .int .i64 0, .int .i64 0, .string ⟨#[]⟩, .string ⟨#[]⟩] 51)) = wB at mm kM ⊢
              clear hwB
              have s3 := S2.out.grown mm
              have S3 := Lib.hid s3
              refine (RP.out wB ra rlen rcap s3.r).mono ?_
              rintro e w4 ⟨M, a', cap', rfl, hperm, hris', hR, hA, mB⟩
              have f4 := (s3.grown mB).k.there 0 2 (by simp)
              have l4 := (s3.grown mB).k.lt
              have KO4 := Lib.hid ((KO2.out.mod mm (fun e => e)).mod mB (fun e => e))
              have KM4 := Lib.hid (kM.mod mB (fun e => e))
              have RA := Lib.hid (And.intro hperm (And.intro hris' (And.intro hR (And.intro hA mB))))
              clear hperm hris' hR hA mB s3 kM mm r2 t2
              have tY := there_alloc_old (w4.alloc (.cells #[.int .i64 0, .slice none 0 0] 58)) (.cells #[.int .i64 0, .int .i64 0, .int .i64 0, .int .i64 0, .int .i64 0, .int .i64 0, .int .i64 0, .int .i64 0, .int .i64 0, .string ⟨#[]⟩, .string ⟨#[]⟩] 51) w4.heap.size 0 2 (there_alloc_at w4 #[.int .i64 0, .slice none 0 0] 58 2 w4.heap.size rfl (by simp))
              have tN := there_alloc_at (w4.alloc (.cells #[.int .i64 next', .slice a' M.length cap'] 58)) #[.int .i64 0, .int .i64 0, .int .i64 0, .int .i64 0, .int .i64 0, .int .i64 0, .int .i64 0, .int .i64 0, .int .i64 0, .string ⟨#[]⟩, .string ⟨#[]⟩] 51 11 (w4.heap.size + 1) (by simp) (by simp)
              go_upto_region 23 with fail
              have mYN := ((Mod.refl none_ w4).alloc (.cells #[.int .i64 next', .slice a' M.length cap'] 58)).alloc (.cells #[.int .i64 d, .int .i64 k, .int .i64 0, .int .i64 0, .int .i64 0, .int .i64 0, .int .i64 0, .int .i64 0, .int .i64 0, .string ⟨#[]⟩, .string ⟨#[]⟩] 51)
              have kN : Blk ((w4.alloc (.cells #[.int .i64 next', .slice a' M.length cap'] 58)).alloc (.cells #[.int .i64 d, .int .i64 k, .int .i64 0, .int .i64 0, .int .i64 0, .int .i64 0, .int .i64 0, .int .i64 0, .int .i64 0, .string ⟨#[]⟩, .string ⟨#[]⟩] 51)) (w4.heap.size + 1) [.int .i64 d, .int .i64 k, .int .i64 0, .int .i64 0, .int .i64 0, .int .i64 0, .int .i64 0, .int .i64 0, .int .i64 0, .string ⟨#[]⟩, .string ⟨#[]⟩] 51 := by
                have := Blk.new (w := w4.alloc (.cells #[.int .i64 next', .slice a' M.length cap'] 58)) (cs := [.int .i64 d, .int .i64 k, .int .i64 0, .int .i64 0, .int .i64 0, .int .i64 0, .int .i64 0, .int .i64 0, .int .i64 0, .string ⟨#[]⟩, .string ⟨#[]⟩]) (t := 51)
                rwa [show (w4.alloc (.cells #[.int .i64 next', .slice a' M.length cap'] 58)).heap.size = w4.heap.size + 1 by simp] at this
              have kY : Blk ((w4.alloc (.cells #[.int .i64 next', .slice a' M.length cap'] 58)).alloc (.cells #[.int .i64 d, .int .i64 k, .int .i64 0, .int .i64 0, .int .i64 0, .int .i64 0, .int .i64 0, .int .i64 0, .int .i64 0, .string ⟨#[]⟩, .string ⟨#[]⟩] 51)) w4.heap.size [.int .i64 next', .slice a' M.length cap'] 58 := (Blk.new (w := w4) (cs := [.int .i64 next', .slice a' M.length cap']) (t := 58)).mod ((Mod.refl none_ _).alloc _) (fun e => e)
              generalize hwC : (w4.alloc (.cells #[.int .i64 next', .slice a' M.length cap'] 58)).alloc (.cells #[.int .i64 d, .int .i64 k, .int .i64 0, .int .i64 0, .int .i64 0, .int .i64 0, .int .i64 0, .int .i64 0, .int .i64 0, .string ⟨#[]⟩, .string ⟨#[]⟩] 51) = wC at mYN kN kY ⊢
              clear hwC tY tN
              have mBC := RA.out.2.2.2.2.trans mYN
              have sC := S3.out.grown mBC
              have s5 := S3.out.rset (nr' := next') mBC (RA.out.2.2.1.grown mYN) (by have := S3.out.r.n; rw [← this]; exact RA.out.2.2.2.1)
              obtain ⟨_, m5⟩ := blk_over sC.k (mc := [.int .i64 next', .slice a' M.length cap']) rfl
              have lM : rb < w2.heap.size := l2
              have kO5 := (KO4.out.mod mYN (fun e => e)).mod m5 (fun e => by have e' : w1.heap.size = rb := e; omega)
              have kM5 := (KM4.out.mod mYN (fun e => e)).mod m5 (fun e => by have e' : w2.heap.size = rb := e; omega)
              have kN5 := kN.mod m5 (fun e => by have e' : w4.heap.size + 1 = rb := e; omega)
              have fC := sC.k.there 0 2 (by simp)
              have rY := cut_of_range (blk_range kY) (k := 2) rfl
              have tY := kY.there 0 2 (by simp)
              have rO := cut_of_range (blk_range kO5) (k := 11) rfl
              have tO := kO5.there 0 11 (by simp)
              have rM := cut_of_range (blk_range kM5) (k := 11) rfl
              have tM := kM5.there 0 11 (by simp)
              have rN := cut_of_range (blk_range kN5) (k := 11) rfl
              have tN := kN5.there 0 11 (by simp)
              have S5 := Lib.hid (s5.lperm RA.out.1.symm)
              clear sC s5 m5 mBC mYN kY kN kO5 kM5 kN5
              go_wp2_with fail
              go_meet
              exact ⟨B, g2, next', a', M.length, cap', M, S5.out, RA.out.2.1, by have := RA.out.1.length_eq; omega, by omega, by omega, fun y hy => FO.out y (MM.out y (RA.out.1.mem_iff.1 hy))⟩
        · as_aux_lemma =>
            have d4 : ¬ (x.d : Int) % 8 = 4 := fun e => d45 (.inl e)
            have d5 : ¬ (x.d : Int) % 8 = 5 := fun e => d45 (.inr e)
            obtain ⟨c, M0, hc0, hc1, hM1, hM2, hrp, hqp⟩ := put_both next x.num x.k L RI.out hlen
            have RP := Lib.hid hrp
            have QP := Lib.hid hqp
            have MM := Lib.hid (And.intro hM1 hM2)
            clear hrp hqp hM1 hM2
            have oM : Ones [.int .i64 2, .int .i64 x.k, .int .i64 0, .int .i64 0, .int .i64 0, .int .i64 0, .int .i64 0, .int .i64 0, .int .i64 0, .string ⟨#[]⟩, .string ⟨#[]⟩] := (itmOf 0 2 x.k).one
            go_upto_region 14 with fail
            have mA := (Mod.refl none_ wr).alloc (.cells #[.int .i64 2, .int .i64 x.k, .int .i64 0, .int .i64 0, .int .i64 0, .int .i64 0, .int .i64 0, .int .i64 0, .int .i64 0, .string ⟨#[]⟩, .string ⟨#[]⟩] 51)
            have kM := Blk.new (w := wr) (cs := [.int .i64 2, .int .i64 x.k, .int .i64 0, .int .i64 0, .int .i64 0, .int .i64 0, .int .i64 0, .int .i64 0, .int .i64 0, .string ⟨#[]⟩, .string ⟨#[]⟩]) (t := 51)
            generalize (wr.alloc (.cells #[.int .i64 2, .int .i64 x.k, .int .i64 0, .int .i64 0, .int .i64 0, .int .i64 0, .int .i64 0, .int .i64 0, .int .i64 0, .string ⟨#[]⟩, .string ⟨#[]⟩] 51)) = wA at mA kM ⊢
            have s1 := S.out.grown mA
            have S1 := Lib.hid s1
            have b1 := cell_later s1.bel AT.out.c1
            have r1 := cut_of_range (blk_range s1.k) (k := 2) rfl
            have t1 := s1.k.there 0 2 (by simp)
            have l1 := s1.k.lt
            have rm := cut_of_range (blk_range kM) (k := 11) rfl
            have tm := kM.there 0 11 (by simp)
            have lm := kM.lt
            have KM := Lib.hid kM
            have hlb1 : bb < wA.heap.size := block_lt_of_cell b1
            clear s1 mA kM
            have tA := there_alloc_at wA #[.int .i64 0, .slice none 0 0] 58 2 wA.heap.size rfl (by simp)
            go_cut [18, 19, 20] from 47 to 185 (fun s18 s19 s20 wx => s18 = .pointer (some ⟨wr.heap.size, 0, none⟩) ∧ ∃ y a' cap' M, s19 = .pointer (some ⟨y, 0, none⟩) ∧ s20 = .int .i64 c ∧ YAt next L.length ra wA wx y a' cap' M ∧ M.Perm M0 ∧ Rising M)
            case first =>
              go_region_law (first
                | (go_simp; go_at_call 30; refine (RP.out _ ra rlen rcap (by exact S1.out.r.grown (Mod.refl none_ wA).drew)).mono ?_; rintro e wB ⟨M, a', cap', rfl, hperm, hris', hR, hA, mB⟩; have Y := Lib.hid (ystep1 (next := next) hR hA mB); have PB := Lib.hid (And.intro hperm hris'); clear hperm hris' hR hA mB)
                | (go_simp; go_at_call 30; refine (RP.out _ ra rlen rcap (by exact S1.out.r.grown ((Mod.refl none_ wA).alloc _).drew)).mono ?_; rintro e wB ⟨M, a', cap', rfl, hperm, hris', hR, hA, mB⟩; have t9 := there_mod mB (fun e => e) tA; have Y := Lib.hid (ystep2 (next := next) S1.out.r hR hA mB); have PB := Lib.hid (And.intro hperm hris'); clear hperm hris' hR hA mB))
              all_goals go_wp2_with fail
              all_goals go_meet
              all_goals exact ⟨rfl, _, _, _, _, rfl, rfl, Y.out, PB.out.1, PB.out.2⟩
            case rest =>
              obtain ⟨rfl, y, a', cap', M, rfl, rfl, hY, hperm, hris'⟩ := hcut
              have k1 := S1.out.grown hY.m
              have ry := cut_of_range (blk_range hY.b) (k := 2) rfl
              have ty := hY.b.there 0 2 (by simp)
              have ly := hY.b.lt
              have f1 := k1.k.there 0 2 (by simp)
              have s2 := S1.out.rset (nr' := next) hY.m hY.r (by have := S1.out.r.n; rw [← this]; exact hY.new)
              have c2 := cell_later s2.bel AT.out.c1
              obtain ⟨_, m2⟩ := blk_over k1.k (mc := [.int .i64 next, .slice a' M.length cap']) rfl
              have kM2 := (KM.out.mod hY.m (fun e => e)).mod m2 (fun e => by have e' : wr.heap.size = rb := e; have := S.out.k.lt; omega)
              have rm2 := cut_of_range (blk_range kM2) (k := 11) rfl
              have tm2 := kM2.there 0 11 (by simp)
              have S2 := Lib.hid s2
              have PB := Lib.hid (And.intro hperm hris')
              clear hperm hris' hY k1 s2 m2 kM2 r1 t1 rm tm lm
              go_upto_region 16 with fail
              go_region_law ((go_simp; go_at_call 21; refine (QP.out B _ p lb g (by exact S2.out.q.grown (Mod.refl none_ _).drew)).mono ?_; rintro e w3 hq; obtain ⟨g3, s3⟩ := (S2.out.grown (Mod.refl none_ _).drew).qstep hq; obtain ⟨rfl, _⟩ := hq; have S3 := Lib.hid (s3.lperm PB.out.1.symm); clear s3))
              all_goals go_wp2_with fail
              all_goals go_meet
              all_goals exact ⟨B, g3, next, a', M.length, cap', M, S3.out, PB.out.2, by have := PB.out.1.length_eq; have := MM.out.1; omega, by omega, by omega, fun y hy => (MM.out.2 y (PB.out.1.mem_iff.1 hy)).elim (fun e => ⟨x.k, hk2.1, hk2.2, by rw [e]; rfl⟩) (FO.out y)⟩
      case rest =>
        as_aux_lemma =>
          clear r0 t0 l0 a0 a1 a2 S RI FO
          obtain ⟨B, g', nxt, a', len', cap', M, hs, hris, hlen, hnx1, hnx2, hform⟩ := hcut
          have T := Lib.hid hs
          have RI2 := Lib.hid hris
          have FO2 := Lib.hid hform
          have hn' := hs.r.n
          have HN' := Lib.hid hn'
          clear hs hris hform hn'
          go_wp2_with fail
          refine (qheld_any B p lb g' nxt M _ T.out.q RI2.out).mono ?_
          rintro e w5 ⟨ha, hc, rfl, hz, m5⟩
          have hz2 : ZRow w5 ha len' hc (M.map Itm.num) := by rw [HN'.out] at hz; exact hz
          have s5 := T.out.grown m5
          have d0 : w5.cell? ⟨rb, 0, none⟩ = some (.int .i64 nxt) := by rw [s5.k.cell]; rfl
          have d1 : w5.cell? ⟨rb, 1, none⟩ = some (.slice a' len' cap') := by rw [s5.k.cell]; rfl
          have lk5 := s5.r.le
          have lb5 := s5.r.big
          have lz5 := hz2.le
          have lc5 := hz2.big
          unfold maxLen at lb5 lc5
          have T5 := Lib.hid s5
          have Z5 := Lib.hid hz2
          have l64 : len' ≤ 64 := by have := HN'.out; omega
          rw [HN'.out]
          clear s5 hz hz2 m5
          go_wp2_with fail
          go_quiet ((go_at_call 23; exact Calls.quiet_of_same ((qnext_any B p lb g' nxt M _ (by exact T5.out.q.grown ((Mod.refl none_ w5).drewN _))).mono fun _ _ h => ⟨h.1, h.2.symm⟩)))
          go_wp2_with fail
          go_loopg [22] len' (fun g s22 wx => ∃ k : Nat, g = len' - k ∧ s22 = .int .i64 k ∧ k ≤ len' ∧ Mod none_ w5 wx)
          case atStart => exact ⟨0, rfl, rfl, Nat.zero_le _, (Mod.refl none_ w5).drewN _⟩
          case round =>
            obtain ⟨k, rfl, rfl, hk, m6⟩ := hrel
            have M6 := Lib.hid m6
            have d1' := m6.cell (p := ⟨rb, 1, none⟩) (fun e => e) d1
            clear m6
            by_cases hlk : k < len'
            · obtain ⟨gr, offr, y, rfl, hy, hrg, _⟩ := (T5.out.r.grown M6.out).at_ k hlk
              obtain ⟨gz, rfl, hcz⟩ := Z5.out.cells k y.num (by rw [List.getElem?_map, hy]; rfl)
              have cz := M6.out.cell (p := ⟨gz, k, none⟩) (fun e => e) hcz
              have cy := hrg 0 (.int .i64 y.num) rfl
              rw [Nat.add_zero] at cy
              clear hrg hy hcz
              go_wp2_with fail
              go_quiet (fail)
              go_wp2_with fail
              go_roundg (len' - (k + 1))
              case measure => omega
              case rel => exact ⟨k + 1, rfl, by go_num, by omega, M6.out.drewN _⟩
            · obtain rfl : k = len' := by omega
              go_wp2_with fail
              go_roundg (len - (j + 1))
              case measure => omega
              case rel => exact ⟨j + 1, rfl, by go_num, by omega, B, g', nxt, _, _, _, M, T5.out.grown M6.out, RI2.out, hlen, hnx1, hnx2, FO2.out⟩
    · have hb := S.out.bel
      clear S
      go_wp2_with fail
      go_ret
      exact ⟨rfl, hb⟩

end Go.Proofs.Ytpdfakfokegcnaa
