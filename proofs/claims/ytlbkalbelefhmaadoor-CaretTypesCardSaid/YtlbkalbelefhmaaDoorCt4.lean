/-
  Texts on which the claim rests, one behind the other: Drp4 Act1 Dct1 Gon1 Sen1 Shn1 Shw1 Open Read1 Typ1 Beh1 Car9 Blk1 Car10 Car11 Typ2 RowK.
-/
import Derived.Test.YtlbkalbelefhmaaDoorCt3
import Derived.Outline
import Derived.Deep.LoopGhost
import Derived.WalkKit
import Derived.ProofKit
import Derived.OpenShut
import Derived.ShutString
import Derived.ChangeOld
import Derived.ChangeSame
import Derived.Deep.Slices
import Derived.Deep.Fields
import Derived.Lib.SmallJoins
import Derived.Test.YtlbkalbelefhmaaDoorRows
import Derived.Test.YtlbkalbelefhmaaDoorCards
import Derived.Test.YtlbkalbelefhmaaDoorTie
import Derived.LaidMore
import Derived.Lay
import Derived.SevenTiedAt
import Derived.Stop.Joined
import Derived.Lib.LaidU8T
import Derived.PinnedBridge

namespace Go.Proofs.YtlbkalbelefhmaaDoor
open Go.RowKit Go.Shelf Go.Mine Go.Maps
open Classical
attribute [local go_sem] Oper.semAt_some
attribute [local go_sem ↓] app_fold

/-- What Drop leaves. -/
def DropTo (w : World) (S : Nat → Prop) (D : Nat) (sp : List (Int × Int)) (l : List CellV) (e : Ending) (w' : World) : Prop :=
  e = .returned (.int .i64 (dropE sp l)) ∧ Mod S w w' ∧ DocS w' (grew S w w') D (dropL sp l)

theorem results_er {fn : Func} {p : Tmp} (h : fn.results = #[.cell p 28]) (tmps : Array Value) (w : World) (g : Nat) (n : Int) (hp : tmps.getD p undef = .pointer (some ⟨g, 0, none⟩)) (hr : w.cell? ⟨g, 0, none⟩ = some (.int .i64 n)) :
    (results fn tmps).run Tryd.prog w = .ok (.int .i64 n) w := by
  have hp' : tmps[p]?.getD undef = .pointer (some ⟨g, 0, none⟩) := by simpa using hp
  simp [results, h, hp', go_sem, hr]

set_option maxHeartbeats 16000000 in
set_option maxRecDepth 1000000 in
theorem drop_any (w : World) (S : Nat → Prop) (D : Nat) (l : List CellV) (sa : Option Addr) (slen scap : Nat) (sp : List (Int × Int)) (h : DocS w S D l) (hlen : l.length ≤ 20000) (hok : ∀ c ∈ l, c.ok) (hs : IsSpans w sa slen scap sp) (hfar : ∀ b off, sa = some ⟨b, off, none⟩ → 0 < slen → ¬ S b) :
    Calls Tryd.prog 21 #[.pointer (some ⟨D, 0, none⟩), .slice sa slen scap] w (DropTo w S D sp l) := by
  have hsle := hs.le
  have hscap := hs.big
  unfold maxLen at hscap
  obtain ⟨W0, hW0⟩ : ∃ W0, (w.alloc (.cells #[.slice sa slen scap] 34)).alloc (.cells #[.int .i64 0] 28) = W0 := ⟨_, rfl⟩
  have m0 : Mod none_ w W0 := by rw [← hW0]; exact ((Mod.refl none_ w).alloc _).alloc _
  have kX : Blk W0 w.heap.size [.slice sa slen scap] 34 := by
    rw [← hW0]
    exact (Blk.new (w := w) (cs := [.slice sa slen scap]) (t := 34)).mod ((Mod.refl none_ _).alloc _) (fun e => e)
  have kE : Blk W0 (w.heap.size + 1) [.int .i64 0] 28 := by
    have := Blk.new (w := w.alloc (.cells #[.slice sa slen scap] 34)) (cs := [.int .i64 0]) (t := 28)
    rw [World.size_alloc] at this
    rw [← hW0]
    exact this
  have hz0 : W0.heap.size = w.heap.size + 2 := by rw [← hW0]; simp
  have HM := Lib.hid (spansMay_any W0 sa slen scap sp (hs.grown m0))
  have HS := Lib.hid hs
  have HD := Lib.hid h
  have HOK := Lib.hid hok
  have HFAR := Lib.hid hfar
  have HN := Lib.hid hs.n
  have M0 := Lib.hid m0
  have KX := Lib.hid kX
  have KE := Lib.hid kE
  have HZ0 := Lib.hid hz0
  obtain ⟨E, hE⟩ : ∃ E, E = dropE sp l := ⟨_, rfl⟩
  have HE := Lib.hid hE
  have c0 : W0.cell? ⟨w.heap.size, 0, none⟩ = some (.slice sa slen scap) := kX.cell 0
  have e0 : W0.cell? ⟨w.heap.size + 1, 0, none⟩ = some (.int .i64 0) := kE.cell 0
  -- a refusal: the answer er laid in the result's cell, nothing else changed
  have REF := Lib.hid (fun (er : Int) (her : dropE sp l = er) (hne : er ≠ 0) (W' : World) (m : Mod none_ W0 W') (n : Nat → Prop) => (show DropTo w S D sp l (.returned (.int .i64 er)) (W'.setCell ⟨w.heap.size + 1, 0, none⟩ (.int .i64 er)) from by
    have mm : Mod none_ w (W'.setCell ⟨w.heap.size + 1, 0, none⟩ (.int .i64 er)) := (m0.trans m).setCell _ (fun h => absurd h (by simp)) _
    refine ⟨by rw [her], mm.mono (fun _ _ e => e.elim), ?_⟩
    unfold dropL
    rw [if_neg (by rw [her]; exact hne)]
    exact (h.grown mm).mono (fun k _ hk => .inl hk)))
  have KER := Lib.hid (fun (er : Int) (W' : World) (m : Mod none_ W0 W') => (show (W'.setCell ⟨w.heap.size + 1, 0, none⟩ (.int .i64 er)).cell? ⟨w.heap.size + 1, 0, none⟩ = some (.int .i64 er) from ((kE.mod m (fun e => e)).set 0 (.int .i64 er)).cell 0))
  clear hs h hok hfar m0 kX kE hE hz0
  refine (callsIn_wide (n := 5)).1 ?_
  refine callsIn_of_wp_marks Tryd.func21 rfl trivial ?_ rfl
  refine wpIn_wide.2 (Code.wp_mono (Q := calmPost _) calmPost.out ?_)
  simp only [Tryd.ntmps21, List.size_toArray, List.length_cons, List.length_nil, Nat.reduceAdd, Nat.reduceSub, Array.replicate_succ, Array.replicate_zero, List.push_toArray, List.append_toArray, List.nil_append, List.cons_append]
  go_upto_region 1 with fail
  clear hW0
  go_wp2_with fail
  refine HM.out.mono ?_
  rintro e W1 ⟨rfl, m1⟩
  have M1 := Lib.hid m1
  have KX1 := KX.out.mod m1 (fun e => e)
  have KE1 := KE.out.mod m1 (fun e => e)
  clear c0 e0 HM
  have c0 : W1.cell? ⟨w.heap.size, 0, none⟩ = some (.slice sa slen scap) := KX1.cell 0
  have e0 : W1.cell? ⟨w.heap.size + 1, 0, none⟩ = some (.int .i64 0) := KE1.cell 0
  have r0 := KE1.frozen 0
  cases hso : spansOk sp
  case false =>
    have R1 := Lib.hid (REF.out 1 (by unfold dropE; rw [hso]; rfl) (by decide) W1 m1 none_)
    have R2 := Lib.hid (KER.out 1 W1 m1)
    clear m1 KX1 KE1
    go_wp2_with fail
    exact ⟨_, results_er rfl _ _ _ _ rfl R2.out, R1.out⟩
  have HSO := Lib.hid hso
  clear hso m1
  go_upto_region 4 with fail
  obtain ⟨KK, hKK⟩ : ∃ KK : Int, KK = (slen : Int) - 1 := ⟨_, rfl⟩
  rw [← hKK]
  have HKK := Lib.hid hKK
  clear hKK
  go_cut [42] from 25 to 42 (fun s42 wx => s42 = .bool (decide ((l.length : Int) < endS sp)) ∧ Mod none_ W1 wx)
  case first =>
    rcases Nat.eq_zero_or_pos slen with hn0 | hn0
    · have hsp0 : sp = [] := List.eq_nil_of_length_eq_zero (by rw [HN.out]; exact hn0)
      have hen : decide ((l.length : Int) < endS sp) = false := by rw [hsp0, show endS [] = 0 from rfl]; simp
      obtain rfl : KK = -1 := by have := HKK.out; omega
      have HEN := Lib.hid hen
      clear KX1 KE1 e0 r0 hn0 hsp0 hen
      refine wp_region_held_drew (S := fun w' => Mod none_ W1 w' ∧ w'.cell? ⟨w.heap.size, 0, none⟩ = some (.slice sa slen scap)) (by kernel_rfl) ⟨Mod.drew (Mod.refl none_ W1), c0⟩ (fun hS => ?_)
      refine wpAnyH_take (i := 0) (v := .int .i64 (-1)) rfl (by kernel_rfl) (by kernel_rfl) (by kernel_rfl) (fun _ _ _ h => h) (Or.inl ⟨by kernel_rfl, ?_⟩) hS ?_
      · rintro w' ⟨_, q0⟩; go_simp
      try simp only [Act.put, List.setIfInBounds_toArray]
      refine wpAnyH_take (i := 1) (v := .bool false) rfl (by kernel_rfl) (by kernel_rfl) (by kernel_rfl) (fun _ _ _ h => h) (Or.inl ⟨by kernel_rfl, ?_⟩) hS ?_
      · rintro w' ⟨_, q0⟩; go_simp
      try simp only [Act.put]
      refine wpAnyH_take (i := 2) (v := .bool false) rfl (by kernel_rfl) (by kernel_rfl) (by kernel_rfl) (fun _ _ _ h => h) (Or.inl ⟨by kernel_rfl, ?_⟩) hS ?_
      · rintro w' ⟨_, q0⟩; go_simp
      try simp only [Act.put]
      refine wpAnyH_take (i := 3) (v := undef) rfl (by kernel_rfl) (by kernel_rfl) (by kernel_rfl) (fun _ _ _ h => h) (Or.inr ⟨by kernel_rfl, rfl⟩) hS ?_
      try simp only [Act.put]
      refine wpAnyH_take (i := 4) (v := undef) rfl (by kernel_rfl) (by kernel_rfl) (by kernel_rfl) (fun _ _ _ h => h) (Or.inr ⟨by kernel_rfl, rfl⟩) hS ?_
      try simp only [Act.put]
      refine wpAnyH_take (i := 5) (v := undef) rfl (by kernel_rfl) (by kernel_rfl) (by kernel_rfl) (fun _ _ _ h => h) (Or.inr ⟨by kernel_rfl, rfl⟩) hS ?_
      try simp only [Act.put]
      refine wpAnyH_take (i := 6) (v := undef) rfl (by kernel_rfl) (by kernel_rfl) (by kernel_rfl) (fun _ _ _ h => h) (Or.inr ⟨by kernel_rfl, rfl⟩) hS ?_
      try simp only [Act.put]
      refine wpAnyH_take (i := 7) (v := undef) rfl (by kernel_rfl) (by kernel_rfl) (by kernel_rfl) (fun _ _ _ h => h) (Or.inr ⟨by kernel_rfl, rfl⟩) hS ?_
      try simp only [Act.put]
      refine wpAnyH_take (i := 8) (v := undef) rfl (by kernel_rfl) (by kernel_rfl) (by kernel_rfl) (fun _ _ _ h => h) (Or.inr ⟨by kernel_rfl, rfl⟩) hS ?_
      try simp only [Act.put]
      refine wpAnyH_take (i := 9) (v := undef) rfl (by kernel_rfl) (by kernel_rfl) (by kernel_rfl) (fun _ _ _ h => h) (Or.inr ⟨by kernel_rfl, rfl⟩) hS ?_
      try simp only [Act.put]
      refine wpAnyH_take (i := 10) (v := undef) rfl (by kernel_rfl) (by kernel_rfl) (by kernel_rfl) (fun _ _ _ h => h) (Or.inr ⟨by kernel_rfl, rfl⟩) hS ?_
      try simp only [Act.put]
      refine wpAnyH_take (i := 11) (v := undef) rfl (by kernel_rfl) (by kernel_rfl) (by kernel_rfl) (fun _ _ _ h => h) (Or.inr ⟨by kernel_rfl, rfl⟩) hS ?_
      try simp only [Act.put]
      refine wpAnyH_take (i := 12) (v := undef) rfl (by kernel_rfl) (by kernel_rfl) (by kernel_rfl) (fun _ _ _ h => h) (Or.inr ⟨by kernel_rfl, rfl⟩) hS ?_
      try simp only [Act.put]
      refine wpAnyH_take (i := 13) (v := undef) rfl (by kernel_rfl) (by kernel_rfl) (by kernel_rfl) (fun _ _ _ h => h) (Or.inr ⟨by kernel_rfl, rfl⟩) hS ?_
      try simp only [Act.put]
      refine wpAnyH_take (i := 14) (v := undef) rfl (by kernel_rfl) (by kernel_rfl) (by kernel_rfl) (fun _ _ _ h => h) (Or.inr ⟨by kernel_rfl, rfl⟩) hS ?_
      try simp only [Act.put]
      refine wpAnyH_take (i := 15) (v := undef) rfl (by kernel_rfl) (by kernel_rfl) (by kernel_rfl) (fun _ _ _ h => h) (Or.inr ⟨by kernel_rfl, rfl⟩) hS ?_
      try simp only [Act.put]
      refine wpAnyH_take (i := 16) (v := undef) rfl (by kernel_rfl) (by kernel_rfl) (by kernel_rfl) (fun _ _ _ h => h) (Or.inr ⟨by kernel_rfl, rfl⟩) hS ?_
      try simp only [Act.put]
      refine wpAnyH_take (i := 17) (v := .bool false) rfl (by kernel_rfl) (by kernel_rfl) (by kernel_rfl) (fun _ _ _ h => h) (Or.inl ⟨by kernel_rfl, ?_⟩) hS ?_
      · rintro w' ⟨_, q0⟩; go_simp
      try simp only [Act.put]
      refine wpAnyH_done (by kernel_rfl) ?_ _
      try simp only [List.getElem_toArray, List.getElem_cons_succ, List.getElem_cons_zero]
      try simp only [List.setIfInBounds_toArray, List.set_cons_zero, List.set_cons_succ]
      go_wp2_with fail
      go_meet
      case rel => exact ⟨by rw [HEN.out], Mod.drew (Mod.refl none_ W1)⟩
    · obtain ⟨n1, hn1⟩ : ∃ n1, slen = n1 + 1 := ⟨slen - 1, by omega⟩
      obtain ⟨x, hx⟩ : ∃ x, sp[n1]? = some x := ⟨sp[n1]'(by rw [HN.out]; omega), by simp⟩
      have hen : endS sp = x.1 + x.2 := by
        unfold endS
        rw [List.getLast?_eq_getElem?, HN.out, hn1]
        simp [hx]
      have hfit := ok_fits sp (-1) HSO.out x (List.mem_of_getElem? hx)
      obtain ⟨b, off, hsa, c1, c2⟩ := (HS.out.grown (M0.out.trans M1.out)).cells n1 x hx
      have hD1 := HD.out.grown (M0.out.trans M1.out)
      have HEN := Lib.hid hen
      obtain rfl : KK = (n1 : Int) := by have := HKK.out; omega
      have hix2 : n1 < slen := by omega
      have hwx : IntKind.i64.wrap (x.1 + x.2) = x.1 + x.2 := by rw [IntKind.wrap_i64]; omega
      have hix3 : ¬ (slen ≤ n1) := by omega
      subst hsa
      clear KX1 KE1 e0 r0 hn0 hn1 hx hen
      go_region_held3 (fun w' => Mod none_ W1 w' ∧ w'.cell? ⟨w.heap.size, 0, none⟩ = some (.slice (some ⟨b, off, none⟩) slen scap) ∧ w'.cell? ⟨b, off + n1 * 2, none⟩ = some (.int .i64 x.1) ∧ w'.cell? ⟨b, off + n1 * 2 + 1, none⟩ = some (.int .i64 x.2))
        (first
          | exact ⟨Mod.drew (Mod.refl none_ W1), c0, c1, c2⟩
          | assumption
          | (obtain ⟨q, q0, q1, q2⟩ := ‹Mod none_ W1 _ ∧ _›; exact ⟨q.trans m1, m1.cell (fun e => e) q0, m1.cell (fun e => e) q1, m1.cell (fun e => e) q2⟩))
        (first
          | (go_at_call 18; refine (size_any _ 0 D l ((hD1.grown (And.left (by assumption))).is) (by omega)).mono ?_; rintro e w2 ⟨rfl, m1⟩))
      go_wp2_with fail
      go_meet
      case rel => exact ⟨by rw [HEN.out], And.left (by assumption)⟩
  case rest =>
    obtain ⟨rfl, hm2⟩ := hcut
    have M2 := Lib.hid (M1.out.trans hm2)
    have KX2 := KX1.mod hm2 (fun e => e)
    have KE2 := KE1.mod hm2 (fun e => e)
    clear c0 e0 r0 hm2 KX1 KE1
    have c0 : wc.cell? ⟨w.heap.size, 0, none⟩ = some (.slice sa slen scap) := KX2.cell 0
    have e0 : wc.cell? ⟨w.heap.size + 1, 0, none⟩ = some (.int .i64 0) := KE2.cell 0
    have r0 := KE2.frozen 0
    cases hend : decide ((l.length : Int) < endS sp)
    case true =>
      have R1 := Lib.hid (REF.out 1 (by unfold dropE; rw [HSO.out]; simp at hend; simp [hend]) (by decide) wc M2.out none_)
      have R2 := Lib.hid (KER.out 1 wc M2.out)
      clear KX2 KE2
      go_wp2_with fail
      exact ⟨_, results_er rfl _ _ _ _ rfl R2.out, R1.out⟩
    have HEND := Lib.hid (show ¬ (l.length : Int) < endS sp by simp at hend; omega)
    clear hend
    go_wp2_with fail
    obtain ⟨v, MB, bl, hv, hnm, hl, hf, hmb, hne⟩ := HD.out.ex
    subst hl
    have mwc : Mod none_ w wc := M0.out.trans M2.out
    have hvc := hv.grown mwc
    have HV := Lib.hid hv
    have HVC := Lib.hid hvc
    have HNM := Lib.hid (hnm.mod mwc (fun e => e))
    have HF := Lib.hid hf
    have HMB := Lib.hid hmb
    have HNE := Lib.hid hne
    have MWC := Lib.hid mwc
    have KX3 := Lib.hid KX2
    have KE3 := Lib.hid KE2
    have hXlt : w.heap.size < wc.heap.size := KX2.lt
    have hElt : w.heap.size + 1 < wc.heap.size := KE2.lt
    clear hv hnm hf hmb hne mwc hvc KX2 KE2
    refine (each_any D _).mono ?_
    rintro e w2 ⟨rfl, rfl⟩
    go_wp2_with fail
    obtain ⟨WB, hWB⟩ : ∃ WB, wc.alloc (.cells #[.pointer (some ⟨D, 0, none⟩)] 27) = WB := ⟨_, rfl⟩
    have hzB : WB.heap.size = wc.heap.size + 1 := by rw [← hWB]; simp
    have hI0 : Mod none_ wc WB ∧ Blk WB wc.heap.size [.pointer (some ⟨D, 0, none⟩)] 27 ∧ hitFrom sp 0 ((cellsOf bl).take 0) = false := by
      rw [← hWB]
      exact ⟨(Mod.refl none_ wc).alloc _, Blk.new, rfl⟩
    rw [hWB]
    clear hWB c0 e0 r0
    refine wpIn_wide.1 (?_ : Code.wpIn Fence.wide 5 _ _ _ _ _)
    refine rangeFunc_upd (fun t x => (((t.setIfInBounds 45 (.int .i64 (x.p : Int))).setIfInBounds 46 (.pointer (some ⟨x.g, x.i * 5, none⟩))).setIfInBounds 6 (.int .i64 (x.p : Int))).setIfInBounds 7 (.pointer (some ⟨x.g, x.i * 5, none⟩))) rfl (by decide) (gf := 71) (lb := #[.pointer (some ⟨wc.heap.size, 0, none⟩)]) rfl trivial (enters_of Tryd.func71 (by kernel_rfl) rfl)
      CPos.enc (fun _ => rfl) (fun st W => Mod none_ wc W ∧ Blk W wc.heap.size [.pointer (some ⟨D, 0, none⟩)] 27 ∧ hitFrom sp 0 ((cellsOf bl).take st) = false) (fun c _ W => c = .ret ∧ hitFrom sp 0 (cellsOf bl) = true ∧ Mod (one (w.heap.size + 1)) wc W ∧ Blk W (w.heap.size + 1) [.int .i64 13] 28) (fun st _ => st + 1) (fun st x => x.p = st ∧ x.at_ bl) (fun st => st = (cellsOf bl).length) 0 ?hI ?hIx hI0 ?hiter ?assign ?body ?done ?stop
    case hI =>
      rintro st W W' ⟨m0, kb, hh⟩ m
      exact ⟨m0.transOwn m (by omega), kb.own m, hh⟩
    case hIx =>
      rintro c st W W' ⟨h1, h2, m0, k1⟩ m
      exact ⟨h1, h2, m0.transIn m (fun b hb e => absurd e.1 (by omega)), k1.own m⟩
    case hiter =>
      intro l' J Jx W hJI hJ hY h0
      refine (each1_any (5 - 1) D MB _ v bl (by omega) (fun st W => Mod none_ wc W ∧ Blk W wc.heap.size [.pointer (some ⟨D, 0, none⟩)] 27 ∧ hitFrom sp 0 ((cellsOf bl).take st) = false) (fun i W h => ⟨h.2.1, HVC.out.grown h.1⟩) l' J Jx W hJI hY h0).mono ?_
      rintro e W' ⟨h1, h2 | h2⟩
      · exact ⟨h1, .inl ⟨_, rfl, h2⟩⟩
      · exact ⟨h1, .inr h2⟩
    case assign =>
      intro l' x W K hK
      unfold CPos.enc
      gi_wp2
      exact hK
    case body =>
      rintro l' st x W ⟨m0, kb, hh⟩ ⟨rfl, hx⟩
      obtain ⟨c, hc, hcs⟩ := CPos.get (HVC.out.grown m0) hx
      have hlt := (List.getElem?_eq_some_iff.1 hc).1
      have htk : (cellsOf bl).take (x.p + 1) = (cellsOf bl).take x.p ++ [c] := by
        rw [List.take_succ_eq_append_getElem hlt, (List.getElem?_eq_some_iff.1 hc).2]
      have hst : hitFrom sp 0 ((cellsOf bl).take (x.p + 1)) = (!c.gone && hasPl sp x.p) := by
        rw [htk, hitFrom_append, hh, hitFrom_one, List.length_take, Nat.min_eq_left (by omega)]; simp
      have hall : hitFrom sp 0 ((cellsOf bl).take (x.p + 1)) = true → hitFrom sp 0 (cellsOf bl) = true := fun ht => by
        have : cellsOf bl = (cellsOf bl).take (x.p + 1) ++ (cellsOf bl).drop (x.p + 1) := (List.take_append_drop _ _).symm
        rw [this, hitFrom_append, ht]; rfl
      have x4 : W.cell? ⟨x.g, x.i * 5 + 4, none⟩ = some (.bool c.gone) := hcs 4 (by omega)
      have c0 : W.cell? ⟨w.heap.size, 0, none⟩ = some (.slice sa slen scap) := (KX3.out.mod m0 (fun e => e)).cell 0
      have kE := KE3.out.mod m0 (fun e => e)
      have e0 : W.cell? ⟨w.heap.size + 1, 0, none⟩ = some (.int .i64 0) := kE.cell 0
      have r0 := kE.frozen 0
      have HH := Lib.hid (has_any W sa slen scap sp x.p ((HS.out.grown MWC.out).grown m0) HSO.out)
      have ALL := Lib.hid hall
      have M0' := Lib.hid m0
      have KB' := Lib.hid kb
      have KE' := Lib.hid kE
      simp only [List.setIfInBounds_toArray, List.set_cons_zero, List.set_cons_succ]
      cases hg : c.gone
      · rw [hg] at x4 hst
        cases hp : hasPl sp x.p
        · rw [hp] at HH hst
          have HT := Lib.hid (show hitFrom sp 0 ((cellsOf bl).take (x.p + 1)) = false by rw [hst]; rfl)
          clear hI0 hx hc hcs hlt htk hall hst hh m0 kb kE
          gi_wp2_with fail
          refine ⟨trivial, ?_⟩
          refine (CallsIn.inRound l' (callsIn_wide.2 HH.out)).mono ?_
          rintro e w3 ⟨rfl, m3⟩
          have FIN := Lib.hid (show KeepsOthers W w3 ∧ Mod none_ wc w3 ∧ Blk w3 wc.heap.size [.pointer (some ⟨D, 0, none⟩)] 27 ∧ hitFrom sp 0 ((cellsOf bl).take (x.p + 1)) = false from ⟨keeps_none m3, M0'.out.trans m3, KB'.out.mod m3 (fun e => e), HT.out⟩)
          clear m3
          gi_wp2_with fail
          exact FIN.out
        · rw [hp] at HH hst
          have HT := Lib.hid (show hitFrom sp 0 (cellsOf bl) = true from hall (by rw [hst]; rfl))
          clear hI0 hx hc hcs hlt htk hall hst hh m0 kb kE
          gi_wp2_with fail
          refine ⟨trivial, ?_⟩
          refine (CallsIn.inRound l' (callsIn_wide.2 HH.out)).mono ?_
          rintro e w3 ⟨rfl, m3⟩
          have k3 := KE'.out.mod m3 (fun e => e)
          have e3 : w3.cell? ⟨w.heap.size + 1, 0, none⟩ = some (.int .i64 0) := k3.cell 0
          have r3 := k3.frozen 0
          have FIN := Lib.hid (show KeepsOthers W (w3.setCell ⟨w.heap.size + 1, 0, none⟩ (.int .i64 13)) ∧ hitFrom sp 0 (cellsOf bl) = true ∧ Mod (one (w.heap.size + 1)) wc (w3.setCell ⟨w.heap.size + 1, 0, none⟩ (.int .i64 13)) ∧ Blk (w3.setCell ⟨w.heap.size + 1, 0, none⟩ (.int .i64 13)) (w.heap.size + 1) [.int .i64 13] 28 from
            ⟨(keeps_none m3).trans (KeepsOthers.setCell _ _ _), HT.out, (((M0'.out.trans m3).mono (T := one (w.heap.size + 1)) (fun _ _ e => e.elim)).setCell ⟨w.heap.size + 1, 0, none⟩ (fun _ => rfl) _), k3.set 0 _⟩)
          clear m3 k3
          gi_wp2_with fail
          exact ⟨FIN.out.1, rfl, FIN.out.2⟩
      · rw [hg] at x4 hst
        have FIN := Lib.hid (show KeepsOthers W W ∧ Mod none_ wc W ∧ Blk W wc.heap.size [.pointer (some ⟨D, 0, none⟩)] 27 ∧ hitFrom sp 0 ((cellsOf bl).take (x.p + 1)) = false from ⟨KeepsOthers.refl _, m0, kb, by rw [hst]; rfl⟩)
        clear hI0 hx hc hcs hlt htk hall hst hh m0 kb kE
        gi_wp2_with fail
        refine ⟨trivial, ?_⟩
        gi_wp2_with fail
        exact FIN.out
    case stop =>
      rintro Dd c st W ⟨rfl, hh, m0, k1⟩ hD hlt
      have mP := loopOwn_put (B := WB.heap.size) (.deferred none) hlt hD rfl
      have R2 := Lib.hid ((k1.own mP).cell 0)
      have MR := Lib.hid (m0.transIn mP (fun b hb e => absurd e.1 (by omega)))
      have HH := Lib.hid hh
      clear m0 k1 mP hh hI0
      gi_wp2_with fail
      refine ⟨by simp, .inl ⟨_, _, rfl, run_takeDeferred hD, ?_⟩⟩
      refine ⟨_, results_er rfl _ _ _ _ rfl R2.out, ?_⟩
      have mw : Mod none_ w (W.putObj Dd (.deferred none)) := MWC.out.transIn MR.out (fun b hb e => by have e' : b = w.heap.size + 1 := e; omega)
      have hde : dropE sp (cellsOf bl) = 13 := by unfold dropE; rw [if_pos HSO.out, if_neg (by have := HEND.out; omega), if_pos HH.out]
      refine ⟨by rw [hde], mw.mono (fun _ _ e => e.elim), ?_⟩
      unfold dropL
      rw [if_neg (by rw [hde]; decide)]
      exact (HD.out.grown mw).mono (fun k _ hk => .inl hk)
    case done =>
      rintro Df st W rfl ⟨m0, kb, hh⟩ hDf hlt
      rw [List.take_length] at hh
      have hvW := HVC.out.grown m0
      have hnW := HNM.out.mod m0 (fun e => e)
      have hnf := foot_names hvW hnW
      have hspf : SpF W (fun b => foot D v bl b ∨ b = MB) sa slen scap sp := ⟨(HS.out.grown MWC.out).grown m0, fun b off e hp hb => HFAR.out b off e hp (by
        rcases hb with hb | rfl
        · exact HF.out b hb
        · exact HMB.out)⟩
      have kXW := KX3.out.mod m0 (fun e => e)
      have kEW := KE3.out.mod m0 (fun e => e)
      have notT : ∀ (b : Nat) (cs : List Value) (t : TypeId), Blk W b cs t → t ≠ 91 → t ≠ 95 → t ≠ 107 → t ≠ 63 → ¬ (foot D v bl b ∨ b = MB) := by
        rintro b cs t hb h1 h2 h3 h4 (hk | rfl)
        · obtain ⟨cs', t', hb', ht'⟩ := foot_blk hvW hk
          unfold Blk at hb hb'
          rw [hb] at hb'
          cases hb'
          rcases ht' with h | h | h | h
          · exact h1 h
          · exact h2 h
          · exact h3 h
          · exact h4 h
        · obtain ⟨mm, nn, im, _⟩ := hnW
          exact imap_blk im hb
      have nfX := notT _ _ _ kXW (by decide) (by decide) (by decide) (by decide)
      have nfE := notT _ _ _ kEW (by decide) (by decide) (by decide) (by decide)
      have nfD : ¬ (foot D v bl Df ∨ Df = MB) := by
        rintro (hk | rfl)
        · obtain ⟨cs', t', hb', _⟩ := foot_blk hvW hk
          unfold Blk at hb'
          rw [hDf] at hb'; cases hb'
        · obtain ⟨mm, nn, ⟨es, clock, hb', _⟩, _⟩ := hnW
          rw [hDf] at hb'; cases hb'
      obtain ⟨va, vc, hvf, hvc1, hvc2⟩ := hvW.form
      unfold maxLen at hvc2
      subst hvf
      have hbl : bl.length ≤ 20000 := Nat.le_trans (bl_len HNE.out) hlen
      have DI0 := Lib.hid (show DrpI W D MB (.slice va bl.length vc) bl sp 0 [] W from ⟨by simpa using hvW, rfl, rfl, by simpa using hnW, Mod.refl _ _, fun b hb => .inl (by simpa using hb)⟩)
      have cd : W.cell? ⟨D, 0, none⟩ = some (.slice va bl.length vc) := hvW.doc.cell 0
      have MW := Lib.hid (MWC.out.trans m0)
      have HVW := Lib.hid hvW
      have HNF := Lib.hid hnf
      have SPF := Lib.hid hspf
      have KXW := Lib.hid kXW
      have KEW := Lib.hid kEW
      have NFX := Lib.hid nfX
      have NFE := Lib.hid nfE
      have NFD := Lib.hid nfD
      have HDF := Lib.hid hDf
      have HH := Lib.hid hh
      have HW := Lib.hid hlt
      have hzw : w.heap.size + 1 < W.heap.size := kEW.lt
      have HZW := Lib.hid (show w.heap.size + 2 ≤ WB.heap.size from by omega)
      clear hvW hnW hnf hspf kXW kEW notT nfX nfE nfD hDf hh m0 kb hI0 hlt
      go_wp2_with fail
      go_loopg [8, 62] bl.length (fun g s8 s62 wx => ∃ (k : Nat) (bl' : List BV), g = bl.length - k ∧ s8 = .int .i64 ((cellsOf (bl.take k)).length : Int) ∧ s62 = .int .i64 k ∧ k ≤ bl.length ∧ RowKit.Hid (DrpI W D MB (.slice va bl.length vc) bl sp k bl' wx))
      case atStart => exact ⟨0, [], rfl, rfl, rfl, Nat.zero_le _, DI0⟩
      case round =>
        obtain ⟨k, bl', rfl, rfl, rfl, hk, hst⟩ := hrel
        obtain ⟨wo, rfl⟩ : ∃ wo, wo = wr := ⟨_, rfl⟩
        have KXO := Lib.hid (KXW.out.mod hst.out.m NFX.out)
        have KEO := Lib.hid (KEW.out.mod hst.out.m NFE.out)
        have HDFO := Lib.hid (hst.out.m.blk NFD.out HDF.out)
        by_cases hlk : k < bl.length
        · obtain ⟨x, hx⟩ : ∃ x, bl[k]? = some x := ⟨bl[k]'hlk, by simp⟩
          have hdx := hst.out.doc
          have hxk : (bl' ++ bl.drop k)[k]? = some x := by
            rw [List.getElem?_append_right (by rw [hst.out.len]; exact Nat.le_refl _), hst.out.len, Nat.sub_self, List.getElem?_drop]
            simpa using hx
          have hxm := List.mem_of_getElem? hxk
          have hdx' : DocV wo D (.slice va bl.length vc) MB (bl' ++ bl.drop k) := hdx
          obtain ⟨g, hva, ck⟩ := hdx'.at_ hxk
          subst hva
          have hbx := hdx.blk x hxm
          have b0 : wo.cell? ⟨x.p, 0, none⟩ = some (.int .i64 (x.c.length : Int)) := hbx.b.cell 0
          have b2 : wo.cell? ⟨x.p, 2, none⟩ = some x.v := hbx.b.cell 2
          have hs1 := cellsOf_step hx
          have hs2 := cellsOf_succ hx
          have e1 : (cellsOf bl).length = (cellsOf (bl.take k)).length + (x.c.length + (cellsOf (bl.drop (k + 1))).length) := by rw [hs1]; simp
          have e2 : (cellsOf (bl.take (k + 1))).length = (cellsOf (bl.take k)).length + x.c.length := by rw [hs2]; simp
          have hdk : bl.drop k = x :: bl.drop (k + 1) := by
            obtain ⟨hk', e⟩ := List.getElem?_eq_some_iff.1 hx
            rw [List.drop_eq_getElem_cons hk', e]
          have hnm := hst.out.nm
          have hnfo : ¬ foot D (.slice (some ⟨g, 0, none⟩) bl.length vc) (bl' ++ bl.drop k) MB := foot_names hdx (by simpa [cellsOf] using hnm)
          obtain ⟨P0, hP0⟩ : ∃ P0, P0 = (cellsOf (bl.take k)).length := ⟨_, rfl⟩
          have hJ0 : DrpJ wo MB P0 (cellsOf bl') (cellsOf (bl.drop (k + 1))) x.c sp 0 0 (.slice none 0 0) wo := DrpJ.start (by
            rw [hdk] at hnm
            simpa [cellsOf] using hnm)
          obtain ⟨m, hm⟩ : ∃ m, m = x.c.length := ⟨_, rfl⟩
          obtain ⟨ax, cx, hv, hcx, hcm, hax⟩ : ∃ ax cx, x.v = .slice ax m cx ∧ m ≤ cx ∧ cx ≤ maxLen ∧ (0 < m → ∃ gx, ax = some ⟨gx, 0, none⟩) := by
            rw [hm]
            rcases ownsRow_blk hbx.o with ⟨h1, h2, _⟩ | ⟨gx, cx, _, h1, _, _, h2, h3, _⟩
            · exact ⟨none, 0, by rw [h1, h2], by omega, Nat.zero_le _, fun h => by omega⟩
            · exact ⟨_, cx, h1, h2, h3, fun _ => ⟨gx, rfl⟩⟩
          unfold maxLen at hcm
          rw [hv] at b2
          rw [← hm] at b0 e1 e2
          rw [← hP0] at e1 e2 ⊢
          have HV1 := Lib.hid hv
          have HX := Lib.hid hx
          have HXM := Lib.hid hxm
          have HM0 := Lib.hid hm
          have HP0 := Lib.hid hP0
          have HDX := Lib.hid hdx
          have HNFO := Lib.hid hnfo
          have HBX := Lib.hid hbx
          have J0 := Lib.hid hJ0
          have E2 := Lib.hid e2
          have E1 := Lib.hid e1
          have hb1 : P0 + m ≤ 20000 := by omega
          have CM := Lib.hid (fun (c : CellV) (hc : c ∈ x.c) => (show c.ok from HOK.out c (by rw [hs1]; simp [hc])))
          have cd1 := HDX.out.doc.cell 1
          clear hdx hdx' hbx hs1 hs2 e1 e2 hdk hnm hnfo hJ0 hx hxk hxm hP0 hm hv
          go_wp2_with fail
          go_loopg [12, 76] m (fun g s12 s76 wx => ∃ (i n : Nat) (la : Option Addr) (lc : Nat), g = m - i ∧ s12 = .slice la n lc ∧ s76 = .int .i64 i ∧ i ≤ m ∧ n ≤ i ∧ RowKit.Hid (DrpJ wo MB P0 (cellsOf bl') (cellsOf (bl.drop (k + 1))) x.c sp i n (.slice la n lc) wx))
          case atStart => exact ⟨0, 0, none, 0, rfl, rfl, rfl, Nat.zero_le _, Nat.le_refl _, J0⟩
          case round =>
            obtain ⟨i, n, la, lc, rfl, rfl, rfl, hi, hni, hj⟩ := hrel
            by_cases him : i < m
            · obtain ⟨c, hc⟩ : ∃ c, x.c[i]? = some c := ⟨x.c[i]'(by rw [← HM0.out]; exact him), by simp⟩
              have hcok := CM.out c (List.mem_of_getElem? hc)
              have hdy := HDX.out.mod hj.out.m (fun b hb e => by have e' : b = MB := e; subst e'; exact HNFO.out hb)
              have hby := hdy.blk x HXM.out
              rcases ownsRow_blk hby.o with ⟨h1, h2, _⟩ | ⟨g2, cap2, more, h1, _, kg, hg1, hg2, _⟩
              · have := HM0.out; omega
              rw [HV1.out, ← HM0.out] at h1
              obtain ⟨rfl, rfl⟩ : ax = some ⟨g2, 0, none⟩ ∧ cx = cap2 := by simpa using h1
              have q0 := Blk.elem CellV.len kg i 0 c hc (by decide)
              have q1 := Blk.elem CellV.len kg i 1 c hc (by decide)
              have q2 := Blk.elem CellV.len kg i 2 c hc (by decide)
              have q3 := Blk.elem CellV.len kg i 3 c hc (by decide)
              have q4 := Blk.elem CellV.len kg i 4 c hc (by decide)
              simp only [CellV.cs, Nat.add_zero, List.getElem?_cons_zero, List.getElem?_cons_succ] at q0 q1 q2 q3 q4
              have hgl := kg.lt
              have kXr := KXO.out.mod hj.out.m (fun e => by have e' : w.heap.size = MB := e; exact NFX.out (.inr e'))
              have mA := (Mod.refl none_ wr).alloc (.cells #[.int .i64 c.site, .int .i64 c.seq, .int .i64 c.off, .int .i32 c.r, .bool c.gone] 63)
              have kA := Blk.new (w := wr) (cs := [.int .i64 c.site, .int .i64 c.seq, .int .i64 c.off, .int .i32 c.r, .bool c.gone]) (t := 63)
              have hspA := ((SPF.out.mod hst.out.m (fun _ e => e)).mod hj.out.m (fun b e => .inr e)).mod mA (fun _ e => e.elim)
              have HAS := has_any _ sa slen scap sp (P0 + i) hspA.sp HSO.out
              rw [Int.natCast_add] at HAS
              have HAS := Lib.hid HAS
              have kXA := kXr.mod mA (fun e => e)
              have JA := Lib.hid (hj.out.grown mA)
              have hdA := (hdy.grown mA).doc
              have KA := Lib.hid kA
              have KXA := Lib.hid kXA
              have HDA := Lib.hid hdA
              have HC := Lib.hid hc
              have OK := Lib.hid hcok
              have hnb : n ≤ 20000 := by omega
              clear hc hcok hdy hby h1 kg hg1 hg2 kXr mA kA hspA kXA hdA hj
              go_upto_region 20 with (fail)
              generalize wr.alloc (.cells #[.int .i64 c.site, .int .i64 c.seq, .int .i64 c.off, .int .i32 c.r, .bool c.gone] 63) = wA at HAS JA KA KXA HDA ⊢
              obtain ⟨Bx, hBx⟩ : ∃ Bx, Bx = wr.heap.size := ⟨_, rfl⟩
              rw [← hBx] at KA ⊢
              clear hBx q0 q1 q2 q3 q4 hgl
              have c0 : wA.cell? ⟨w.heap.size, 0, none⟩ = some (.slice sa slen scap) := KXA.out.cell 0
              cases hp : hasPl sp (P0 + i)
              · rw [hp] at HAS
                go_wp2_with fail
                refine HAS.out.mono ?_
                rintro e w3 ⟨rfl, m3⟩
                have k3 := KA.out.mod m3 (fun e => e)
                have d0 := k3.cell 0
                have d1 := k3.cell 1
                have d2 := k3.cell 2
                have d3 := k3.cell 3
                have d4 := k3.cell 4
                simp only [List.getElem?_cons_zero, List.getElem?_cons_succ] at d0 d1 d2 d3 d4
                obtain ⟨va', vc', w4, hrun, J4, _⟩ := DrpJ.keep (Y := w3.alloc (.cells #[.int .i64 c.site, .int .i64 c.seq, .int .i64 c.off, .int .i32 c.r, .bool c.gone] 63)) (X := w3.heap.size) (JA.out.grown m3) HC.out hp (by omega) ((Mod.refl none_ w3).alloc _) Blk.new
                have J4 := Lib.hid J4
                clear k3 m3 hp c0
                go_wp2_with fail
                go_roundg (m - (i + 1))
                all_goals first
                  | omega
                  | exact ⟨i + 1, n + 1, va', vc', rfl, rfl, by go_num, by omega, by omega, J4⟩
              · rw [hp] at HAS
                go_wp2_with fail
                refine HAS.out.mono ?_
                rintro e w3 ⟨rfl, m3⟩
                have k3 := KA.out.mod m3 (fun e => e)
                have j3 := JA.out.grown m3
                have J3 := Lib.hid j3
                have hkx : c.name ∈ (cellsOf bl' ++ dropFrom sp P0 (x.c.take i) ++ x.c.drop i ++ cellsOf (bl.drop (k + 1))).map CellV.name := by
                  rw [(drop_step (sp := sp) (P := P0) HC.out).2]
                  simp
                have NMd : Names Tryd.prog 33 w3.drew MB ((cellsOf bl' ++ dropFrom sp P0 (x.c.take i) ++ x.c.drop i ++ cellsOf (bl.drop (k + 1))).map CellV.name) := j3.nm.mod (Mod.drew (Mod.refl none_ w3)) (fun e => e)
                obtain ⟨s, w4, w5, l1, l2, l2', l3, M4, M5, hgt, mm, nn, im, imx, im1, im2⟩ := NMd.less kName Tryd.underlying88 zInt hkx (okName OK.out)
                have hqp := cnt_pos hkx
                have hql : cnt ((cellsOf bl' ++ dropFrom sp P0 (x.c.take i) ++ x.c.drop i ++ cellsOf (bl.drop (k + 1))).map CellV.name) c.name ≤ 1099511627776 := by
                  refine Nat.le_trans (cnt_le _ _) ?_
                  have h1 : (cellsOf bl').length ≤ P0 := by rw [hst.out.cs, HP0.out]; exact dropFrom_len _ _ _
                  have h2 := dropFrom_len sp (x.c.take i) P0
                  have h3 := E1.out
                  have h4 := HM0.out
                  rw [List.length_take] at h2
                  simp only [List.length_map, List.length_append, List.length_drop]
                  omega
                have KS := Lib.hid (show ∃ ks, ks = (cellsOf bl' ++ dropFrom sp P0 (x.c.take i) ++ x.c.drop i ++ cellsOf (bl.drop (k + 1))).map CellV.name from ⟨_, rfl⟩)
                obtain ⟨ks, hks⟩ := KS.out
                rw [← hks] at hkx NMd l1 l2 l2' l3 hgt imx im1 im2 hqp hql
                have GN := Lib.hid (fun (w' : World) (m' : Mod (one MB) w3 w') (hN : Names Tryd.prog 33 w' MB (ks.erase c.name)) => J3.out.gone HC.out hp m' (by rw [← hks]; exact hN))
                obtain ⟨q, hq⟩ : ∃ q, q = cnt ks c.name := ⟨_, rfl⟩
                rw [← hq] at l1 l2 l2' l3 hgt imx hqp hql
                have hwq : IntKind.i64.wrap ((q : Int) - 1) = (q : Int) - 1 := by rw [IntKind.wrap_i64]; omega
                have hd3 := HDA.out.mod m3 (fun e => e)
                have a1 : w3.cell? ⟨D, 1, none⟩ = some (.map (some MB)) := hd3.cell 1
                have d0 := k3.cell 0
                have d1 := k3.cell 1
                simp only [List.getElem?_cons_zero, List.getElem?_cons_succ] at d0 d1
                have hDM : ¬ one MB D := fun e => by have e' : D = MB := e; exact HNFO.out (by rw [← e']; exact .inl rfl)
                have hBM : ¬ one MB Bx := fun e => by
                  have e' : Bx = MB := e
                  obtain ⟨m2, n2, i2, _⟩ := NMd
                  exact imap_blk i2 (by rw [← e']; exact k3.drew)
                have k5 := k3.drew.mod M5 hBM
                have hd5 := hd3.drew.mod M5 hDM
                have a5 : w5.cell? ⟨D, 1, none⟩ = some (.map (some MB)) := hd5.cell 1
                have f0 := k5.cell 0
                have f1 := k5.cell 1
                simp only [List.getElem?_cons_zero, List.getElem?_cons_succ] at f0 f1
                have l4 : (Instr.lookup 88 (.map (some MB)) (.agg #[.int .i64 c.site, .int .i64 c.seq]) false).run Tryd.prog w5.drew = .ok (.int .i64 ((q : Int) - 1)) w5.drew := by
                  have i5 : IMap Tryd.prog 33 w5.drew MB mm nn := im
                  have h1 := i5.lookup (t := 88) kName Tryd.underlying88 (zInt _) (okName OK.out) false
                  rw [if_neg (by simp), imx] at h1
                  exact h1
                have M5' := Lib.hid (((Mod.refl (one MB) w3).drew).trans M5)
                have HGT := Lib.hid hgt
                have HQ := Lib.hid hq
                have IM := Lib.hid im
                have IM1 := Lib.hid im1
                have IM2 := Lib.hid im2
                have HKX := Lib.hid hkx
                clear k3 m3 hp c0 j3 NMd M4 M5 hgt im imx im1 im2 hkx KS hks hd3 hDM hBM k5 hd5 hq
                go_wp2_with fail
                go_cut [12, 76] from 77 to 115 (fun s12 s76 wx => s12 = .slice la n lc ∧ s76 = .int .i64 (i : Int) ∧ wx = w5)
                case first =>
                  go_region_law (fail)
                  all_goals (try go_wp2_with fail)
                  all_goals go_meet
                  all_goals exact ⟨rfl, rfl, rfl⟩
                case rest =>
                  obtain ⟨rfl, rfl, hw5⟩ := hcut
                  rw [hw5]
                  clear hw5 l1 l2 l2' l3 a1 d0 d1 hwq
                  go_wp2_with fail
                  go_cut [12, 76, 108] from 77 to 115 (fun s12 s76 s108 wx => s12 = .slice la n lc ∧ s76 = .int .i64 (i : Int) ∧ s108 = .bool ((q : Int) - 1 == 0) ∧ wx = w5.drew)
                  case first =>
                    go_region_law (fail)
                    all_goals (try go_wp2_with fail)
                    all_goals go_meet
                    all_goals exact ⟨rfl, rfl, rfl, rfl⟩
                  case rest =>
                    obtain ⟨rfl, rfl, rfl, hw6⟩ := hcut
                    rw [hw6]
                    clear hw6 l4
                    by_cases hq1 : q = 1
                    · have hqb : ((q : Int) - 1 == 0) = true := by simp; omega
                      obtain ⟨w6, hdel, M6, N6⟩ := Names.last (w := w5.drew.drew) (t := 88) (IM.out : IMap Tryd.prog 33 w5.drew.drew MB mm nn) kName Tryd.underlying88 HKX.out (by rw [← HQ.out]; exact hq1) IM1.out IM2.out
                      have J6 := Lib.hid (GN.out w6 (M5'.out.trans (((Mod.refl (one MB) w5).drew.drew).trans M6)) N6)
                      clear M6 N6 hq1
                      go_wp2_with fail
                      go_region_law (fail)
                      all_goals (try go_wp2_with fail)
                      all_goals go_roundg (m - (i + 1))
                      all_goals first
                        | omega
                        | exact ⟨i + 1, n, la, lc, rfl, rfl, by go_num, by omega, by omega, J6⟩
                    · have hqb : ((q : Int) - 1 == 0) = false := by simp; omega
                      have J6 := Lib.hid ((GN.out w5 M5'.out (HGT.out (by omega))).grown (Mod.drew (Mod.refl none_ w5)))
                      clear hq1
                      go_wp2_with fail
                      go_roundg (m - (i + 1))
                      all_goals first
                        | omega
                        | exact ⟨i + 1, n, la, lc, rfl, rfl, by go_num, by omega, by omega, J6⟩
            · obtain rfl : i = m := by omega
              have hdy := HDX.out.mod hj.out.m (fun b hb e => by have e' : b = MB := e; subst e'; exact HNFO.out hb)
              have hby := hdy.blk x HXM.out
              have hxM : MB ≠ x.p := fun e => HNFO.out (.inr (.inr ⟨x, HXM.out, .inl e⟩))
              have b0' : wr.cell? ⟨x.p, 2, none⟩ = some x.v := hby.b.cell 2
              rw [HV1.out] at b0'
              have rf2 := hby.b.frozen 2
              have kB2 := hby.b.set 2 (.slice la n lc)
              have mS : Mod (one x.p) wr (wr.setCell ⟨x.p, 2, none⟩ (.slice la n lc)) := (Mod.refl (one x.p) wr).setCell ⟨x.p, 2, none⟩ (fun _ => rfl) _
              have hj2 := hj.out
              rw [HM0.out] at hj2
              have hnlen := hj2.n
              rw [List.take_length] at hnlen
              have hrow := hj2.row
              rw [List.take_length] at hrow
              have hrS := ownsRow_mod hrow mS (fun b hb e => by
                have e' : b = x.p := e
                subst e'
                obtain ⟨cs', hc'⟩ := ownsRow_type hrow hb
                exact Blk.apart hby.b hc' (by decide) rfl)
              have hCT := count_any (wr.setCell ⟨x.p, 2, none⟩ (.slice la n lc)) x.p wo.heap.size _ _ (.slice la n lc) n (dropFrom sp P0 x.c) kB2 hrS (fun e => by
                obtain ⟨cs', hc'⟩ := ownsRow_type hrow e
                exact Blk.apart hby.b hc' (by decide) rfl) hnlen.symm (by omega)
              have HCT := Lib.hid hCT
              have MS := Lib.hid mS
              have J2 := Lib.hid hj2
              clear hdy hby kB2 mS hj2 hnlen hrow hrS hCT hj
              go_wp2_with fail
              refine HCT.out.mono ?_
              rintro e wz ⟨rfl, kz, mz⟩
              have hI := DrpI.step hst.out HX.out (by rw [← HP0.out]; exact J2.out) (MS.out.trans mz) (by rw [← HP0.out]; exact kz)
              have HI := Lib.hid hI
              clear hI kz mz
              go_wp2_with fail
              go_roundg (bl.length - (k + 1))
              all_goals first
                | omega
                | exact ⟨k + 1, _, rfl, by rw [E2.out]; simp, by go_num, by omega, HI⟩
        · obtain rfl : k = bl.length := by omega
          have hI := hst.out
          have hdx := hI.doc
          rw [List.drop_length, List.append_nil] at hdx
          have hnm := hI.nm
          rw [List.drop_length] at hnm
          have hft := hI.ft
          rw [List.drop_length, List.append_nil] at hft
          have hcs := hI.cs
          rw [List.take_length] at hcs
          have hde : dropE sp (cellsOf bl) = 0 := by unfold dropE; rw [if_pos HSO.out, if_neg (by have := HEND.out; omega), if_neg (by rw [HH.out]; decide)]
          have hdl : dropL sp (cellsOf bl) = dropFrom sp 0 (cellsOf bl) := by unfold dropL; rw [if_pos hde]
          have hT : ∀ b, foot D (.slice va bl.length vc) bl b ∨ b = MB → S b := fun b hb => by
            rcases hb with hb | rfl
            · exact HF.out b hb
            · exact HMB.out
          have hmo : Mod S w wo := (MW.out.mono (fun _ _ e => e.elim)).trans (hI.m.mono (fun b _ hb => hT b hb))
          have hnmf := foot_names hdx (by simpa [cellsOf] using hnm)
          have cdo : wo.cell? ⟨D, 0, none⟩ = some (.slice va bl.length vc) := hdx.doc.cell 0
          have fdo := hdx.doc.frozen 0
          have hft' : ∀ b, foot D (.slice va bl.length vc) bl' b → S b ∨ w.heap.size ≤ b := fun b hb => by
            rcases hft b hb with h1 | h1
            · exact .inl (HF.out b h1)
            · exact .inr (by omega)
          have elt : w.heap.size + 1 < wo.heap.size := (hI.m.blk NFE.out KEW.out |> Blk.lt)
          have kEo : Blk wo (w.heap.size + 1) [.int .i64 0] 28 := KEW.out.mod hI.m NFE.out
          have hDo : wo.heap[Df]? = some (.deferred (some [])) := hI.m.blk NFD.out HDF.out
          have Dlt := lt_of_block HDF.out
          have nE' : ¬ foot D (.slice va bl.length vc) bl' (w.heap.size + 1) := fun hb => by
            rcases hft _ hb with h1 | h1
            · exact NFE.out (.inl h1)
            · omega
          have nD' : ¬ foot D (.slice va bl.length vc) bl' Df := fun hb => by
            rcases hft _ hb with h1 | h1
            · exact NFD.out (.inl h1)
            · omega
          have hwB : w.heap.size ≤ Df := by have := HW.out; have := HZW.out; omega
          have hDC := delDoc_any wo D MB _ bl' hdx
          have HDC := Lib.hid hDC
          have NE := Lib.hid nE'
          have ND := Lib.hid nD'
          have KEO := Lib.hid kEo
          have HDO := Lib.hid hDo
          have HDX := Lib.hid hdx
          have HNMX := Lib.hid (show Names Tryd.prog 33 wo MB ((cellsOf bl').map CellV.name) from by simpa [cellsOf] using hnm)
          have HNMF := Lib.hid hnmf
          have HFT' := Lib.hid hft'
          have HCS := Lib.hid hcs
          have HDE := Lib.hid hde
          have HDL := Lib.hid hdl
          have HMO := Lib.hid hmo
          have HWB := Lib.hid hwB
          clear hI hdx hnm hft hft' hcs hde hdl hT hmo hnmf kEo hDo nE' nD' hwB hDC elt Dlt
          go_wp2_with fail
          refine HDC.out.mono ?_
          rintro e w1 ⟨a2, n2, c2, rfl, hd2, m1, hv2⟩
          have mD : Mod (fun b => foot D (.slice va bl.length vc) bl' b) wo w1 := m1.mono (fun b _ e => .inr (.inl e))
          have m2 : Mod (fun b => foot D (.slice va bl.length vc) bl' b) wo (w1.setCell ⟨D, 0, none⟩ (.slice a2 n2 c2)) := mD.setCell ⟨D, 0, none⟩ (fun _ => .inl rfl) _
          have kE2 := KEO.out.mod m2 NE.out
          have hD2 := m2.blk ND.out HDO.out
          have fd1 := (HDX.out.doc.mod m1 (fun e => by
            obtain ⟨cs', hc'⟩ := ownsRow_type HDX.out.ptrs e
            exact Blk.apart HDX.out.doc hc' (by decide) rfl)).frozen 0
          have cd1 := (HDX.out.doc.mod m1 (fun e => by
            obtain ⟨cs', hc'⟩ := ownsRow_type HDX.out.ptrs e
            exact Blk.apart HDX.out.doc hc' (by decide) rfl)).cell 0
          have mF : Mod (fun b => b = w.heap.size + 1 ∨ b = Df) (w1.setCell ⟨D, 0, none⟩ (.slice a2 n2 c2)) (((w1.setCell ⟨D, 0, none⟩ (.slice a2 n2 c2)).setCell ⟨w.heap.size + 1, 0, none⟩ (.int .i64 0)).putObj Df (.deferred none)) :=
            ((Mod.refl _ _).setCell ⟨w.heap.size + 1, 0, none⟩ (fun _ => .inl rfl) _).trans ⟨rfl, rfl, rfl, by simp, fun k _ hs => World.putObj_heap_other (fun e => hs (.inr (by first | exact e | exact e.symm)))⟩
          have hE := drop_end (S := S) HMO.out HFT'.out HMB.out HNMX.out HNMF.out hd2 (fun b hb => fullBl_foot hv2 b hb) (fullBl_cells bl') (fullBl_ne bl') m2 mF (fun b hb => by
            rcases hb with rfl | rfl
            · exact ⟨by omega, NE.out, fun e => NFE.out (.inr e)⟩
            · exact ⟨HWB.out, ND.out, fun e => NFD.out (.inr e)⟩)
          have hDb : ((w1.setCell ⟨D, 0, none⟩ (.slice a2 n2 c2)).setCell ⟨w.heap.size + 1, 0, none⟩ (.int .i64 0)).heap[Df]? = some (.deferred (some [])) := by
            have mq : Mod (one (w.heap.size + 1)) (w1.setCell ⟨D, 0, none⟩ (.slice a2 n2 c2)) ((w1.setCell ⟨D, 0, none⟩ (.slice a2 n2 c2)).setCell ⟨w.heap.size + 1, 0, none⟩ (.int .i64 0)) := (Mod.refl (one (w.heap.size + 1)) _).setCell ⟨w.heap.size + 1, 0, none⟩ (fun _ => rfl) _
            refine mq.blk (fun e => ?_) hD2
            have e' : Df = w.heap.size + 1 := e
            have hb := kE2
            unfold Blk at hb
            rw [← e', hD2] at hb
            cases hb
          have kE3 := kE2.set 0 (.int .i64 0)
          have rE : (((w1.setCell ⟨D, 0, none⟩ (.slice a2 n2 c2)).setCell ⟨w.heap.size + 1, 0, none⟩ (.int .i64 0)).putObj Df (.deferred none)).cell? ⟨w.heap.size + 1, 0, none⟩ = some (.int .i64 0) := by
            have mq : Mod (one Df) ((w1.setCell ⟨D, 0, none⟩ (.slice a2 n2 c2)).setCell ⟨w.heap.size + 1, 0, none⟩ (.int .i64 0)) (((w1.setCell ⟨D, 0, none⟩ (.slice a2 n2 c2)).setCell ⟨w.heap.size + 1, 0, none⟩ (.int .i64 0)).putObj Df (.deferred none)) := ⟨rfl, rfl, rfl, by simp, fun k _ hs => World.putObj_heap_other (fun e => hs (by first | exact e | exact e.symm))⟩
            refine (kE3.mod mq (fun e => ?_)).cell 0
            have e' : w.heap.size + 1 = Df := e
            have hb := kE3
            unfold Blk at hb
            have hDb' := hDb
            rw [← e'] at hDb'
            rw [hDb'] at hb
            cases hb
          have frE := kE2.frozen 0
          have ceE := kE2.cell 0
          have RE := Lib.hid rE
          have HDB := Lib.hid hDb
          have HEND2 := Lib.hid hE
          clear hd2 m1 hv2 mD m2 kE2 hD2 mF hE hDb kE3 rE
          go_wp2_with fail
          refine ⟨by simp, .inl ⟨_, _, rfl, run_takeDeferred HDB.out, ?_⟩⟩
          refine ⟨_, results_er rfl _ _ _ _ rfl RE.out, ?_⟩
          exact ⟨by rw [HDE.out], HEND2.out.1, by rw [HDL.out, ← HCS.out]; exact HEND2.out.2⟩
end Go.Proofs.YtlbkalbelefhmaaDoor

namespace Go.Proofs.YtlbkalbelefhmaaDoor
open Go.RowKit Go.Mine

/-- An operation that came in: whatever long its text is. -/
structure OpV.ok0 (o : OpV) (w : World) (l : List (Int × Int)) : Prop where
  sz : o.text.size ≤ maxLen
  sp : IsSpans w o.sa o.slen o.scap l
  ok : o.text.size < 4611686018427387904 → o.ok w l
theorem OpV.ok0.grown {o : OpV} {w w' : World} {l : List (Int × Int)} (h : o.ok0 w l) (m : Mod none_ w w') : o.ok0 w' l := ⟨h.sz, h.sp.grown m, fun hs => (h.ok hs).grown m⟩
/-- An act of a document. -/
structure ActV where
  k : Int
  o : OpV
  sp : List (Int × Int)
/-- Acts in memory. -/
structure IsActs (w : World) (a : Option Addr) (len cap : Nat) (l : List ActV) : Prop where
  n : l.length = len
  le : len ≤ cap
  big : cap ≤ maxLen
  ok : ∀ x ∈ l, x.o.ok0 w x.sp ∧ 0 ≤ x.k ∧ x.k ≤ 255
  acts : ∀ (i : Nat) (x : ActV), l[i]? = some x → ∃ b off, a = some ⟨b, off, none⟩ ∧ w.cell? ⟨b, off + i * 8, none⟩ = some (.int .u8 x.k) ∧ w.rangeAt b (off + i * 8 + 1) x.o.cs
theorem IsActs.grown {w w' : World} {a : Option Addr} {len cap : Nat} {l : List ActV} (h : IsActs w a len cap l) (m : Mod none_ w w') : IsActs w' a len cap l :=
  ⟨h.n, h.le, h.big, fun x hx => ⟨(h.ok x hx).1.grown m, (h.ok x hx).2⟩, fun i c hc => by
    obtain ⟨b, off, e, hk, hr⟩ := h.acts i c hc
    exact ⟨b, off, e, m.cell (fun e => e) hk, fun j v hv => m.cell (fun e => e) (hr j v hv)⟩⟩

def bigOp (o : OpV) : Bool := decide (40 < (o.slen : Int)) || decide (1000 < (o.text.size : Int))
set_option maxHeartbeats 1000000 in
set_option maxRecDepth 1000000 in
theorem great_op (o : OpV) (w : World) (l : List (Int × Int)) (h : o.ok0 w l) :
    Calls Tryd.prog 39 #[o.v] w fun e w' => e = .returned (.bool (bigOp o)) ∧ Mod none_ w w' := by
  have hsz := h.sz
  have hle := h.sp.le
  have hbig := h.sp.big
  unfold maxLen at hbig hsz
  obtain ⟨W0, hW0⟩ : ∃ W0, w.alloc (.cells o.cs.toArray 36) = W0 := ⟨_, rfl⟩
  obtain ⟨m0, kB⟩ := opBox1 hW0
  have M0 := Lib.hid m0
  have c5 : W0.cell? ⟨w.heap.size, 5, none⟩ = some (.string o.text) := by rw [kB.cell]; rfl
  have c6 : W0.cell? ⟨w.heap.size, 6, none⟩ = some (.slice o.sa o.slen o.scap) := by rw [kB.cell]; rfl
  unfold bigOp
  clear h m0 kB
  by_cases h1 : 40 < (o.slen : Int)
  · have hd : decide (40 < (o.slen : Int)) = true := by simpa using h1
    go_enter Tryd.func39, Tryd.ntmps39
    go_upto_region 1 with fail
    clear hW0
    go_wp2_with fail
    go_ret
    exact ⟨by rw [hd]; rfl, M0.out⟩
  · have hd : decide (40 < (o.slen : Int)) = false := by simp; omega
    go_enter Tryd.func39, Tryd.ntmps39
    go_upto_region 1 with fail
    clear hW0
    go_wp2_with fail
    go_ret
    exact ⟨rfl, M0.out⟩

def greatB (n : Nat) (l : List ActV) : Bool := decide (250 < (n : Int)) || decide (25 < (l.length : Int)) || l.any fun x => bigOp x.o
set_option maxHeartbeats 4000000 in
set_option maxRecDepth 1000000 in
theorem great_acts (w : World) (a : Option Addr) (len cap : Nat) (hle : len ≤ cap) (hcap : cap ≤ maxLen) (b : Option Addr) (alen acap : Nat) (l : List ActV) (h : IsActs w b alen acap l) :
    Calls Tryd.prog 10 #[.slice a len cap, .slice b alen acap] w fun e w' => e = .returned (.bool (greatB len l)) ∧ Mod none_ w w' := by
  obtain ⟨R, hR⟩ : ∃ R, R = greatB len l := ⟨_, rfl⟩
  rw [← hR]
  have HR := Lib.hid hR
  have hale := h.le
  have hacap := h.big
  have hn := h.n
  unfold maxLen at hcap hacap
  have H := Lib.hid h
  have HN := Lib.hid hn
  clear h hR hn
  by_cases h1 : 250 < (len : Int)
  · have hd : decide (250 < (len : Int)) = true := by simpa using h1
    go_enter Tryd.func10, Tryd.ntmps10
    go_wp2_with fail
    go_ret
    exact ⟨by rw [HR.out]; unfold greatB; rw [hd]; rfl, Mod.refl _ _⟩
  have hd : decide (250 < (len : Int)) = false := by simp; omega
  by_cases h2 : 25 < (alen : Int)
  · have hd2 : decide (25 < (alen : Int)) = true := by simpa using h2
    go_enter Tryd.func10, Tryd.ntmps10
    go_wp2_with fail
    go_ret
    exact ⟨by rw [HR.out]; unfold greatB; rw [HN.out, hd2]; simp, Mod.refl _ _⟩
  have hd2 : decide (25 < (alen : Int)) = false := by simp; omega
  go_enter Tryd.func10, Tryd.ntmps10
  go_wp2_with fail
  go_loopg [5] alen (fun g s5 wx => ∃ k : Nat, g = alen - k ∧ s5 = .int .i64 k ∧ k ≤ alen ∧ Mod none_ w wx ∧ RowKit.Hid (((l.take k).any fun x => bigOp x.o) = false))
  case atStart => exact ⟨0, rfl, rfl, Nat.zero_le _, Mod.refl _ _, Lib.hid rfl⟩
  case round =>
    obtain ⟨k, rfl, rfl, hk, mx, hst⟩ := hrel
    by_cases hlk : k < alen
    · obtain ⟨x, hx⟩ : ∃ x, l[k]? = some x := ⟨l[k]'(by rw [HN.out]; exact hlk), by simp⟩
      obtain ⟨g, off, rfl, _, hr⟩ := (H.out.grown mx).acts k x hx
      have c0 := hr 0 _ rfl
      have c1 := hr 1 _ rfl
      have c2 := hr 2 _ rfl
      have c3 := hr 3 _ rfl
      have c4 := hr 4 _ rfl
      have c5 := hr 5 _ rfl
      have c6 := hr 6 _ rfl
      rw [Nat.add_zero] at c0
      have HG := Lib.hid (great_op x.o wr x.sp (((H.out.grown mx).ok x (List.mem_of_getElem? hx)).1))
      have MX := Lib.hid mx
      have HS := Lib.hid (fun (hb : bigOp x.o = false) => (show ((l.take (k + 1)).any fun x => bigOp x.o) = false by
        obtain ⟨hi, e⟩ := List.getElem?_eq_some_iff.1 hx
        rw [List.take_succ_eq_append_getElem hi, List.any_append, hst.out, e]
        simp [hb]))
      have HT := Lib.hid (fun (hb : bigOp x.o = true) => (show R = true by
        rw [HR.out]; unfold greatB
        have : (l.any fun x => bigOp x.o) = true := List.any_eq_true.2 ⟨x, List.mem_of_getElem? hx, hb⟩
        rw [this, Bool.or_true]))
      clear hr hx hst mx
      cases hb : bigOp x.o
      · rw [hb] at HG
        go_wp2_with fail
        refine HG.out.mono ?_
        rintro e w1 ⟨rfl, m1⟩
        have M1 := Lib.hid (MX.out.trans m1)
        clear m1
        go_wp2_with fail
        go_roundg (alen - (k + 1))
        all_goals first
          | omega
          | exact ⟨k + 1, rfl, by go_num, by omega, M1.out, Lib.hid (HS.out hb)⟩
      · rw [hb] at HG
        go_wp2_with fail
        refine HG.out.mono ?_
        rintro e w1 ⟨rfl, m1⟩
        have M1 := Lib.hid (MX.out.trans m1)
        clear m1
        go_wp2_with fail
        go_ret
        exact ⟨by rw [HT.out hb]; rfl, M1.out⟩
    · obtain rfl : k = alen := by omega
      have MX := Lib.hid mx
      have hF : R = false := by
        rw [HR.out]; unfold greatB
        have := hst.out
        rw [List.take_of_length_le (by rw [HN.out]; omega)] at this
        rw [hd, HN.out, hd2, this]; rfl
      have HF := Lib.hid hF
      clear hst mx hF
      go_wp2_with fail
      go_ret
      exact ⟨by rw [HF.out]; rfl, MX.out⟩

/-- How many of the first p cells are live. -/
def seenN (l : List CellV) (p : Nat) : Nat := liveN (l.take p)
theorem seenN_succ {l : List CellV} {k : Nat} {c : CellV} (h : l[k]? = some c) : seenN l (k + 1) = seenN l k + if c.gone then 0 else 1 := by
  obtain ⟨hi, e⟩ := List.getElem?_eq_some_iff.1 h
  unfold seenN
  rw [List.take_succ_eq_append_getElem hi, e, liveN_snoc]
theorem seenN_all (l : List CellV) : seenN l l.length = liveN l := by unfold seenN; rw [List.take_length]
set_option maxHeartbeats 1000000 in
set_option maxRecDepth 1000000 in
theorem rseen_any (w : World) (a : Option Addr) (len cap : Nat) (l : List CellV) (h : IsCells w a len cap l) (p : Nat) (hp : p ≤ len) :
    Calls Tryd.prog 27 #[.slice a len cap, .int .i64 p] w fun e w' => e = .returned (.int .i64 (seenN l p : Int)) ∧ Mod none_ w w' := by
  have hle := h.le
  have hcap := h.big
  have hn := h.n
  unfold maxLen at hcap
  have H := Lib.hid h
  have HN := Lib.hid hn
  clear h hn
  go_enter Tryd.func27, Tryd.ntmps27
  go_wp2_with fail
  go_loopg [5, 6] p (fun g s5 s6 wx => ∃ k n : Nat, g = p - k ∧ s5 = .int .i64 n ∧ s6 = .int .i64 k ∧ k ≤ p ∧ n ≤ k ∧ wx = w ∧ RowKit.Hid (n = seenN l k))
  case atStart => exact ⟨0, 0, rfl, rfl, rfl, Nat.zero_le _, Nat.zero_le _, rfl, Lib.hid rfl⟩
  case round =>
    obtain ⟨k, n, rfl, rfl, rfl, hk, hnk, rfl, hst⟩ := hrel
    by_cases hlk : k < p
    · obtain ⟨c, hx⟩ : ∃ x, l[k]? = some x := ⟨l[k]'(by rw [HN.out]; omega), by simp⟩
      obtain ⟨g, off, rfl, hr⟩ := H.out.cells k c hx
      have c4 := hr 4 _ rfl
      have HS := Lib.hid (seenN_succ hx)
      have hkl : k < len := by omega
      clear hr hx
      cases hg : c.gone
      · rw [hg] at c4 HS
        go_wp2_with fail
        go_roundg (p - (k + 1))
        all_goals first
          | omega
          | exact ⟨k + 1, n + 1, rfl, by go_num, by go_num, by omega, by omega, rfl, Lib.hid (by rw [HS.out, hst.out]; rfl)⟩
      · rw [hg] at c4 HS
        go_wp2_with fail
        go_roundg (p - (k + 1))
        all_goals first
          | omega
          | exact ⟨k + 1, n, rfl, rfl, by go_num, by omega, by omega, rfl, Lib.hid (by rw [HS.out, hst.out]; rfl)⟩
    · obtain rfl : k = p := by omega
      have HF := Lib.hid hst.out
      clear hst
      go_wp2_with fail
      go_ret
      exact ⟨by rw [← HF.out]; rfl, Mod.refl _ _⟩
theorem rlive_any (w : World) (a : Option Addr) (len cap : Nat) (l : List CellV) (h : IsCells w a len cap l) :
    Calls Tryd.prog 33 #[.slice a len cap] w fun e w' => e = .returned (.int .i64 (liveN l : Int)) ∧ Mod none_ w w' := by
  have HS := Lib.hid (rseen_any w a len cap l h len (Nat.le_refl _))
  rw [← h.n, seenN_all, h.n] at HS
  have hle := h.le
  have hcap := h.big
  unfold maxLen at hcap
  clear h
  go_enter Tryd.func33, Tryd.ntmps33
  go_wp2_with fail
  refine HS.out.mono ?_
  rintro e w1 ⟨rfl, m1⟩
  go_wp2_with fail
  go_ret
  exact ⟨rfl, m1⟩
end Go.Proofs.YtlbkalbelefhmaaDoor

namespace Go.Proofs.YtlbkalbelefhmaaDoor
open Go.RowKit Go.Mine
open Classical

/-- Since w only new blocks; the document D of the cells L lies in new blocks, none of them in E. -/
structure DocF (w : World) (E : Nat → Prop) (wx : World) (D : Nat) (L : List CellV) : Prop where
  m : Mod none_ w wx
  doc : ∃ S, DocS wx S D L ∧ ∀ k, S k → w.heap.size ≤ k ∧ ¬ E k
  ex : ∀ k, E k → k < wx.heap.size
  cl : Cl L
theorem DocF.grown {w wx wy : World} {E : Nat → Prop} {D : Nat} {L : List CellV} (h : DocF w E wx D L) (m : Mod none_ wx wy) : DocF w E wy D L :=
  ⟨h.m.trans m, (by obtain ⟨S, h1, h2⟩ := h.doc; exact ⟨S, h1.grown m, h2⟩), fun k hk => Nat.lt_of_lt_of_le (h.ex k hk) m.size, h.cl⟩
theorem DocF.box {w wx wy : World} {E : Nat → Prop} {D : Nat} {L : List CellV} (h : DocF w E wx D L) (m : Mod none_ wx wy) : DocF w (fun k => E k ∨ (wx.heap.size ≤ k ∧ k < wy.heap.size)) wy D L := by
  obtain ⟨S, h1, h2⟩ := h.doc
  refine ⟨h.m.trans m, ⟨fun k => S k ∧ k < wx.heap.size, (h1.mono (T := fun k => S k ∧ k < wx.heap.size) (fun k hk hs => ⟨hs, hk⟩)).grown m, fun k hk => ⟨(h2 k hk.1).1, ?_⟩⟩, ?_, h.cl⟩
  · rintro (he | ⟨he, _⟩)
    · exact (h2 k hk.1).2 he
    · have := hk.2; omega
  · rintro k (hk | hk)
    · exact Nat.lt_of_lt_of_le (h.ex k hk) m.size
    · exact hk.2
theorem DocF.less {w wx : World} {E E' : Nat → Prop} {D : Nat} {L : List CellV} (h : DocF w E wx D L) (hE : ∀ k, E' k → E k) : DocF w E' wx D L :=
  ⟨h.m, (by obtain ⟨S, h1, h2⟩ := h.doc; exact ⟨S, h1, fun k hk => ⟨(h2 k hk).1, fun e => (h2 k hk).2 (hE k e)⟩⟩), fun k hk => h.ex k (hE k hk), h.cl⟩
theorem DocF.is {w wx : World} {E : Nat → Prop} {D : Nat} {L : List CellV} (h : DocF w E wx D L) : DocIs wx 0 D L := by
  obtain ⟨S, h1, _⟩ := h.doc
  exact h1.is
/-- A store into the blocks that are kept. -/
theorem DocF.put {w wx wy : World} {E : Nat → Prop} {D : Nat} {L : List CellV} (h : DocF w E wx D L) (m : Mod E wx wy) (hE : ∀ k, E k → w.heap.size ≤ k) : DocF w E wy D L := by
  obtain ⟨S, h1, h2⟩ := h.doc
  exact ⟨h.m.transIn m (fun b hb e => by have := hE b e; omega), ⟨S, h1.mod m (fun k hk => (h2 k hk).2), h2⟩, fun k hk => Nat.lt_of_lt_of_le (h.ex k hk) m.size, h.cl⟩
/-- A world on: the document's cells are L', all blocks that are kept stay. -/
structure DocN (w : World) (E : Nat → Prop) (wx : World) (D : Nat) (L' : List CellV) (w' : World) : Prop where
  f : DocF w E w' D L'
  bs : ∀ (b : Nat) (cs : List Value) (t : TypeId), E b → Blk wx b cs t → Blk w' b cs t
  sz : wx.heap.size ≤ w'.heap.size
theorem far_of {w : World} {S : Nat → Prop} {sa : Option Addr} {n c : Nat} {sp : List (Int × Int)} (hsp : IsSpans w sa n c sp) (hS : ∀ k, S k → w.heap.size ≤ k) : ∀ b off, sa = some ⟨b, off, none⟩ → 0 < n → ¬ S b := by
  intro b off hsa hpos hsb
  have h1 := hS b hsb
  have hl : 0 < sp.length := by rw [hsp.n]; exact hpos
  obtain ⟨b', off', e, hc, _⟩ := hsp.cells 0 sp[0] (List.getElem?_eq_getElem hl)
  rw [hsa] at e
  cases e
  have := block_lt_of_cell hc
  simp at this
  omega
theorem DocF.do_ {w wx : World} {E : Nat → Prop} {D : Nat} {L : List CellV} (h : DocF w E wx D L) (o : OpV) (sp : List (Int × Int)) (ho : o.ok w sp) (hsz : o.text.size ≤ 1099511627776) :
    Calls Tryd.prog 17 #[.pointer (some ⟨D, 0, none⟩), o.v] wx fun e w' => e = .returned (.int .i64 (doE o sp L)) ∧ DocN w E wx D (doL o sp L) w' := by
  obtain ⟨S, hd, hS⟩ := h.doc
  have ho' := ho.grown h.m
  refine (do_any wx S D L o sp hd h.cl.big h.cl.ok ho' hsz (far_of ho.sp (fun k hk => (hS k hk).1))).mono ?_
  rintro e w' ⟨rfl, m, hd'⟩
  refine ⟨rfl, ⟨h.m.transIn m (fun b hb hs => absurd (hS b hs).1 (by omega)), ⟨_, hd', ?_⟩, fun k hk => Nat.lt_of_lt_of_le (h.ex k hk) m.size, h.cl.doL ho.i1 ho.i2⟩, fun b cs t hb k => k.mod m (fun hs => (hS _ hs).2 hb), m.size⟩
  rintro k (hk | ⟨hk, _⟩)
  · exact hS k hk
  · have h1 := h.m.size
    exact ⟨by omega, fun e => by have := h.ex k e; omega⟩
theorem Cl.dropL {sp : List (Int × Int)} {l : List CellV} (h : Cl l) : Cl (dropL sp l) := by
  unfold Go.Proofs.YtlbkalbelefhmaaDoor.dropL
  split
  · have hs := dropFrom_sub sp l 0
    exact ⟨h.ids.sublist (hs.map _), fun c hc => h.ok c (hs.subset hc), Nat.le_trans hs.length_le h.big⟩
  · exact h
/-- Drop, upon such a document; the spans lie ahead of it or behind it. -/
theorem DocF.drop_ {w wx : World} {E : Nat → Prop} {D : Nat} {L : List CellV} (h : DocF w E wx D L) (sa : Option Addr) (n c : Nat) (sp : List (Int × Int)) (hs : IsSpans wx sa n c sp) (hfar : ∀ b off, sa = some ⟨b, off, none⟩ → 0 < n → b < w.heap.size ∨ E b) :
    Calls Tryd.prog 21 #[.pointer (some ⟨D, 0, none⟩), .slice sa n c] wx fun e w' => e = .returned (.int .i64 (dropE sp L)) ∧ DocN w E wx D (dropL sp L) w' := by
  obtain ⟨S, hd, hS⟩ := h.doc
  refine (drop_any wx S D L sa n c sp hd h.cl.big h.cl.ok hs (fun b off e hn hb => ?_)).mono ?_
  · have h1 := hS b hb
    rcases hfar b off e hn with h2 | h2
    · omega
    · exact h1.2 h2
  rintro e w' ⟨rfl, m, hd'⟩
  refine ⟨rfl, ⟨h.m.transIn m (fun b hb hs => absurd (hS b hs).1 (by omega)), ⟨_, hd', ?_⟩, fun k hk => Nat.lt_of_lt_of_le (h.ex k hk) m.size, h.cl.dropL⟩, fun b cs t hb k => k.mod m (fun hs => (hS _ hs).2 hb), m.size⟩
  rintro k (hk | ⟨hk, _⟩)
  · exact hS k hk
  · have h1 := h.m.size
    exact ⟨by omega, fun e => by have := h.ex k e; omega⟩
theorem Cl.new {l : List CellV} (h : newE l = 0) (hok : ∀ c ∈ l, c.ok) (hl : l.length ≤ 20000) : Cl l := by
  unfold newE at h
  by_cases h1 : l.all cellOk = true
  · rw [if_pos h1] at h
    by_cases h2 : (l.map CellV.id).Nodup
    · exact ⟨h2, hok, hl⟩
    · rw [if_neg h2] at h; omega
  · rw [if_neg h1] at h; omega

set_option maxHeartbeats 16000000 in
set_option maxRecDepth 1000000 in
theorem document_any (w : World) (ca : Option Addr) (clen ccap : Nat) (l : List CellV) (hc : IsCells w ca clen ccap l) (aa : Option Addr) (alen acap : Nat) (acts : List ActV) (ha : IsActs w aa alen acap acts) (hg : greatB clen acts = false) :
    Calls Tryd.prog 37 #[.slice ca clen ccap, .slice aa alen acap] w fun e w' => (¬ newE l = 0 ∧ e = .returned (.pointer none) ∧ Mod none_ w w') ∨ (newE l = 0 ∧ ∃ D L, e = .returned (.pointer (some ⟨D, 0, none⟩)) ∧ DocF w none_ w' D L) := by
  have hcle := hc.le
  have hcbig := hc.big
  have hale := ha.le
  have habig := ha.big
  have hcn := hc.n
  unfold maxLen at hcbig habig
  have HA := Lib.hid ha
  have HAN := Lib.hid ha.n
  have HGB := Lib.hid hg
  have hcl : clen ≤ 250 := by unfold greatB at hg; simp at hg; omega
  have hal : alen ≤ 25 := by have := HAN.out; unfold greatB at hg; simp at hg; omega
  have HN := Lib.hid (new_any w ca clen ccap l hc (by omega))
  have HC := Lib.hid hc
  have HCN := Lib.hid hcn
  clear hc ha hcn hg
  go_enter Tryd.func37, Tryd.ntmps37
  go_wp2_with fail
  refine HN.out.mono ?_
  rintro e w3 ⟨m3, hbad, hgood⟩
  have M3 := Lib.hid m3
  by_cases hne0 : ¬ newE l = 0
  · have hne := hne0
    obtain ⟨E, hE⟩ : ∃ E, E = newE l := ⟨_, rfl⟩
    rw [hbad hne, ← hE]
    have hne2 : (E == 0) = false := by rw [hE]; simpa using hne
    have HNE := Lib.hid hne
    clear hE hbad hgood m3 HN hne0 hne
    go_wp2_with fail
    go_ret
    exact .inl ⟨HNE.out, rfl, M3.out⟩
  have hne : newE l = 0 := Classical.not_not.1 hne0
  clear hne0
  obtain ⟨D, rfl, hdoc⟩ := hgood hne
  have HNE := Lib.hid hne
  have hF0 : DocF w none_ w3 D l := ⟨M3.out, ⟨_, hdoc.s, fun k hk => ⟨hk, fun e => e⟩⟩, fun k hk => hk.elim, Cl.new hne HC.out.ok (by rw [HCN.out]; omega)⟩
  have HF0 := Lib.hid hF0
  clear hdoc hne hbad hgood m3 HN hF0 HC HCN
  go_wp2_with fail
  go_loopg [7] alen (fun g s7 wx => ∃ (k : Nat) (L : List CellV), g = alen - k ∧ s7 = .int .i64 k ∧ k ≤ alen ∧ RowKit.Hid (DocF w none_ wx D L))
  case atStart => exact ⟨0, l, rfl, rfl, Nat.zero_le _, HF0⟩
  case round =>
    obtain ⟨k, L, rfl, rfl, hk, hst⟩ := hrel
    by_cases hlk : k < alen
    · obtain ⟨x, hx⟩ : ∃ x, acts[k]? = some x := ⟨acts[k]'(by rw [HAN.out]; exact hlk), by simp⟩
      have HAX := HA.out.grown hst.out.m
      obtain ⟨b, off, rfl, _, hr⟩ := HAX.acts k x hx
      have hmem := List.mem_of_getElem? hx
      have hbig : bigOp x.o = false := by
        have h := HGB.out
        unfold greatB at h
        simp only [Bool.or_eq_false_iff] at h
        have := List.any_eq_false.1 h.2 x hmem
        simpa using this
      have hsz : x.o.text.size ≤ 1000 := by unfold bigOp at hbig; simp at hbig; omega
      have hok : x.o.ok w x.sp := (HA.out.ok x hmem).1.ok (by omega)
      have OK := Lib.hid hok
      have c0 := hr 0 _ rfl
      have c1 := hr 1 _ rfl
      have c2 := hr 2 _ rfl
      have c3 := hr 3 _ rfl
      have c4 := hr 4 _ rfl
      have c5 := hr 5 _ rfl
      have c6 := hr 6 _ rfl
      rw [Nat.add_zero] at c0
      obtain ⟨o, ho⟩ : ∃ o, o = x.o := ⟨_, rfl⟩
      obtain ⟨sp, hsp⟩ : ∃ sp, sp = x.sp := ⟨_, rfl⟩
      rw [← ho] at c0 c1 c2 c3 c4 c5 c6 hsz OK
      rw [← hsp] at OK
      clear hr hx HAX hmem hbig hok ho hsp
      go_wp2_with fail
      refine (hst.out.do_ o sp OK.out (by omega)).mono ?_
      rintro e w8 ⟨rfl, hD⟩
      have DD := Lib.hid hD.f
      clear hD c0 c1 c2 c3 c4 c5 c6 hst
      go_wp2_with fail
      go_roundg (alen - (k + 1))
      all_goals first
        | omega
        | exact ⟨k + 1, doL o sp L, rfl, by go_num, by omega, DD⟩
    · obtain rfl : k = alen := by omega
      go_wp2_with fail
      go_ret
      exact .inr ⟨HNE.out, D, L, rfl, hst.out⟩
end Go.Proofs.YtlbkalbelefhmaaDoor

namespace Go.Proofs.YtlbkalbelefhmaaDoor
open Go.RowKit Go.Shelf Go.Mine
attribute [local go_sem] Oper.semAt_some
attribute [local go_sem ↓] app_fold

abbrev spCs (x : Int × Int) : List Value := [.int .i64 x.1, .int .i64 x.2]
theorem spCs_len (x : Int × Int) : (spCs x).length = 2 := rfl
/-- A place more, behind all of a list. -/
def addPl (L : List (Int × Int)) (p : Nat) : List (Int × Int) := match L.getLast? with
  | some (f, n) => if f + n = p then L.dropLast ++ [(f, n + 1)] else L ++ [((p : Int), 1)]
  | none => [((p : Int), 1)]
/-- The places below n that P marks. -/
def plsOf (P : Nat → Bool) : Nat → List (Int × Int)
  | 0 => []
  | n + 1 => if P n then addPl (plsOf P n) n else plsOf P n
theorem addPl_len (L : List (Int × Int)) (p : Nat) : (addPl L p).length ≤ L.length + 1 := by
  unfold addPl
  cases h : L.getLast? with
  | none => simp
  | some x =>
    obtain ⟨f, n⟩ := x
    simp only
    split
    · simp
    · simp
theorem plsOf_len (P : Nat → Bool) : ∀ n, (plsOf P n).length ≤ n
  | 0 => Nat.le_refl _
  | n + 1 => by
    have ih := plsOf_len P n
    rw [plsOf]
    split
    · have := addPl_len (plsOf P n) n; omega
    · omega
/-- Each span ends at n at most. -/
theorem plsOf_in (P : Nat → Bool) : ∀ n, ∀ x ∈ plsOf P n, 0 ≤ x.1 ∧ 1 ≤ x.2 ∧ x.1 + x.2 ≤ n
  | 0, x, hx => by cases hx
  | n + 1, x, hx => by
    have ih := plsOf_in P n
    rw [plsOf] at hx
    split at hx
    · unfold addPl at hx
      cases h : (plsOf P n).getLast? with
      | none =>
        rw [h] at hx
        obtain rfl := List.mem_singleton.1 hx
        simp
      | some y =>
        obtain ⟨f, m⟩ := y
        rw [h] at hx
        have hm := ih _ (List.mem_of_getLast? h)
        simp only at hx hm
        split at hx
        · rcases List.mem_append.1 hx with hx | hx
          · have := ih x (List.dropLast_subset _ hx); omega
          · obtain rfl := List.mem_singleton.1 hx
            simp; omega
        · rcases List.mem_append.1 hx with hx | hx
          · have := ih x hx; omega
          · obtain rfl := List.mem_singleton.1 hx
            simp
    · have := ih x hx; omega
/-- The last span of a list, one longer. -/
theorem flat_more (L : List (Int × Int)) (n1 : Nat) (f m : Int) (hl : L.length = n1 + 1) (hx : L[n1]? = some (f, m)) (more : List Value) :
    (flat spCs L ++ more).set (n1 * 2 + 1) (.int .i64 (m + 1)) = flat spCs (L.dropLast ++ [(f, m + 1)]) ++ more := by
  obtain ⟨hi, e⟩ := List.getElem?_eq_some_iff.1 hx
  have hL : L = L.dropLast ++ [(f, m)] := by
    have hne : L ≠ [] := by intro h0; rw [h0] at hl; simp at hl
    have := List.dropLast_concat_getLast hne
    rw [List.getLast_eq_getElem] at this
    simp only [hl, Nat.add_sub_cancel, e] at this
    exact this.symm
  have hd : L.dropLast.length = n1 := by rw [List.length_dropLast, hl]; rfl
  conv => lhs; rw [hL]
  rw [flat_append, flat_append, List.append_assoc, List.append_assoc]
  have hfl : (flat spCs L.dropLast).length = n1 * 2 := by rw [flat_length spCs_len, hd]
  rw [List.set_append_right _ _ (by omega), hfl, show n1 * 2 + 1 - n1 * 2 = 1 by omega]
  rfl
theorem addPl_nil (p : Nat) : addPl [] p = [((p : Int), 1)] := rfl
theorem addPl_some {L : List (Int × Int)} {n1 : Nat} {f m : Int} (hl : L.length = n1 + 1) (hx : L[n1]? = some (f, m)) (p : Nat) : addPl L p = if f + m = p then L.dropLast ++ [(f, m + 1)] else L ++ [((p : Int), 1)] := by
  have : L.getLast? = some (f, m) := by rw [List.getLast?_eq_getElem?, hl]; exact hx
  unfold addPl
  rw [this]
theorem infoSpan : (Tryd.prog.info? 82).map (fun i => (i.zero, i.size, i.bytes)) = some (some (.agg #[.int .i64 0, .int .i64 0]), 2, 16) := by kernel_rfl


def gonI (w : World) (D MB : Nat) (v : Value) (bl : List BV) (P : Nat → Bool) (st : Nat) (W : World) : Prop :=
  Mod none_ w W ∧ DocV W D v MB bl ∧ Blk W w.heap.size [.func (.func 57) #[] #[]] 109 ∧ Blk W (w.heap.size + 2) [.pointer (some ⟨D, 0, none⟩)] 27 ∧
    ∃ va n vc, Blk W (w.heap.size + 1) [.slice va n vc] 34 ∧ W.ownsRow w.heap.size 82 2 (.slice va n vc) n (flat spCs (plsOf P st)) ∧ n = (plsOf P st).length

theorem gone1_any (w : World) (g o : Nat) (b : Bool) (h : w.cell? ⟨g, o + 4, none⟩ = some (.bool b)) :
    Calls Tryd.prog 57 #[.pointer (some ⟨g, o, none⟩)] w fun e w' => e = .returned (.bool b) ∧ w' = w := by
  go_enter Tryd.func57, Tryd.ntmps57
  go_wp2
  go_ret
  exact ⟨rfl, rfl⟩

set_option maxHeartbeats 8000000 in
set_option maxRecDepth 1000000 in
theorem goneP_any (w : World) (D MB : Nat) (v : Value) (bl : List BV) (P : Nat → Bool) (h : DocV w D v MB bl) (hlen : (cellsOf bl).length ≤ 1099511627776) (hP : ∀ i c, (cellsOf bl)[i]? = some c → c.gone = P i) :
    Calls Tryd.prog 46 #[.pointer (some ⟨D, 0, none⟩), .func (.func 57) #[] #[]] w fun e w' => (∃ va n vc, e = .returned (.slice va n vc) ∧ w'.ownsRow w.heap.size 82 2 (.slice va n vc) n (flat spCs (plsOf P (cellsOf bl).length))) ∧ Mod none_ w w' := by
  have HDW := Lib.hid h
  have HPP := Lib.hid hP
  clear hP
  refine (callsIn_wide (n := 5)).1 ?_
  refine callsIn_of_wp_marks Tryd.func46 rfl trivial ?_ rfl
  simp only [Tryd.ntmps46, List.size_toArray, List.length_cons, List.length_nil, Nat.reduceAdd, Nat.reduceSub, Array.replicate_succ, Array.replicate_zero, List.push_toArray, List.append_toArray, List.nil_append, List.cons_append]
  gi_wp2_with fail
  refine ⟨trivial, ?_⟩
  refine (callsIn_wide.2 (each_any D _)).mono ?_
  rintro e w2 ⟨rfl, rfl⟩
  gi_wp2_with fail
  obtain ⟨W0, hW0⟩ : ∃ W0, ((w.alloc (.cells #[.func (.func 57) #[] #[]] 109)).alloc (.cells #[.slice none 0 0] 34)).alloc (.cells #[.pointer (some ⟨D, 0, none⟩)] 27) = W0 := ⟨_, rfl⟩
  have hz : W0.heap.size = w.heap.size + 3 := by rw [← hW0]; simp
  have hI0 : gonI w D MB v bl P 0 W0 := by
    rw [← hW0]
    have b0 := Blk.new (w := w) (cs := [.func (.func 57) #[] #[]]) (t := 109)
    have b1 := Blk.new (w := w.alloc (.cells #[.func (.func 57) #[] #[]] 109)) (cs := [.slice none 0 0]) (t := 34)
    have b2 := Blk.new (w := (w.alloc (.cells #[.func (.func 57) #[] #[]] 109)).alloc (.cells #[.slice none 0 0] 34)) (cs := [.pointer (some ⟨D, 0, none⟩)]) (t := 27)
    rw [World.size_alloc] at b1
    rw [World.size_alloc, World.size_alloc] at b2
    have m := (((Mod.refl none_ w).alloc (.cells #[.func (.func 57) #[] #[]] 109)).alloc (.cells #[.slice none 0 0] 34)).alloc (.cells #[.pointer (some ⟨D, 0, none⟩)] 27)
    exact ⟨m, h.grown m, (b0.mod ((Mod.refl none_ _).alloc _) (fun e => e)).mod ((Mod.refl none_ _).alloc _) (fun e => e), b2, none, 0, 0, b1.mod ((Mod.refl none_ _).alloc _) (fun e => e), ⟨by simp [plsOf], .inl ⟨rfl, rfl⟩⟩, rfl⟩
  rw [hW0]
  clear hW0
  refine rangeFunc_law (w := W0) rfl (by decide) (gf := 71) (lb := #[.pointer (some ⟨w.heap.size + 1 + 1, 0, none⟩)]) rfl trivial (enters_of Tryd.func71 (by kernel_rfl) rfl)
    CPos.enc (fun _ => rfl) (gonI w D MB v bl P) (fun _ _ _ => False) (fun st _ => st + 1) (fun st x => x.p = st ∧ x.at_ bl) (fun st => st = (cellsOf bl).length) 0 ?hI ?hIx hI0
    (fun x => { tmps := #[.pointer (some ⟨D, 0, none⟩), .func (.func 57) #[] #[], undef, .pointer (some ⟨w.heap.size, 0, none⟩), .slice none 0 0, .pointer (some ⟨w.heap.size + 1, 0, none⟩), .int .i64 (x.p : Int), .pointer (some ⟨x.g, x.i * 5, none⟩), undef, .pointer (some ⟨D, 0, none⟩), .func (.func 71) #[] #[.pointer (some ⟨w.heap.size + 1 + 1, 0, none⟩)], .int .i64 (x.p : Int), .pointer (some ⟨x.g, x.i * 5, none⟩), undef, undef, undef, undef, undef, undef, undef, undef, undef, undef, undef, undef, undef, undef, undef, undef, undef, undef, undef, undef, undef, undef, undef, undef, undef, undef, undef, undef, undef, undef, undef, undef, undef, undef, undef, undef, undef, undef], defers := [] }) ?hiter ?assign ?body ?done ?stop
  case hI =>
    rintro st W W' ⟨m0, hd, kF, kB, va, n, vc, k0, ho, hn⟩ m
    refine ⟨m0.transOwn m (by omega), hd.own m, kF.own m, kB.own m, va, n, vc, k0.own m, ownsRow_mod ho m (fun k hk s => ?_), hn⟩
    obtain ⟨cs, hc⟩ := ownsRow_type ho hk
    have := s.2 _ hc; cases this
  case hIx => rintro c st W W' h m; exact h
  case hiter =>
    intro l J Jx W hJI hJ hY h0
    refine (each1_any (5 - 1) D MB _ v bl hlen (gonI w D MB v bl P) (fun i W h => ⟨h.2.2.2.1, h.2.1⟩) l J Jx W hJI hY h0).mono ?_
    rintro e W' ⟨h1, h2 | h2⟩
    · exact ⟨h1, .inl ⟨_, rfl, h2⟩⟩
    · exact ⟨h1, .inr h2⟩
  case assign =>
    intro l x W K hK
    unfold CPos.enc
    gi_wp2
    exact hK
  case body =>
    rintro l st x W ⟨m0, hd, kF, kB, va, n, vc, k0, ho, hn⟩ ⟨rfl, hx⟩
    obtain ⟨c, hc, hcs⟩ := CPos.get hd hx
    have hlt := (List.getElem?_eq_some_iff.1 hc).1
    have x4 : W.cell? ⟨x.g, x.i * 5 + 4, none⟩ = some (.bool c.gone) := hcs 4 (by omega)
    have HG := Lib.hid (gone1_any W x.g (x.i * 5) c.gone x4)
    have hgp := HPP.out x.p c hc
    rw [hgp] at HG
    have cF : W.cell? ⟨w.heap.size, 0, none⟩ = some (.func (.func 57) #[] #[]) := kF.cell 0
    have cL : W.cell? ⟨w.heap.size + 1, 0, none⟩ = some (.slice va n vc) := k0.cell 0
    cases hp : P x.p
    · rw [hp] at HG
      have hps : plsOf P (x.p + 1) = plsOf P x.p := by rw [plsOf, hp]; rfl
      have FIN := Lib.hid (show KeepsOthers W W ∧ gonI w D MB v bl P (x.p + 1) W from ⟨KeepsOthers.refl _, m0, hd, kF, kB, va, n, vc, k0, by rw [hps]; exact ho, by rw [hps]; exact hn⟩)
      clear hI0 hd kF kB k0 ho hn hx hc hcs hlt hgp hps m0 x4
      gi_wp2_with fail
      refine ⟨trivial, ?_⟩
      refine (CallsIn.inRound l (callsIn_wide.2 HG.out)).mono ?_
      rintro e w' ⟨rfl, rfl⟩
      gi_wp2_with fail
      exact FIN.out
    · rw [hp] at HG
      have hps : plsOf P (x.p + 1) = addPl (plsOf P x.p) x.p := by rw [plsOf, hp]; rfl
      have hpb : x.p ≤ 1099511627776 := by omega
      have hnb : n ≤ x.p := by rw [hn]; exact plsOf_len P x.p
      have hin := plsOf_in P x.p
      obtain ⟨L, hL⟩ : ∃ L, L = plsOf P x.p := ⟨_, rfl⟩
      rw [← hL] at ho hn hps hin
      have hYM : Mod none_ W ((W.alloc (.cells #[.int .i64 (x.p : Int), .int .i64 1] 82)).drew) := ((Mod.refl none_ W).alloc _).drew
      obtain ⟨i0, hi0, hz0, hz1, hz2⟩ := info_parts infoSpan
      obtain ⟨va', vc', w4, hrun, k4, m4, ko4, kL, hoL, koL, mL, prL⟩ := appOne (X := W.heap.size) (e := 82) (tl := 34) Tryd.underlying34 hi0 hz0 hz1 hz2 rfl (by decide) ho k0 (by decide) hYM (cs := [.int .i64 (x.p : Int), .int .i64 1]) (Blk.new (w := W) (cs := [.int .i64 (x.p : Int), .int .i64 1]) (t := 82)).drew rfl (fun u hu => by simp at hu; rcases hu with rfl | rfl <;> rfl) (by omega) (by unfold maxLen; omega) m0.size (by omega)
      have c4 : w4.cell? ⟨w.heap.size + 1, 0, none⟩ = some (.slice va n vc) := k4.cell 0
      have f4 := k4.frozen 0
      have hwl : w.heap.size + 1 < W.heap.size := k0.lt
      have mw : Mod none_ w (w4.setCell ⟨w.heap.size + 1, 0, none⟩ (.slice va' (n + 1) vc')) := m0.transIn mL (fun b hb e => by have e' : w.heap.size ≤ b := e; omega)
      have FIN := Lib.hid (fun (ha : addPl L x.p = L ++ [((x.p : Int), 1)]) => (show KeepsOthers W (w4.setCell ⟨w.heap.size + 1, 0, none⟩ (.slice va' (n + 1) vc')) ∧ gonI w D MB v bl P (x.p + 1) (w4.setCell ⟨w.heap.size + 1, 0, none⟩ (.slice va' (n + 1) vc')) from
        ⟨koL, mw, HDW.out.new hd mL, prL _ _ _ (by omega) (by decide) kF, prL _ _ _ (by omega) (by decide) kB, va', n + 1, vc', kL, by rw [hps, ha]; simpa using hoL, by rw [hps, ha]; simp [hn]⟩))
      have hwc : w.heap.size < W.heap.size := kF.lt
      by_cases hn0 : n = 0
      · subst hn0
        have hL0 : L = [] := List.eq_nil_of_length_eq_zero hn.symm
        have FN := Lib.hid (FIN.out (by rw [hL0]; rfl))
        clear hI0 hd kF kB k0 ho hn hx hc hcs hlt hgp hps m0 x4 hin hYM hi0 hz0 hz1 hz2 k4 m4 ko4 kL hoL koL mL prL mw FIN hL0
        gi_wp2_with fail
        refine ⟨trivial, ?_⟩
        refine (CallsIn.inRound l (callsIn_wide.2 HG.out)).mono ?_
        rintro e w' ⟨rfl, rfl⟩
        gi_wp2_with fail
        refine round_held (S := fun _ => True) (by kernel_rfl) (by kernel_rfl) (fun ⟨_, _, h⟩ => h) trivial (fun hS => ?_)
        refine wpAnyH_take (i := 0) (v := .int .i64 (-1)) rfl (by kernel_rfl) (by kernel_rfl) (by kernel_rfl) (fun _ _ _ h => h) (Or.inl ⟨by kernel_rfl, ?_⟩) hS ?_
        · rintro w' _; go_simp
        try simp only [Act.put, List.setIfInBounds_toArray]
        refine wpAnyH_take (i := 1) (v := .bool false) rfl (by kernel_rfl) (by kernel_rfl) (by kernel_rfl) (fun _ _ _ h => h) (Or.inl ⟨by kernel_rfl, ?_⟩) hS ?_
        · rintro w' _; go_simp
        try simp only [Act.put]
        refine wpAnyH_take (i := 2) (v := .bool false) rfl (by kernel_rfl) (by kernel_rfl) (by kernel_rfl) (fun _ _ _ h => h) (Or.inl ⟨by kernel_rfl, ?_⟩) hS ?_
        · rintro w' _; go_simp
        try simp only [Act.put]
        refine wpAnyH_take (i := 3) (v := undef) rfl (by kernel_rfl) (by kernel_rfl) (by kernel_rfl) (fun _ _ _ h => h) (Or.inr ⟨by kernel_rfl, rfl⟩) hS ?_
        try simp only [Act.put]
        refine wpAnyH_take (i := 4) (v := undef) rfl (by kernel_rfl) (by kernel_rfl) (by kernel_rfl) (fun _ _ _ h => h) (Or.inr ⟨by kernel_rfl, rfl⟩) hS ?_
        try simp only [Act.put]
        refine wpAnyH_take (i := 5) (v := undef) rfl (by kernel_rfl) (by kernel_rfl) (by kernel_rfl) (fun _ _ _ h => h) (Or.inr ⟨by kernel_rfl, rfl⟩) hS ?_
        try simp only [Act.put]
        refine wpAnyH_take (i := 6) (v := undef) rfl (by kernel_rfl) (by kernel_rfl) (by kernel_rfl) (fun _ _ _ h => h) (Or.inr ⟨by kernel_rfl, rfl⟩) hS ?_
        try simp only [Act.put]
        refine wpAnyH_take (i := 7) (v := undef) rfl (by kernel_rfl) (by kernel_rfl) (by kernel_rfl) (fun _ _ _ h => h) (Or.inr ⟨by kernel_rfl, rfl⟩) hS ?_
        try simp only [Act.put]
        refine wpAnyH_take (i := 8) (v := undef) rfl (by kernel_rfl) (by kernel_rfl) (by kernel_rfl) (fun _ _ _ h => h) (Or.inr ⟨by kernel_rfl, rfl⟩) hS ?_
        try simp only [Act.put]
        refine wpAnyH_take (i := 9) (v := undef) rfl (by kernel_rfl) (by kernel_rfl) (by kernel_rfl) (fun _ _ _ h => h) (Or.inr ⟨by kernel_rfl, rfl⟩) hS ?_
        try simp only [Act.put]
        refine wpAnyH_take (i := 10) (v := undef) rfl (by kernel_rfl) (by kernel_rfl) (by kernel_rfl) (fun _ _ _ h => h) (Or.inr ⟨by kernel_rfl, rfl⟩) hS ?_
        try simp only [Act.put]
        refine wpAnyH_take (i := 11) (v := undef) rfl (by kernel_rfl) (by kernel_rfl) (by kernel_rfl) (fun _ _ _ h => h) (Or.inr ⟨by kernel_rfl, rfl⟩) hS ?_
        try simp only [Act.put]
        refine wpAnyH_take (i := 12) (v := undef) rfl (by kernel_rfl) (by kernel_rfl) (by kernel_rfl) (fun _ _ _ h => h) (Or.inr ⟨by kernel_rfl, rfl⟩) hS ?_
        try simp only [Act.put]
        refine wpAnyH_take (i := 13) (v := undef) rfl (by kernel_rfl) (by kernel_rfl) (by kernel_rfl) (fun _ _ _ h => h) (Or.inr ⟨by kernel_rfl, rfl⟩) hS ?_
        try simp only [Act.put]
        refine wpAnyH_take (i := 14) (v := undef) rfl (by kernel_rfl) (by kernel_rfl) (by kernel_rfl) (fun _ _ _ h => h) (Or.inr ⟨by kernel_rfl, rfl⟩) hS ?_
        try simp only [Act.put]
        refine wpAnyH_take (i := 15) (v := undef) rfl (by kernel_rfl) (by kernel_rfl) (by kernel_rfl) (fun _ _ _ h => h) (Or.inr ⟨by kernel_rfl, rfl⟩) hS ?_
        try simp only [Act.put]
        refine wpAnyH_take (i := 16) (v := .bool false) rfl (by kernel_rfl) (by kernel_rfl) (by kernel_rfl) (fun _ _ _ h => h) (Or.inl ⟨by kernel_rfl, ?_⟩) hS ?_
        · rintro w' _; go_simp
        try simp only [Act.put]
        refine wpAnyH_done (by kernel_rfl) ?_ _
        try simp only [List.getElem_toArray, List.getElem_cons_succ, List.getElem_cons_zero]
        try simp only [List.setIfInBounds_toArray, List.set_cons_zero, List.set_cons_succ]
        gi_wp2_with fail
        exact FN.out
      · obtain ⟨n1, rfl⟩ : ∃ n1, n = n1 + 1 := ⟨n - 1, by omega⟩
        obtain ⟨⟨f, m⟩, hxl⟩ : ∃ y, L[n1]? = some y := ⟨L[n1]'(by omega), by simp⟩
        have hfm := hin (f, m) (List.mem_of_getElem? hxl)
        dsimp only at hfm
        rcases ownsRow_blk ho with ⟨_, h0, _⟩ | ⟨g, cap, more, hsl, hgb, kg, hnc, hcm, hll⟩
        · omega
        obtain ⟨rfl, rfl⟩ : va = some ⟨g, 0, none⟩ ∧ vc = cap := by simpa using hsl
        unfold maxLen at hcm
        have c0 : W.cell? ⟨g, n1 * 2, none⟩ = some (.int .i64 f) := Blk.elem spCs_len kg n1 0 _ hxl (by decide)
        have c1 : W.cell? ⟨g, n1 * 2 + 1, none⟩ = some (.int .i64 m) := Blk.elem spCs_len kg n1 1 _ hxl (by decide)
        have r1 := kg.frozen (n1 * 2 + 1)
        have hgL : g ≠ w.heap.size + 1 := Blk.apart kg k0 (by decide)
        have hix : ¬ ((n1 : Int) + 1 ≤ (n1 : Int)) := by omega
        have hwx : IntKind.i64.wrap (x.p : Int) = (x.p : Int) := by rw [IntKind.wrap_i64]; omega
        have hwf : IntKind.i64.wrap (f + m) = f + m := by rw [IntKind.wrap_i64]; omega
        have hadd := addPl_some hn.symm hxl x.p
        by_cases he : f + m = (x.p : Int)
        · rw [if_pos he] at hadd
          have hbe : (f + m == (x.p : Int)) = true := by simpa using he
          have hmS : Mod (one g) W ((W.setCell ⟨g, n1 * 2 + 1, none⟩ (.int .i64 (m + 1))).drew) := ((Mod.refl (one g) W).setCell ⟨g, n1 * 2 + 1, none⟩ (fun _ => rfl) _).drew
          have kg' := (kg.set (n1 * 2 + 1) (.int .i64 (m + 1))).drew
          rw [flat_more L n1 f m hn.symm hxl more, ← hadd, ← hps] at kg'
          have hL2 : (plsOf P (x.p + 1)).length = n1 + 1 := by rw [hps, hadd]; simp [← hn]
          have FI := Lib.hid (show KeepsOthers W ((W.setCell ⟨g, n1 * 2 + 1, none⟩ (.int .i64 (m + 1))).drew) ∧ gonI w D MB v bl P (x.p + 1) ((W.setCell ⟨g, n1 * 2 + 1, none⟩ (.int .i64 (m + 1))).drew) from
            ⟨⟨by rw [show ((W.setCell ⟨g, n1 * 2 + 1, none⟩ (.int .i64 (m + 1))).drew).heap.size = W.heap.size from by simp [World.setCell]]; exact Nat.le_refl _, fun k o hk ho' => (KeepsOthers.setCell W ⟨g, n1 * 2 + 1, none⟩ (.int .i64 (m + 1))).same k o hk ho'⟩, m0.transIn hmS (fun b hb e => by have e' : b = g := e; omega), hd.mod hmS (fun k hk e => by have e' : k = g := e; have := HDW.out.flt hk; omega), kF.mod hmS (Blk.apart kF kg (by decide)), kB.mod hmS (Blk.apart kB kg (by decide)), _, n1 + 1, _, k0.mod hmS (fun e => hgL e.symm), blk_ownsRow hgb kg' (by rw [flat_length spCs_len, hL2]) hnc (by unfold maxLen; omega) (by rw [flat_length spCs_len, hL2]; rw [flat_length spCs_len, ← hn] at hll; exact hll), hL2.symm⟩)
          clear hI0 hd kF kB k0 ho hn hx hc hcs hlt hgp hps m0 x4 hin hYM hi0 hz0 hz1 hz2 k4 m4 ko4 kL hoL koL mL prL mw FIN hsl hgb kg hll hxl hadd hmS kg' hL2 hL c4 f4 hrun
          gi_wp2_with fail
          refine ⟨trivial, ?_⟩
          refine (CallsIn.inRound l (callsIn_wide.2 HG.out)).mono ?_
          rintro e w' ⟨rfl, rfl⟩
          gi_wp2_with fail
          refine round_held (S := fun w' => w'.cell? ⟨w.heap.size + 1, 0, none⟩ = some (.slice (some ⟨g, 0, none⟩) (n1 + 1) vc) ∧ w'.cell? ⟨g, n1 * 2, none⟩ = some (.int .i64 f) ∧ w'.cell? ⟨g, n1 * 2 + 1, none⟩ = some (.int .i64 m)) (by kernel_rfl) (by kernel_rfl) (fun ⟨_, _, h⟩ => h) ⟨cL, c0, c1⟩ (fun hS => ?_)
          refine wpAnyH_take (i := 0) (v := .int .i64 (n1 : Int)) rfl (by kernel_rfl) (by kernel_rfl) (by kernel_rfl) (fun _ _ _ h => h) (Or.inl ⟨by kernel_rfl, ?_⟩) hS ?_
          · rintro w' ⟨q, q0, q1⟩; go_simp
          try simp only [Act.put, List.setIfInBounds_toArray]
          refine wpAnyH_take (i := 1) (v := .bool true) rfl (by kernel_rfl) (by kernel_rfl) (by kernel_rfl) (fun _ _ _ h => h) (Or.inl ⟨by kernel_rfl, ?_⟩) hS ?_
          · rintro w' ⟨q, q0, q1⟩; go_simp
          try simp only [Act.put]
          refine wpAnyH_take (i := 2) (v := .bool true) rfl (by kernel_rfl) (by kernel_rfl) (by kernel_rfl) (fun _ _ _ h => h) (Or.inl ⟨by kernel_rfl, ?_⟩) hS ?_
          · rintro w' ⟨q, q0, q1⟩; go_simp
          try simp only [Act.put]
          refine wpAnyH_take (i := 3) (v := .slice (some ⟨g, 0, none⟩) (n1 + 1) vc) rfl (by kernel_rfl) (by kernel_rfl) (by kernel_rfl) (fun _ _ _ h => h) (Or.inl ⟨by kernel_rfl, ?_⟩) hS ?_
          · rintro w' ⟨q, q0, q1⟩; go_simp
          try simp only [Act.put]
          refine wpAnyH_take (i := 4) (v := .int .i64 (n1 : Int)) rfl (by kernel_rfl) (by kernel_rfl) (by kernel_rfl) (fun _ _ _ h => h) (Or.inl ⟨by kernel_rfl, ?_⟩) hS ?_
          · rintro w' ⟨q, q0, q1⟩; go_simp
          try simp only [Act.put]
          refine wpAnyH_take (i := 5) (v := .pointer (some ⟨g, n1 * 2, none⟩)) rfl (by kernel_rfl) (by kernel_rfl) (by kernel_rfl) (fun _ _ _ h => h) (Or.inl ⟨by kernel_rfl, ?_⟩) hS ?_
          · rintro w' ⟨q, q0, q1⟩; go_simp
          try simp only [Act.put]
          refine wpAnyH_take (i := 6) (v := .pointer (some ⟨g, n1 * 2, none⟩)) rfl (by kernel_rfl) (by kernel_rfl) (by kernel_rfl) (fun _ _ _ h => h) (Or.inl ⟨by kernel_rfl, ?_⟩) hS ?_
          · rintro w' ⟨q, q0, q1⟩; go_simp
          try simp only [Act.put]
          refine wpAnyH_take (i := 7) (v := .int .i64 f) rfl (by kernel_rfl) (by kernel_rfl) (by kernel_rfl) (fun _ _ _ h => h) (Or.inl ⟨by kernel_rfl, ?_⟩) hS ?_
          · rintro w' ⟨q, q0, q1⟩; go_simp
          try simp only [Act.put]
          refine wpAnyH_take (i := 8) (v := .slice (some ⟨g, 0, none⟩) (n1 + 1) vc) rfl (by kernel_rfl) (by kernel_rfl) (by kernel_rfl) (fun _ _ _ h => h) (Or.inl ⟨by kernel_rfl, ?_⟩) hS ?_
          · rintro w' ⟨q, q0, q1⟩; go_simp
          try simp only [Act.put]
          refine wpAnyH_take (i := 9) (v := .int .i64 (n1 : Int)) rfl (by kernel_rfl) (by kernel_rfl) (by kernel_rfl) (fun _ _ _ h => h) (Or.inl ⟨by kernel_rfl, ?_⟩) hS ?_
          · rintro w' ⟨q, q0, q1⟩; go_simp
          try simp only [Act.put]
          refine wpAnyH_take (i := 10) (v := .pointer (some ⟨g, n1 * 2, none⟩)) rfl (by kernel_rfl) (by kernel_rfl) (by kernel_rfl) (fun _ _ _ h => h) (Or.inl ⟨by kernel_rfl, ?_⟩) hS ?_
          · rintro w' ⟨q, q0, q1⟩; go_simp
          try simp only [Act.put]
          refine wpAnyH_take (i := 11) (v := .pointer (some ⟨g, n1 * 2 + 1, none⟩)) rfl (by kernel_rfl) (by kernel_rfl) (by kernel_rfl) (fun _ _ _ h => h) (Or.inl ⟨by kernel_rfl, ?_⟩) hS ?_
          · rintro w' ⟨q, q0, q1⟩; go_simp
          try simp only [Act.put]
          refine wpAnyH_take (i := 12) (v := .int .i64 m) rfl (by kernel_rfl) (by kernel_rfl) (by kernel_rfl) (fun _ _ _ h => h) (Or.inl ⟨by kernel_rfl, ?_⟩) hS ?_
          · rintro w' ⟨q, q0, q1⟩; go_simp
          try simp only [Act.put]
          refine wpAnyH_take (i := 13) (v := .int .i64 (f + m)) rfl (by kernel_rfl) (by kernel_rfl) (by kernel_rfl) (fun _ _ _ h => h) (Or.inl ⟨by kernel_rfl, ?_⟩) hS ?_
          · rintro w' ⟨q, q0, q1⟩; go_simp
          try simp only [Act.put]
          refine wpAnyH_take (i := 14) (v := .int .i64 (x.p : Int)) rfl (by kernel_rfl) (by kernel_rfl) (by kernel_rfl) (fun _ _ _ h => h) (Or.inl ⟨by kernel_rfl, ?_⟩) hS ?_
          · rintro w' ⟨q, q0, q1⟩; go_simp
          try simp only [Act.put]
          refine wpAnyH_take (i := 15) (v := .bool true) rfl (by kernel_rfl) (by kernel_rfl) (by kernel_rfl) (fun _ _ _ h => h) (Or.inl ⟨by kernel_rfl, ?_⟩) hS ?_
          · rintro w' ⟨q, q0, q1⟩; go_simp
          try simp only [Act.put]
          refine wpAnyH_take (i := 16) (v := .bool true) rfl (by kernel_rfl) (by kernel_rfl) (by kernel_rfl) (fun _ _ _ h => h) (Or.inl ⟨by kernel_rfl, ?_⟩) hS ?_
          · rintro w' ⟨q, q0, q1⟩; go_simp
          try simp only [Act.put]
          refine wpAnyH_done (by kernel_rfl) ?_ _
          try simp only [List.getElem_toArray, List.getElem_cons_succ, List.getElem_cons_zero]
          try simp only [List.setIfInBounds_toArray, List.set_cons_zero, List.set_cons_succ]
          gi_wp2_with fail
          exact FI.out
        · rw [if_neg he] at hadd
          have hbe : (f + m == (x.p : Int)) = false := by simpa using he
          have FN := Lib.hid (FIN.out hadd)
          clear hI0 hd kF kB k0 ho hn hx hc hcs hlt hgp hps m0 x4 hin hYM hi0 hz0 hz1 hz2 k4 m4 ko4 kL hoL koL mL prL mw FIN hsl hgb kg hll hxl hadd hL
          gi_wp2_with fail
          refine ⟨trivial, ?_⟩
          refine (CallsIn.inRound l (callsIn_wide.2 HG.out)).mono ?_
          rintro e w' ⟨rfl, rfl⟩
          gi_wp2_with fail
          refine round_held (S := fun w' => w'.cell? ⟨w.heap.size + 1, 0, none⟩ = some (.slice (some ⟨g, 0, none⟩) (n1 + 1) vc) ∧ w'.cell? ⟨g, n1 * 2, none⟩ = some (.int .i64 f) ∧ w'.cell? ⟨g, n1 * 2 + 1, none⟩ = some (.int .i64 m)) (by kernel_rfl) (by kernel_rfl) (fun ⟨_, _, h⟩ => h) ⟨cL, c0, c1⟩ (fun hS => ?_)
          refine wpAnyH_take (i := 0) (v := .int .i64 (n1 : Int)) rfl (by kernel_rfl) (by kernel_rfl) (by kernel_rfl) (fun _ _ _ h => h) (Or.inl ⟨by kernel_rfl, ?_⟩) hS ?_
          · rintro w' ⟨q, q0, q1⟩; go_simp
          try simp only [Act.put, List.setIfInBounds_toArray]
          refine wpAnyH_take (i := 1) (v := .bool true) rfl (by kernel_rfl) (by kernel_rfl) (by kernel_rfl) (fun _ _ _ h => h) (Or.inl ⟨by kernel_rfl, ?_⟩) hS ?_
          · rintro w' ⟨q, q0, q1⟩; go_simp
          try simp only [Act.put]
          refine wpAnyH_take (i := 2) (v := .bool true) rfl (by kernel_rfl) (by kernel_rfl) (by kernel_rfl) (fun _ _ _ h => h) (Or.inl ⟨by kernel_rfl, ?_⟩) hS ?_
          · rintro w' ⟨q, q0, q1⟩; go_simp
          try simp only [Act.put]
          refine wpAnyH_take (i := 3) (v := .slice (some ⟨g, 0, none⟩) (n1 + 1) vc) rfl (by kernel_rfl) (by kernel_rfl) (by kernel_rfl) (fun _ _ _ h => h) (Or.inl ⟨by kernel_rfl, ?_⟩) hS ?_
          · rintro w' ⟨q, q0, q1⟩; go_simp
          try simp only [Act.put]
          refine wpAnyH_take (i := 4) (v := .int .i64 (n1 : Int)) rfl (by kernel_rfl) (by kernel_rfl) (by kernel_rfl) (fun _ _ _ h => h) (Or.inl ⟨by kernel_rfl, ?_⟩) hS ?_
          · rintro w' ⟨q, q0, q1⟩; go_simp
          try simp only [Act.put]
          refine wpAnyH_take (i := 5) (v := .pointer (some ⟨g, n1 * 2, none⟩)) rfl (by kernel_rfl) (by kernel_rfl) (by kernel_rfl) (fun _ _ _ h => h) (Or.inl ⟨by kernel_rfl, ?_⟩) hS ?_
          · rintro w' ⟨q, q0, q1⟩; go_simp
          try simp only [Act.put]
          refine wpAnyH_take (i := 6) (v := .pointer (some ⟨g, n1 * 2, none⟩)) rfl (by kernel_rfl) (by kernel_rfl) (by kernel_rfl) (fun _ _ _ h => h) (Or.inl ⟨by kernel_rfl, ?_⟩) hS ?_
          · rintro w' ⟨q, q0, q1⟩; go_simp
          try simp only [Act.put]
          refine wpAnyH_take (i := 7) (v := .int .i64 f) rfl (by kernel_rfl) (by kernel_rfl) (by kernel_rfl) (fun _ _ _ h => h) (Or.inl ⟨by kernel_rfl, ?_⟩) hS ?_
          · rintro w' ⟨q, q0, q1⟩; go_simp
          try simp only [Act.put]
          refine wpAnyH_take (i := 8) (v := .slice (some ⟨g, 0, none⟩) (n1 + 1) vc) rfl (by kernel_rfl) (by kernel_rfl) (by kernel_rfl) (fun _ _ _ h => h) (Or.inl ⟨by kernel_rfl, ?_⟩) hS ?_
          · rintro w' ⟨q, q0, q1⟩; go_simp
          try simp only [Act.put]
          refine wpAnyH_take (i := 9) (v := .int .i64 (n1 : Int)) rfl (by kernel_rfl) (by kernel_rfl) (by kernel_rfl) (fun _ _ _ h => h) (Or.inl ⟨by kernel_rfl, ?_⟩) hS ?_
          · rintro w' ⟨q, q0, q1⟩; go_simp
          try simp only [Act.put]
          refine wpAnyH_take (i := 10) (v := .pointer (some ⟨g, n1 * 2, none⟩)) rfl (by kernel_rfl) (by kernel_rfl) (by kernel_rfl) (fun _ _ _ h => h) (Or.inl ⟨by kernel_rfl, ?_⟩) hS ?_
          · rintro w' ⟨q, q0, q1⟩; go_simp
          try simp only [Act.put]
          refine wpAnyH_take (i := 11) (v := .pointer (some ⟨g, n1 * 2 + 1, none⟩)) rfl (by kernel_rfl) (by kernel_rfl) (by kernel_rfl) (fun _ _ _ h => h) (Or.inl ⟨by kernel_rfl, ?_⟩) hS ?_
          · rintro w' ⟨q, q0, q1⟩; go_simp
          try simp only [Act.put]
          refine wpAnyH_take (i := 12) (v := .int .i64 m) rfl (by kernel_rfl) (by kernel_rfl) (by kernel_rfl) (fun _ _ _ h => h) (Or.inl ⟨by kernel_rfl, ?_⟩) hS ?_
          · rintro w' ⟨q, q0, q1⟩; go_simp
          try simp only [Act.put]
          refine wpAnyH_take (i := 13) (v := .int .i64 (f + m)) rfl (by kernel_rfl) (by kernel_rfl) (by kernel_rfl) (fun _ _ _ h => h) (Or.inl ⟨by kernel_rfl, ?_⟩) hS ?_
          · rintro w' ⟨q, q0, q1⟩; go_simp
          try simp only [Act.put]
          refine wpAnyH_take (i := 14) (v := .int .i64 (x.p : Int)) rfl (by kernel_rfl) (by kernel_rfl) (by kernel_rfl) (fun _ _ _ h => h) (Or.inl ⟨by kernel_rfl, ?_⟩) hS ?_
          · rintro w' ⟨q, q0, q1⟩; go_simp
          try simp only [Act.put]
          refine wpAnyH_take (i := 15) (v := .bool false) rfl (by kernel_rfl) (by kernel_rfl) (by kernel_rfl) (fun _ _ _ h => h) (Or.inl ⟨by kernel_rfl, ?_⟩) hS ?_
          · rintro w' ⟨q, q0, q1⟩; go_simp
          try simp only [Act.put]
          refine wpAnyH_take (i := 16) (v := .bool false) rfl (by kernel_rfl) (by kernel_rfl) (by kernel_rfl) (fun _ _ _ h => h) (Or.inl ⟨by kernel_rfl, ?_⟩) hS ?_
          · rintro w' ⟨q, q0, q1⟩; go_simp
          try simp only [Act.put]
          refine wpAnyH_done (by kernel_rfl) ?_ _
          try simp only [List.getElem_toArray, List.getElem_cons_succ, List.getElem_cons_zero]
          try simp only [List.setIfInBounds_toArray, List.set_cons_zero, List.set_cons_succ]
          gi_wp2_with fail
          exact FN.out
  case done =>
    rintro Df st W rfl ⟨m0, hd, kF, kB, va, n, vc, k0, ho, hn⟩ hDf hlt
    have c0 : W.cell? ⟨w.heap.size + 1, 0, none⟩ = some (.slice va n vc) := k0.cell 0
    have mP := loopOwn_put (B := W0.heap.size) (.deferred none) hlt hDf rfl
    have M1 := Lib.hid (m0.transOwn mP (by omega))
    have O1 := Lib.hid (ownsRow_mod ho mP (fun k hk s => by
      obtain ⟨cs, hc⟩ := ownsRow_type ho hk
      have := s.2 _ hc; cases this))
    clear mP m0 hd kF kB k0 ho hn
    gi_wp2_with fail
    refine ⟨by simp, .inl ⟨_, _, rfl, run_takeDeferred hDf, ?_⟩⟩
    refine ⟨_, results_tmp rfl _ _ _, ⟨va, n, vc, rfl, O1.out⟩, M1.out⟩
  case stop => rintro Dd c st W h; exact h.elim

/-- The places of the cells that are gone. -/
def goneL (l : List CellV) : List (Int × Int) := plsOf (fun i => (l[i]?.map CellV.gone).getD false) l.length
theorem gone_any (w : World) (S : Nat → Prop) (D : Nat) (l : List CellV) (h : DocS w S D l) (hlen : l.length ≤ 1099511627776) :
    Calls Tryd.prog 23 #[.pointer (some ⟨D, 0, none⟩)] w fun e w' => (∃ va n vc, e = .returned (.slice va n vc) ∧ w'.ownsRow w.heap.size 82 2 (.slice va n vc) n (flat spCs (goneL l))) ∧ Mod none_ w w' := by
  obtain ⟨v, MB, bl, hv, _, hl, _⟩ := h.ex
  subst hl
  have HG := Lib.hid (goneP_any w D MB v bl (fun i => ((cellsOf bl)[i]?.map CellV.gone).getD false) hv hlen (fun i c hc => by simp [hc]))
  clear h hv
  go_enter Tryd.func23, Tryd.ntmps23
  go_wp2_with fail
  refine HG.out.mono ?_
  rintro e w1 ⟨⟨va, n, vc, rfl, ho⟩, m1⟩
  have HO := Lib.hid ho
  clear ho
  go_wp2_with fail
  go_ret
  exact ⟨⟨va, n, vc, rfl, HO.out⟩, m1⟩
end Go.Proofs.YtlbkalbelefhmaaDoor

namespace Go.Proofs.YtlbkalbelefhmaaDoor
open Go.RowKit Go.Mine

def seenV (l : List CellV) (p : Int) : Value := if p < 0 ∨ (l.length : Int) < p then .tuple #[.int .i64 0, .int .i64 3] else .tuple #[.int .i64 (seenN l p.toNat : Int), .int .i64 0]
theorem seenN_le (l : List CellV) (p : Nat) : seenN l p ≤ p ∧ seenN l p ≤ l.length := by
  unfold seenN
  have := liveN_le (l.take p)
  rw [List.length_take] at this
  omega
theorem seenN_ge (c r : List CellV) (p : Nat) (h : c.length ≤ p) : seenN (c ++ r) p = liveN c + seenN r (p - c.length) := by
  unfold seenN
  rw [List.take_append, List.take_of_length_le h, liveN_append]
theorem seenN_lt (c r : List CellV) (p : Nat) (h : p ≤ c.length) : seenN (c ++ r) p = seenN c p := by
  unfold seenN
  rw [List.take_append_of_le_length h]

set_option maxHeartbeats 4000000 in
set_option maxRecDepth 1000000 in
theorem seen_any (w : World) (B D : Nat) (l : List CellV) (p : Int) (h : DocIs w B D l) (hlen : l.length ≤ 1099511627776) :
    Calls Tryd.prog 25 #[.pointer (some ⟨D, 0, none⟩), .int .i64 p] w fun e w' => e = .returned (seenV l p) ∧ Mod none_ w w' := by
  have HSZ := Lib.hid (size_any w B D l h hlen)
  have HDOC := Lib.hid h
  obtain ⟨R, hR⟩ : ∃ R, R = seenV l p := ⟨_, rfl⟩
  rw [← hR]
  have HR := Lib.hid hR
  clear hR h
  go_enter Tryd.func25, Tryd.ntmps25
  by_cases hi0 : p < 0
  · have HE := Lib.hid (show R = .tuple #[.int .i64 0, .int .i64 3] by rw [HR.out]; unfold seenV; rw [if_pos (.inl hi0)])
    have hd : decide (p < 0) = true := by simp; omega
    go_wp2_with fail
    go_ret2
    exact ⟨by rw [HE.out]; rfl, Mod.refl _ _⟩
  have hd0 : decide (p < 0) = false := by simp; omega
  go_wp2_with fail
  refine HSZ.out.mono ?_
  rintro e wA ⟨rfl, m1⟩
  have MA := Lib.hid m1
  clear m1 HSZ
  by_cases hi1 : (l.length : Int) < p
  · have HE := Lib.hid (show R = .tuple #[.int .i64 0, .int .i64 3] by rw [HR.out]; unfold seenV; rw [if_pos (.inr hi1)])
    have hd : decide ((l.length : Int) < p) = true := by simp; omega
    go_wp2_with fail
    go_ret2
    exact ⟨by rw [HE.out]; rfl, MA.out⟩
  have hd1 : decide ((l.length : Int) < p) = false := by simp; omega
  obtain ⟨p0, rfl⟩ : ∃ p0 : Nat, p = (p0 : Int) := ⟨p.toNat, by omega⟩
  have HE := Lib.hid (show R = .tuple #[.int .i64 (seenN l p0 : Int), .int .i64 0] by rw [HR.out]; unfold seenV; rw [if_neg (by omega)]; rfl)
  obtain ⟨⟨v, MB, bl, n, kd, hdb, hfl, _⟩, _⟩ := HDOC.out
  obtain ⟨va, vc, rfl⟩ : ∃ va vc, v = .slice va bl.length vc := by
    rcases ownsRow_blk hdb.1 with ⟨rfl, h0, _⟩ | ⟨g, c', _, rfl, _⟩
    · exact ⟨none, 0, by rw [h0]⟩
    · exact ⟨_, c', rfl⟩
  have hcap := hdb.cap
  unfold maxLen at hcap
  have hbn : bl.length ≤ 9223372036854775807 := by omega
  have cd : wA.cell? ⟨D, 0, none⟩ = some (.slice va bl.length vc) := by
    have := (kd.mod MA.out (fun e => e)).cell 0
    exact this
  obtain ⟨GP, hGP⟩ : ∃ GP, GP = seenN l p0 := ⟨_, rfl⟩
  have hGL : GP ≤ l.length := by rw [hGP]; exact (seenN_le l p0).2
  have hpl : p0 ≤ l.length := by omega
  have hd2 : decide (l.length < p0) = false := by simp; omega
  have H0 : rstBs bl 0 = l := by unfold rstBs; rw [List.drop_zero, hfl]
  have HS := Lib.hid (show 0 + seenN (rstBs bl 0) p0 = GP ∧ p0 ≤ (rstBs bl 0).length ∧ (rstBs bl 0).length ≤ l.length by rw [H0, hGP]; omega)
  rw [← hGP] at HE
  have HDB := Lib.hid hdb
  clear hcap hdb hfl kd hGP H0 HR hpl
  go_wp2_with fail
  go_loopg [1, 6, 26] bl.length (fun g s1 s6 s26 wx => ∃ k n' p' : Nat, g = bl.length - k ∧ s1 = .int .i64 p' ∧ s6 = .int .i64 n' ∧ s26 = .int .i64 k ∧ k ≤ bl.length ∧ Mod none_ w wx ∧ RowKit.Hid (n' + seenN (rstBs bl k) p' = GP ∧ p' ≤ (rstBs bl k).length ∧ (rstBs bl k).length ≤ l.length))
  case atStart => exact ⟨0, 0, p0, rfl, rfl, rfl, rfl, Nat.zero_le _, MA.out, HS⟩
  case round =>
    obtain ⟨k, n', p', rfl, rfl, rfl, rfl, hk, mx, hst⟩ := hrel
    have MX := Lib.hid mx
    by_cases hlk : k < bl.length
    · obtain ⟨x, hx⟩ : ∃ x, bl[k]? = some x := ⟨bl[k]'hlk, by simp⟩
      have hdx := HDB.out.grown mx
      obtain ⟨g, rfl, c0⟩ := hdx.at_ hx
      obtain ⟨⟨vb, kb, hrow, _⟩, _⟩ := hdx.2 x (List.mem_of_getElem? hx)
      obtain ⟨h1, h2, h3⟩ := hst.out
      rw [rstBs_step hx] at h1 h2 h3
      obtain ⟨q, c⟩ := x
      dsimp only at c0 kb hrow h1 h2 h3
      rw [List.length_append] at h2 h3
      have b0 : wr.cell? ⟨q, 0, none⟩ = some (.int .i64 (c.length : Int)) := by rw [kb.cell]; rfl
      have b1 : wr.cell? ⟨q, 1, none⟩ = some (.int .i64 (liveN c : Int)) := by rw [kb.cell]; rfl
      have b2 : wr.cell? ⟨q, 2, none⟩ = some vb := by rw [kb.cell]; rfl
      have hcl := liveN_le c
      by_cases hge : c.length ≤ p'
      · rw [seenN_ge _ _ _ hge] at h1
        have HS2 := Lib.hid (show (n' + liveN c) + seenN (rstBs bl (k + 1)) (p' - c.length) = GP ∧ p' - c.length ≤ (rstBs bl (k + 1)).length ∧ (rstBs bl (k + 1)).length ≤ l.length by omega)
        have hw1 : (n' : Int) + liveN c ≤ 1099511627776 := by omega
        have hw2 : (p' : Int) - c.length ≤ 1099511627776 := by omega
        have hdg : decide ((c.length : Int) ≤ (p' : Int)) = true := by simp; omega
        clear hdx hx mx kb hrow h1 h2 h3 hst
        go_wp2_with fail
        go_roundg (bl.length - (k + 1))
        case measure => omega
        case rel => exact ⟨k + 1, n' + liveN c, p' - c.length, rfl, by (congr 1; omega), by (congr 1), by go_num, by omega, MX.out, HS2⟩
      · rw [seenN_lt _ _ _ (by omega)] at h1
        have hdg : decide ((c.length : Int) ≤ (p' : Int)) = false := by simp; omega
        have hw1 : n' ≤ 1099511627776 := by omega
        have hw2 : c.length ≤ 1099511627776 := by omega
        have hpc : p' < c.length := by omega
        have HF := Lib.hid h1
        rcases ownsRow_blk hrow with ⟨rfl, hz, _⟩ | ⟨gc, capc, more, rfl, _, kg, hnc, hcm, _⟩
        · omega
        unfold maxLen at hcm
        have hpcap : p' ≤ capc := by omega
        have KG := Lib.hid kg
        clear hdx hx mx kb hrow h1 h2 h3 hst kg
        go_wp2_with fail
        go_loopg [6, 58] p' (fun g s6 s58 wx => ∃ j n2 : Nat, g = p' - j ∧ s6 = .int .i64 n2 ∧ s58 = .int .i64 j ∧ j ≤ p' ∧ Mod none_ wr wx ∧ RowKit.Hid (n2 = n' + seenN c j))
        case atStart => exact ⟨0, n', rfl, rfl, rfl, Nat.zero_le _, Mod.refl _ _, Lib.hid rfl⟩
        case round =>
          obtain ⟨j, n2, rfl, rfl, rfl, hj, my, hst2⟩ := hrel
          by_cases hjp : j < p'
          · obtain ⟨y, hy⟩ : ∃ y, c[j]? = some y := ⟨c[j]'(by omega), by simp⟩
            have kgx := KG.out.mod my (fun e => e)
            have q0 := Blk.elem CellV.len kgx j 0 y hy (by decide)
            have q1 := Blk.elem CellV.len kgx j 1 y hy (by decide)
            have q2 := Blk.elem CellV.len kgx j 2 y hy (by decide)
            have q3 := Blk.elem CellV.len kgx j 3 y hy (by decide)
            have q4 := Blk.elem CellV.len kgx j 4 y hy (by decide)
            simp only [CellV.cs, Nat.add_zero, List.getElem?_cons_zero, List.getElem?_cons_succ] at q0 q1 q2 q3 q4
            have hgl := kgx.lt
            have MY := Lib.hid my
            have hs := seenN_succ hy
            have hsl := (seenN_le c j).1
            have e2 := hst2.out
            have hw3 : n2 ≤ 2199023255552 := by omega
            have HS3 := Lib.hid hs
            have HE2 := Lib.hid e2
            clear hst2 hy my kgx hs hsl e2
            cases hgone : y.gone
            · rw [hgone] at q4 HS3
              go_wp2_with fail
              all_goals go_roundg (p' - (j + 1))
              all_goals first
                | omega
                | exact ⟨j + 1, n2 + 1, rfl, by go_num, by go_num, by omega, MY.out.alloc _, Lib.hid (by rw [HS3.out, HE2.out]; simp; omega)⟩
            · rw [hgone] at q4 HS3
              go_wp2_with fail
              all_goals go_roundg (p' - (j + 1))
              all_goals first
                | omega
                | exact ⟨j + 1, n2, rfl, rfl, by go_num, by omega, MY.out.alloc _, Lib.hid (by rw [HS3.out, HE2.out]; simp)⟩
          · obtain rfl : j = p' := by omega
            have hfin := hst2.out
            rw [HF.out] at hfin
            have MZ := Lib.hid (MX.out.trans my)
            subst hfin
            clear hst2 my
            go_wp2_with fail
            all_goals go_ret2
            all_goals exact ⟨by rw [HE.out]; rfl, MZ.out⟩
    · obtain rfl : k = bl.length := by omega
      have hfin : n' = GP := by
        obtain ⟨h1, h2, _⟩ := hst.out
        have hr0 : rstBs bl bl.length = [] := by unfold rstBs; rw [List.drop_length]; rfl
        rw [hr0] at h1 h2
        have : seenN [] p' = 0 := by unfold seenN; simp [liveN]
        omega
      subst hfin
      clear hst mx
      go_wp2_with fail
      all_goals go_ret2
      all_goals exact ⟨by rw [HE.out]; rfl, MX.out⟩

end Go.Proofs.YtlbkalbelefhmaaDoor

namespace Go.Proofs.YtlbkalbelefhmaaDoor
open Go.RowKit Go.Mine

def seenBad (l : List CellV) (i : Int) : Bool := decide (i < 0) || decide ((l.length : Int) < i)
def seenM (l : List CellV) (i : Int) : Int := if seenBad l i then 0 else seenN l i.toNat
theorem seenV_bad {l : List CellV} {i : Int} (h : seenBad l i = true) : seenV l i = .tuple #[.int .i64 0, .int .i64 3] := by
  unfold seenV seenBad at *; rw [if_pos (by simpa using h)]
theorem seenV_ok {l : List CellV} {i : Int} (h : seenBad l i = false) : seenV l i = .tuple #[.int .i64 (seenM l i), .int .i64 0] := by
  have h1 : ¬ (i < 0 ∨ (l.length : Int) < i) := by unfold seenBad at h; simp at h; omega
  unfold seenV seenM
  rw [if_neg h1, h]
  simp

/-- What asks answers, asked of Seen. -/
def asksS (l : List CellV) (i j : Int) : Value := if seenBad l i || seenBad l j then .tuple #[.agg #[.int .i64 0, .int .i64 0], .int .i64 3] else .tuple #[.agg #[.int .i64 (seenM l i), .int .i64 (seenM l j)], .int .i64 0]

set_option maxHeartbeats 4000000 in
set_option maxRecDepth 1000000 in
theorem asksS_any (w : World) (B D : Nat) (l : List CellV) (i j : Int) (h : DocIs w B D l) (hlen : l.length ≤ 1099511627776) :
    Calls Tryd.prog 61 #[.pointer (some ⟨D, 0, none⟩), .func (.func 25) #[] #[], .agg #[.int .i64 i, .int .i64 j]] w fun e w' => e = .returned (asksS l i j) ∧ Mod none_ w w' := by
  obtain ⟨W0, hW0⟩ : ∃ W0, ((w.alloc (.cells #[.int .i64 i, .int .i64 j] 24)).alloc (.cells #[.int .i64 0, .int .i64 0] 24)).alloc (.cells #[.int .i64 0, .int .i64 0] 24) = W0 := ⟨_, rfl⟩
  have m0 : Mod none_ w W0 := by rw [← hW0]; exact (((Mod.refl none_ w).alloc _).alloc _).alloc _
  have k0 : Blk W0 w.heap.size [.int .i64 i, .int .i64 j] 24 := by
    rw [← hW0]
    exact ((Blk.new (w := w) (cs := [.int .i64 i, .int .i64 j]) (t := 24)).mod ((Mod.refl none_ _).alloc _) (fun e => e)).mod ((Mod.refl none_ _).alloc _) (fun e => e)
  have k1 : Blk W0 (w.heap.size + 1) [.int .i64 0, .int .i64 0] 24 := by
    have := Blk.new (w := w.alloc (.cells #[.int .i64 i, .int .i64 j] 24)) (cs := [.int .i64 0, .int .i64 0]) (t := 24)
    rw [World.size_alloc] at this
    rw [← hW0]
    exact this.mod ((Mod.refl none_ _).alloc _) (fun e => e)
  have k2 : Blk W0 (w.heap.size + 1 + 1) [.int .i64 0, .int .i64 0] 24 := by
    have := Blk.new (w := (w.alloc (.cells #[.int .i64 i, .int .i64 j] 24)).alloc (.cells #[.int .i64 0, .int .i64 0] 24)) (cs := [.int .i64 0, .int .i64 0]) (t := 24)
    rw [World.size_alloc, World.size_alloc] at this
    rw [← hW0]
    exact this
  obtain ⟨X, hX⟩ : ∃ X, X = w.heap.size := ⟨_, rfl⟩
  rw [← hX] at k0 k1 k2
  have M0 := Lib.hid m0
  have K0 := Lib.hid k0
  have K1 := Lib.hid k1
  have K2 := Lib.hid k2
  have HD := Lib.hid h
  obtain ⟨R, hR⟩ : ∃ R, R = asksS l i j := ⟨_, rfl⟩
  rw [← hR]
  have HR := Lib.hid hR
  clear hR h m0 k0 k1 k2
  go_enter Tryd.func61, Tryd.ntmps61
  go_upto_region 2 with fail
  clear hW0
  rw [← hX]
  have HX := Lib.hid hX
  clear hX
  go_wp2_with fail
  go_loopg [12] 2 (fun g s12 wx => ∃ k : Nat, g = 2 - k ∧ s12 = .int .i64 k ∧ k ≤ 2 ∧ Mod (one (X + 1 + 1)) W0 wx ∧ Blk wx (X + 1 + 1) (twoAt k 0 0 (seenM l i) (seenM l j)) 24 ∧ RowKit.Hid ((1 ≤ k → seenBad l i = false) ∧ (2 ≤ k → seenBad l j = false)))
  case atStart => exact ⟨0, rfl, rfl, by omega, Mod.refl _ _, K2.out, Lib.hid ⟨fun h => absurd h (by omega), fun h => absurd h (by omega)⟩⟩
  case round =>
    obtain ⟨k, rfl, rfl, hk, mx, kx, hst⟩ := hrel
    match k, hk, kx, hst with
    | 0, _, kx, hst =>
      have kx0 : Blk wr (X + 1 + 1) [.int .i64 0, .int .i64 0] 24 := kx
      have ka := K0.out.mod mx (fun e => by have e' : X = X + 1 + 1 := e; omega)
      have kb := K1.out.mod mx (fun e => by have e' : X + 1 = X + 1 + 1 := e; omega)
      have c0 : wr.cell? ⟨X, 0, none⟩ = some (.int .i64 i) := by rw [ka.cell]; rfl
      have c1 : wr.cell? ⟨X, 1, none⟩ = some (.int .i64 j) := by rw [ka.cell]; rfl
      have KX := Lib.hid kx0
      have KB := Lib.hid kb
      have MX := Lib.hid mx
      have MW := Lib.hid (M0.out.transIn mx (fun b hb e => by have e' : b = X + 1 + 1 := e; have := HX.out; omega))
      have HG := seen_any wr B D l i (HD.out.grown MW.out) hlen
      cases hb : seenBad l i
      · rw [seenV_ok hb] at HG
        have HG := Lib.hid HG
        have HST := Lib.hid (show (1 ≤ 1 → seenBad l i = false) ∧ (2 ≤ 1 → seenBad l j = false) from ⟨fun _ => hb, fun hh => absurd hh (by omega)⟩)
        clear kx kx0 mx ka kb hst hb
        go_wp2_with fail
        refine HG.out.mono ?_
        rintro e w4 ⟨rfl, m4⟩
        have k4 := KX.out.mod m4 (fun e => e)
        have q0 := k4.cell 0
        have q1 := k4.cell 1
        simp only [List.getElem?_cons_zero, List.getElem?_cons_succ] at q0 q1
        have r0 := k4.frozen 0
        have r1 := k4.frozen 1
        have M4 := Lib.hid (MX.out.trans (m4.mono (T := one (X + 1 + 1)) (fun _ _ e => e.elim)))
        have K4 := Lib.hid k4
        clear m4 k4
        go_wp2_with fail
        go_roundg 1
        all_goals first
          | omega
          | exact ⟨1, rfl, by go_num, by omega, M4.out.setCell ⟨X + 1 + 1, 0, none⟩ (fun _ => rfl) _, K4.out.set 0 (.int .i64 (seenM l i)), HST⟩
      · rw [seenV_bad hb] at HG
        have HG := Lib.hid HG
        have HE := Lib.hid (show R = .tuple #[.agg #[.int .i64 0, .int .i64 0], .int .i64 3] by rw [HR.out]; unfold asksS; rw [hb]; simp)
        clear kx kx0 mx ka kb hst hb
        go_wp2_with fail
        refine HG.out.mono ?_
        rintro e w4 ⟨rfl, m4⟩
        have k4 := KB.out.mod m4 (fun e => e)
        have q0 := k4.cell 0
        have q1 := k4.cell 1
        simp only [List.getElem?_cons_zero, List.getElem?_cons_succ] at q0 q1
        have r0 := k4.frozen 0
        have r1 := k4.frozen 1
        have KF := Lib.hid ((k4.set 0 (.int .i64 0)).set 1 (.int .i64 0))
        have MF := Lib.hid ((((MW.out.trans m4).setCell ⟨X + 1, 0, none⟩ (fun h => absurd h (by have := HX.out; simp; omega)) (.int .i64 0))).setCell ⟨X + 1, 1, none⟩ (fun h => absurd h (by have := HX.out; simp; omega)) (.int .i64 0))
        clear m4 k4
        go_wp2_with fail
        exact bodyPost_ret (results_prt rfl _ _ (X + 1) [.int .i64 0, .int .i64 0] rfl rfl (blk_range KF.out)) rfl ⟨by rw [HE.out]; rfl, MF.out⟩
    | 1, _, kx, hst =>
      have kx0 : Blk wr (X + 1 + 1) [.int .i64 (seenM l i), .int .i64 0] 24 := kx
      have ka := K0.out.mod mx (fun e => by have e' : X = X + 1 + 1 := e; omega)
      have kb := K1.out.mod mx (fun e => by have e' : X + 1 = X + 1 + 1 := e; omega)
      have c0 : wr.cell? ⟨X, 0, none⟩ = some (.int .i64 i) := by rw [ka.cell]; rfl
      have c1 : wr.cell? ⟨X, 1, none⟩ = some (.int .i64 j) := by rw [ka.cell]; rfl
      have KX := Lib.hid kx0
      have KB := Lib.hid kb
      have MX := Lib.hid mx
      have MW := Lib.hid (M0.out.transIn mx (fun b hb e => by have e' : b = X + 1 + 1 := e; have := HX.out; omega))
      have HG := seen_any wr B D l j (HD.out.grown MW.out) hlen
      cases hb : seenBad l j
      · rw [seenV_ok hb] at HG
        have HG := Lib.hid HG
        have HST := Lib.hid (show (1 ≤ 2 → seenBad l i = false) ∧ (2 ≤ 2 → seenBad l j = false) from ⟨fun _ => hst.out.1 (by omega), fun hh => hb⟩)
        clear kx kx0 mx ka kb hst hb
        go_wp2_with fail
        refine HG.out.mono ?_
        rintro e w4 ⟨rfl, m4⟩
        have k4 := KX.out.mod m4 (fun e => e)
        have q0 := k4.cell 0
        have q1 := k4.cell 1
        simp only [List.getElem?_cons_zero, List.getElem?_cons_succ] at q0 q1
        have r0 := k4.frozen 0
        have r1 := k4.frozen 1
        have M4 := Lib.hid (MX.out.trans (m4.mono (T := one (X + 1 + 1)) (fun _ _ e => e.elim)))
        have K4 := Lib.hid k4
        clear m4 k4
        go_wp2_with fail
        go_roundg 0
        all_goals first
          | omega
          | exact ⟨2, rfl, by go_num, by omega, M4.out.setCell ⟨X + 1 + 1, 1, none⟩ (fun _ => rfl) _, K4.out.set 1 (.int .i64 (seenM l j)), HST⟩
      · rw [seenV_bad hb] at HG
        have HG := Lib.hid HG
        have HE := Lib.hid (show R = .tuple #[.agg #[.int .i64 0, .int .i64 0], .int .i64 3] by rw [HR.out]; unfold asksS; rw [hb]; simp)
        clear kx kx0 mx ka kb hst hb
        go_wp2_with fail
        refine HG.out.mono ?_
        rintro e w4 ⟨rfl, m4⟩
        have k4 := KB.out.mod m4 (fun e => e)
        have q0 := k4.cell 0
        have q1 := k4.cell 1
        simp only [List.getElem?_cons_zero, List.getElem?_cons_succ] at q0 q1
        have r0 := k4.frozen 0
        have r1 := k4.frozen 1
        have KF := Lib.hid ((k4.set 0 (.int .i64 0)).set 1 (.int .i64 0))
        have MF := Lib.hid ((((MW.out.trans m4).setCell ⟨X + 1, 0, none⟩ (fun h => absurd h (by have := HX.out; simp; omega)) (.int .i64 0))).setCell ⟨X + 1, 1, none⟩ (fun h => absurd h (by have := HX.out; simp; omega)) (.int .i64 0))
        clear m4 k4
        go_wp2_with fail
        exact bodyPost_ret (results_prt rfl _ _ (X + 1) [.int .i64 0, .int .i64 0] rfl rfl (blk_range KF.out)) rfl ⟨by rw [HE.out]; rfl, MF.out⟩
    | 2, _, kx, hst =>
      have kx0 : Blk wr (X + 1 + 1) [.int .i64 (seenM l i), .int .i64 (seenM l j)] 24 := kx
      have kb := K1.out.mod mx (fun e => by have e' : X + 1 = X + 1 + 1 := e; omega)
      have MW := Lib.hid (M0.out.transIn mx (fun b hb e => by have e' : b = X + 1 + 1 := e; have := HX.out; omega))
      have HE := Lib.hid (show R = .tuple #[.agg #[.int .i64 (seenM l i), .int .i64 (seenM l j)], .int .i64 0] by
        rw [HR.out]; unfold asksS; rw [hst.out.1 (by omega), hst.out.2 (by omega)]; rfl)
      have q0 := kx0.cell 0
      have q1 := kx0.cell 1
      have p0 := kb.cell 0
      have p1 := kb.cell 1
      simp only [List.getElem?_cons_zero, List.getElem?_cons_succ] at q0 q1 p0 p1
      have r0 := kb.frozen 0
      have r1 := kb.frozen 1
      have KF := Lib.hid ((kb.set 0 (.int .i64 (seenM l i))).set 1 (.int .i64 (seenM l j)))
      have MF := Lib.hid ((((MW.out).setCell ⟨X + 1, 0, none⟩ (fun h => absurd h (by have := HX.out; simp; omega)) (.int .i64 (seenM l i)))).setCell ⟨X + 1, 1, none⟩ (fun h => absurd h (by have := HX.out; simp; omega)) (.int .i64 (seenM l j)))
      clear kx kx0 mx kb hst
      go_wp2_with fail
      exact bodyPost_ret (results_prt rfl _ _ (X + 1) [.int .i64 (seenM l i), .int .i64 (seenM l j)] rfl rfl (blk_range KF.out)) rfl ⟨by rw [HE.out]; rfl, MF.out⟩


/-- What Shown answers. -/
def shownV (l : List CellV) (s a t : Int) : Value := if markOk s a t l.length then .tuple #[.int .i64 (seenM l a), .int .i64 (seenM l t), .int .i64 0] else .tuple #[.int .i64 0, .int .i64 0, .int .i64 1]

set_option maxHeartbeats 4000000 in
set_option maxRecDepth 1000000 in
theorem shown_any (w : World) (B D : Nat) (l : List CellV) (s a t : Int) (h : DocIs w B D l) (hlen : l.length ≤ 1099511627776) :
    Calls Tryd.prog 36 #[.pointer (some ⟨D, 0, none⟩), .agg #[.int .i64 s, .int .i64 a, .int .i64 t]] w fun e w' => e = .returned (shownV l s a t) ∧ Mod none_ w w' := by
  obtain ⟨W0, hW0⟩ : ∃ W0, w.alloc (.cells #[.int .i64 s, .int .i64 a, .int .i64 t] 66) = W0 := ⟨_, rfl⟩
  have m0 : Mod none_ w W0 := by rw [← hW0]; exact (Mod.refl none_ w).alloc _
  have k0 : Blk W0 w.heap.size [.int .i64 s, .int .i64 a, .int .i64 t] 66 := by
    rw [← hW0]
    exact Blk.new (w := w) (cs := [.int .i64 s, .int .i64 a, .int .i64 t]) (t := 66)
  have c0 := k0.cell 0
  have c1 := k0.cell 1
  have c2 := k0.cell 2
  simp only [List.getElem?_cons_zero, List.getElem?_cons_succ] at c0 c1 c2
  have M0 := Lib.hid m0
  have K0 := Lib.hid k0
  have hD := h.grown m0
  have HD := Lib.hid hD
  have HM := Lib.hid (cmay_any s a t l.length)
  obtain ⟨R, hR⟩ : ∃ R, R = shownV l s a t := ⟨_, rfl⟩
  rw [← hR]
  have HR := Lib.hid hR
  have hmk : markOk s a t l.length = true → seenBad l a = false ∧ seenBad l t = false := fun hm => by
    simp [markOk, inB] at hm
    unfold seenBad
    constructor <;> simp <;> omega
  generalize hmo : markOk s a t l.length = mo at HM hmk
  have HMO := Lib.hid hmo
  clear hR h m0 k0 hD hmo
  have HMK := Lib.hid hmk
  clear hmk
  have hsz := HD.out
  go_enter Tryd.func36, Tryd.ntmps36
  go_upto_region 1 with fail
  clear hW0
  go_region_held3 (fun w' => Mod none_ W0 w' ∧ w'.cell? ⟨w.heap.size, 0, none⟩ = some (.int .i64 s) ∧ w'.cell? ⟨w.heap.size, 1, none⟩ = some (.int .i64 a) ∧ w'.cell? ⟨w.heap.size, 2, none⟩ = some (.int .i64 t))
    (first
      | exact ⟨Mod.drew (Mod.refl none_ W0), c0, c1, c2⟩
      | assumption
      | (obtain ⟨q, q0, q1, q2⟩ := ‹Mod none_ W0 _ ∧ _›; exact ⟨q.trans m1, m1.cell (fun e => e) q0, m1.cell (fun e => e) q1, m1.cell (fun e => e) q2⟩))
    (first
      | (go_at_call 18; refine (size_any _ B D l (hsz.grown (And.left (by assumption))) hlen).mono ?_; rintro e w1 ⟨rfl, m1⟩)
      | (go_at_call 63; refine (HM.out _).mono ?_; rintro e w1 ⟨rfl, m1⟩))
  rename_i hHeld
  have M1 := Lib.hid (M0.out.trans (And.left hHeld))
  have k1 := K0.out.mod (And.left hHeld) (fun e => e)
  have D1 := Lib.hid (HD.out.grown (And.left hHeld))
  clear hHeld c0 c1 c2 hsz m1
  cases mo
  · have HE := Lib.hid (show R = .tuple #[.int .i64 0, .int .i64 0, .int .i64 1] by rw [HR.out]; unfold shownV; rw [HMO.out]; rfl)
    clear k1
    go_wp2_with fail
    exact bodyPost_ret (results_tmp3 rfl _ _ _) rfl ⟨by rw [HE.out]; rfl, M1.out⟩
  · obtain ⟨hb1, hb2⟩ := HMK.out rfl
    have HE := Lib.hid (show R = .tuple #[.int .i64 (seenM l a), .int .i64 (seenM l t), .int .i64 0] by rw [HR.out]; unfold shownV; rw [HMO.out]; rfl)
    have hav : asksS l a t = .tuple #[.agg #[.int .i64 (seenM l a), .int .i64 (seenM l t)], .int .i64 0] := by unfold asksS; rw [hb1, hb2]; rfl
    have c0 := k1.cell 0
    have c1 := k1.cell 1
    have c2 := k1.cell 2
    simp only [List.getElem?_cons_zero, List.getElem?_cons_succ] at c0 c1 c2
    generalize seenM l a = xa at hav HE
    generalize seenM l t = xt at hav HE
    have HAV := Lib.hid hav
    clear k1 hb1 hb2 hav
    go_wp2_with fail
    refine (places_any s a t _).mono ?_
    rintro e w2 ⟨rfl, m2⟩
    have M2 := Lib.hid (M1.out.trans m2)
    have HA := asksS_any w2 B D l a t (D1.out.grown m2) hlen
    rw [HAV.out] at HA
    have HA := Lib.hid HA
    clear m2 c0 c1 c2
    go_wp2_with fail
    refine HA.out.mono ?_
    rintro e w3 ⟨rfl, m3⟩
    have M3 := Lib.hid ((M2.out.trans m3).alloc (.cells #[.int .i64 xa, .int .i64 xt] 24))
    have kA := Blk.new (w := w3) (cs := [.int .i64 xa, .int .i64 xt]) (t := 24)
    clear m3
    go_upto_region 4 with fail
    generalize w3.alloc (.cells #[.int .i64 xa, .int .i64 xt] 24) = wA at kA M3 ⊢
    have c0 := kA.cell 0
    have c1 := kA.cell 1
    simp only [List.getElem?_cons_zero, List.getElem?_cons_succ] at c0 c1
    clear kA
    go_quiet (fail)
    have M4 := Lib.hid (M3.out.drewN nq)
    generalize wA.drewN nq = wB at M4 ⊢
    go_wp2_with fail
    exact bodyPost_ret (results_tmp3 rfl _ _ _) rfl ⟨by rw [HE.out]; rfl, M4.out⟩
end Go.Proofs.YtlbkalbelefhmaaDoor

namespace Go.Proofs.YtlbkalbelefhmaaDoor
open Go.RowKit Go.Mine
open Classical

/-- The end of the last span of a list that begins behind last. -/
def lastE : Int → List (Int × Int) → Int
  | last, [] => last
  | _, x :: r => lastE (x.1 + x.2) r
theorem spansFrom_snoc : ∀ (L : List (Int × Int)) (last : Int) (x : Int × Int), spansFrom last (L ++ [x]) = (spansFrom last L && decide (0 ≤ x.1 ∧ x.1 ≤ 20000 ∧ 1 ≤ x.2 ∧ x.2 ≤ 20000 - x.1 ∧ lastE last L < x.1))
  | [], last, x => by
    simp only [List.nil_append, spansFrom, lastE, Bool.and_true, Bool.true_and]
    congr 1
  | y :: r, last, x => by
    rw [List.cons_append, spansFrom, spansFrom_snoc r, spansFrom, lastE, Bool.and_assoc]
theorem lastE_snoc : ∀ (L : List (Int × Int)) (last : Int) (x : Int × Int), lastE last (L ++ [x]) = x.1 + x.2
  | [], _, _ => rfl
  | y :: r, _, x => by rw [List.cons_append, lastE, lastE_snoc r]
theorem hasPl_snoc (L : List (Int × Int)) (x : Int × Int) (i : Nat) : hasPl (L ++ [x]) i = (hasPl L i || decide (x.1 ≤ (i : Int) ∧ (i : Int) < x.1 + x.2)) := by
  unfold hasPl; rw [List.any_append]; simp
theorem addPl_one (p : Nat) : addPl [] p = [((p : Int), 1)] := rfl
theorem addPl_snoc (L : List (Int × Int)) (f m : Int) (p : Nat) : addPl (L ++ [(f, m)]) p = if f + m = p then L ++ [(f, m + 1)] else L ++ [(f, m)] ++ [((p : Int), 1)] := by
  unfold addPl
  simp
/-- The places that are marked may be told, and are just those. -/
theorem plsOf_ok (P : Nat → Bool) : ∀ n, n ≤ 20000 → spansOk (plsOf P n) = true ∧ ∀ i, hasPl (plsOf P n) i = (decide (i < n) && P i)
  | 0, _ => ⟨rfl, fun i => by simp [plsOf, hasPl]⟩
  | n + 1, hn => by
    obtain ⟨h1, h2⟩ := plsOf_ok P n (by omega)
    have h3 := plsOf_in P n
    rw [plsOf]
    cases hP : P n
    · refine ⟨by simpa using h1, fun i => ?_⟩
      simp only [Bool.false_eq_true, if_false]
      rw [h2]
      by_cases hi : i = n
      · subst hi; simp [hP]
      · have : (i < n) = (i < n + 1) := propext ⟨fun h => by omega, fun h => by omega⟩
        simp only [this]
    · simp only [if_true]
      have key : ∀ i, (decide (i < n + 1) && P i) = ((decide (i < n) && P i) || decide (i = n)) := by
        intro i
        by_cases hi : i = n
        · subst hi; simp [hP]
        · have : (i < n) = (i < n + 1) := propext ⟨fun h => by omega, fun h => by omega⟩
          simp only [this, hi, decide_false, Bool.or_false]
      rcases List.eq_nil_or_concat (plsOf P n) with hL | ⟨L, x, hL⟩
      · rw [hL] at h2 ⊢
        rw [addPl_one]
        refine ⟨by simp [spansOk, spansFrom]; omega, fun i => ?_⟩
        rw [key, ← h2]
        have : ((n : Int) ≤ (i : Int) ∧ (i : Int) < (n : Int) + 1) = (i = n) := propext ⟨fun h => by omega, fun h => by omega⟩
        simp only [hasPl, List.any_cons, List.any_nil, Bool.or_false, Bool.false_or, this]
      · obtain ⟨f, m⟩ := x
        rw [List.concat_eq_append] at hL
        rw [hL] at h1 h2 h3 ⊢
        have hx := h3 (f, m) (by simp)
        simp only at hx
        rw [addPl_snoc]
        unfold spansOk at h1 ⊢
        rw [spansFrom_snoc] at h1
        simp only [Bool.and_eq_true, decide_eq_true_eq] at h1
        split
        · rename_i he
          refine ⟨?_, fun i => ?_⟩
          · rw [spansFrom_snoc]
            simp only [Bool.and_eq_true, decide_eq_true_eq]
            exact ⟨h1.1, by omega⟩
          · rw [key, ← h2, hasPl_snoc, hasPl_snoc, Bool.or_assoc, ← Bool.decide_or]
            congr 1
            exact decide_eq_decide.2 ⟨fun h => by omega, fun h => by omega⟩
        · rename_i he
          refine ⟨?_, fun i => ?_⟩
          · rw [spansFrom_snoc, spansFrom_snoc, lastE_snoc]
            simp only [Bool.and_eq_true, decide_eq_true_eq]
            exact ⟨⟨h1.1, by omega⟩, by omega⟩
          · rw [key, ← h2, hasPl_snoc]
            congr 1
            exact decide_eq_decide.2 ⟨fun h => by omega, fun h => by omega⟩
theorem goneL_ok {l : List CellV} (h : l.length ≤ 20000) : spansOk (goneL l) = true := (plsOf_ok _ _ h).1
theorem goneL_has {l : List CellV} (h : l.length ≤ 20000) (i : Nat) : hasPl (goneL l) i = (l[i]?.map CellV.gone).getD false := by
  unfold goneL
  rw [(plsOf_ok _ _ h).2]
  by_cases hi : i < l.length
  · simp [hi]
  · rw [List.getElem?_eq_none (by omega)]; simp
theorem goneL_end (l : List CellV) : endS (goneL l) ≤ l.length := by
  unfold endS
  cases h : (goneL l).getLast? with
  | none => simp
  | some x =>
    have := plsOf_in _ _ x (List.mem_of_getLast? h)
    simp only
    omega
/-- The cells that live. -/
def lives (l : List CellV) : List CellV := l.filter fun c => !c.gone
theorem drop_gone (sp : List (Int × Int)) : ∀ (c : List CellV) (p : Nat), (∀ i x, c[i]? = some x → hasPl sp (p + i) = x.gone) → dropFrom sp p c = lives c ∧ hitFrom sp p c = false
  | [], _, _ => ⟨rfl, rfl⟩
  | x :: r, p, h => by
    have h0 := h 0 x rfl
    rw [Nat.add_zero] at h0
    obtain ⟨h1, h2⟩ := drop_gone sp r (p + 1) (fun i y hy => by have := h (i + 1) y (by simpa using hy); rw [← this]; congr 1; omega)
    refine ⟨?_, ?_⟩
    · rw [dropFrom, h0, h1]
      unfold lives
      rw [List.filter_cons]
      cases x.gone <;> rfl
    · rw [hitFrom, h0, h2]
      cases x.gone <;> rfl
theorem goneL_drop {l : List CellV} (h : l.length ≤ 20000) : dropE (goneL l) l = 0 ∧ dropL (goneL l) l = lives l := by
  obtain ⟨h1, h2⟩ := drop_gone (goneL l) l 0 (fun i x hx => by rw [Nat.zero_add, goneL_has h, hx]; rfl)
  have h3 := goneL_end l
  have hE : dropE (goneL l) l = 0 := by
    unfold dropE
    rw [if_pos (goneL_ok h), if_neg (by omega), h2]
    rfl
  exact ⟨hE, by unfold dropL; rw [if_pos hE, h1]⟩
theorem goneL_cnt {l : List CellV} (h : l.length ≤ 20000) : ∀ p : Nat, p ≤ l.length → cntTo (goneL l) p + seenN l p = p
  | 0, _ => by simp [cntTo, seenN, liveN]
  | p + 1, hp => by
    have ih := goneL_cnt h p (by omega)
    have hx : l[p]? = some l[p] := by simp
    rw [seenN_succ hx, cntTo, goneL_has h, hx]
    simp only [Option.map_some, Option.getD_some]
    by_cases hgn : l[p].gone = true <;> simp [hgn] <;> omega
theorem goneL_ahead {l : List CellV} (h : l.length ≤ 20000) {p : Int} (h0 : 0 ≤ p) (hp : p ≤ l.length) : p - aheadOf (goneL l) p = seenN l p.toNat := by
  obtain ⟨n, rfl⟩ : ∃ n : Nat, p = n := ⟨p.toNat, by omega⟩
  have h1 := cnt_ahead _ (goneL_ok h) n
  have h2 := goneL_cnt h n (by omega)
  rw [← h1, Int.toNat_natCast]
  omega
theorem lives_len (l : List CellV) : (lives l).length = liveN l := rfl
theorem lives_seen (l : List CellV) {q : Nat} (h : q ≤ liveN l) : seenN (lives l) q = q := by
  unfold seenN liveN
  rw [List.filter_eq_self.2 (fun c hc => ?_), List.length_take, lives_len]
  · omega
  · exact (List.mem_filter.1 (List.mem_of_mem_take hc)).2
theorem seen_gapPos : ∀ (l : List CellV) (i : Nat), i < liveN l → seenN l (gapPos l i) = i
  | [], i, h => by simp [liveN] at h
  | c :: t, i, h => by
    rw [liveN_cons] at h
    rw [gapPos]
    cases hg : c.gone
    · rw [hg] at h
      simp only [Bool.false_eq_true, if_false] at h ⊢
      by_cases h0 : i = 0
      · rw [if_pos h0, h0]; simp [seenN, liveN]
      · rw [if_neg h0, Nat.add_comm]
        unfold seenN
        rw [List.take_succ_cons, liveN_cons, hg]
        have := seen_gapPos t (i - 1) (by omega)
        unfold seenN at this
        rw [this]
        simp; omega
    · rw [hg] at h
      simp only [if_true] at h ⊢
      rw [Nat.add_comm]
      unfold seenN
      rw [List.take_succ_cons, liveN_cons, hg]
      have := seen_gapPos t i (by omega)
      unfold seenN at this
      rw [this]
      simp
theorem seen_gapN {l : List CellV} {i : Int} (h : gapBad l i = false) : (seenN l (gapN l i).toNat : Int) = i := by
  have hb := h
  simp [gapBad] at h
  unfold gapN
  rw [hb]
  simp only [Bool.false_eq_true, if_false]
  split
  · rename_i he
    rw [Int.toNat_natCast, seenN_all, he]
  · rw [Int.toNat_natCast, seen_gapPos l _ (by omega)]
    omega
/-- What is put is shown there. -/
theorem shown_put {l : List CellV} {s i j : Int} (hl : l.length ≤ 20000) (hs : inB s 1 16 = true) (hi : gapBad l i = false) (hj : gapBad l j = false) : shownV l s (gapN l i) (gapN l j) = .tuple #[.int .i64 i, .int .i64 j, .int .i64 0] := by
  have h1 := gapN_le hi
  have h2 := gapN_le hj
  have hm : markOk s (gapN l i) (gapN l j) l.length = true := by
    unfold markOk
    rw [hs]
    simp [inB]
    omega
  have b1 : seenBad l (gapN l i) = false := by unfold seenBad; simp; omega
  have b2 : seenBad l (gapN l j) = false := by unfold seenBad; simp; omega
  unfold shownV seenM
  rw [hm, b1, b2]
  simp only [if_true, Bool.false_eq_true, if_false, seen_gapN hi, seen_gapN hj]
theorem drop_put {l : List CellV} {s i j : Int} (hl : l.length ≤ 20000) (hs : inB s 1 16 = true) (hi : gapBad l i = false) (hj : gapBad l j = false) : dropV s (gapN l i) (gapN l j) (goneL l) = .tuple #[.agg #[.int .i64 s, .int .i64 i, .int .i64 j], .int .i64 0] := by
  have h1 := gapN_le hi
  have h2 := gapN_le hj
  have hm : markOk s (gapN l i) (gapN l j) 20000 = true := by
    unfold markOk
    rw [hs]
    simp [inB]
    omega
  unfold dropV
  rw [hm, goneL_ok hl, goneL_ahead hl h1.1 h1.2, goneL_ahead hl h2.1 h2.2, seen_gapN hi, seen_gapN hj]
  rfl
theorem shown_drop {l : List CellV} {s i j : Int} (hl : l.length ≤ 20000) (hs : inB s 1 16 = true) (hi : gapBad l i = false) (hj : gapBad l j = false) : shownV (lives l) s i j = .tuple #[.int .i64 i, .int .i64 j, .int .i64 0] := by
  simp [gapBad] at hi hj
  have hle := liveN_le l
  have hm : markOk s i j (lives l).length = true := by
    rw [lives_len]
    unfold markOk
    rw [hs]
    simp [inB]
    omega
  have b1 : seenBad (lives l) i = false := by unfold seenBad; rw [lives_len]; simp; omega
  have b2 : seenBad (lives l) j = false := by unfold seenBad; rw [lives_len]; simp; omega
  unfold shownV seenM
  rw [hm, b1, b2]
  simp only [if_true, Bool.false_eq_true, if_false]
  rw [lives_seen l (by omega), lives_seen l (by omega), Int.toNat_of_nonneg hi.1, Int.toNat_of_nonneg hj.1]
theorem shown_far (l : List CellV) (s : Int) : shownV l s (((l.length : Nat) : Int) + 1) 0 = .tuple #[.int .i64 0, .int .i64 0, .int .i64 1] := by
  have hm : markOk s (((l.length : Nat) : Int) + 1) 0 l.length = false := by
    unfold markOk
    simp [inB]
    omega
  unfold shownV
  rw [hm]
  rfl
end Go.Proofs.YtlbkalbelefhmaaDoor

namespace Go.Mine
open Go.RowKit Go.ChangeShapes Go.WideShapes Go.Deep

section
variable {H : Type} {enc : TypeId × Value → H} {P : Program} {w : World} {base : Nat} {spare : Nat → Bool} {held : Bool}

/-- What is known of a slice of structs that came in: nil, or a row in which each field of each element reads by its type. -/
theorem slice_of_structs {t e : TypeId} {fs : Array Field} {fuel : Nat} {cs : List Value} {x : DataW H × List MemPlace} (ht : P.underlying t = some (.slice e)) (he : P.underlying e = some (.struct fs))
    (hone : oneCellFields P fs = true) (hC : P.cellsOf e = fs.size) (h : DataW.trod enc P w base spare held fuel t cs = some x) :
    cs = [.slice none 0 0] ∨
    ∃ (a : Addr) (len cap : Nat), cs = [.slice (some a) len cap] ∧ len ≤ cap ∧ cap ≤ maxLen ∧
      ∀ i, i < len → ∀ (j : Nat) (f : Field), fs[j]? = some f → ∃ (v : Value) (y : DataW H × List MemPlace) (n : Nat), w.cell? (a.add (i * fs.size + j)) = some v ∧ DataW.trod enc P w base spare held n f.type [v] = some y := by
  rcases open_slice ht h with ⟨h0, _⟩ | ⟨a, len, cap, m, n, D, Pl, hcs, _, hl, hm, hmm, _, hi⟩
  · exact .inl h0
  refine .inr ⟨a, len, cap, hcs, hl, hm, fun i hil j f hj => ?_⟩
  have him : i < m := by rw [hmm]; split <;> omega
  obtain ⟨cells, hc, hr⟩ := hi i him
  rw [hC] at hc
  obtain ⟨_, hlen, hat⟩ := World.cells?_some hc
  obtain ⟨ys, n', _, _, _, hyl, hf⟩ := DataW.trod_struct he hr
  obtain ⟨ho, hk⟩ := hone_of hone j f hj
  have hjs : j < fs.size := (Array.getElem?_eq_some_iff.1 hj).1
  have hfj := hf j f hj
  rw [ho, hk, List.drop_eq_getElem_cons (by omega)] at hfj
  have hy : ys[j]? = some ys[j] := List.getElem?_eq_getElem (by omega)
  refine ⟨cells[j], ys[j], n', ?_, hfj.trans hy⟩
  rw [← Go.Deep.add_add, hat j hjs]
  exact List.getElem?_eq_getElem _

theorem nat_of_u8 {n : Int} (h : (Lit.int .u8 n).wf = true) : 0 ≤ n ∧ n ≤ 255 := by
  have := bounds_u8 h; omega
end
end Go.Mine

namespace Go.Proofs.YtlbkalbelefhmaaDoor
open Go.ChangeShapes Go.WideShapes Go.ChangeAt Go.RowKit Go.Mine Go.Deep

set_option maxRecDepth 100000
section
variable {H : Type} {enc : TypeId × Value → H} {w : World} {base : Nat} {sp : Nat → Bool} {held : Bool}

theorem szOp : Tryd.prog.cellsOf 36 = 7 := by kernel_rfl
theorem szKind : Tryd.prog.cellsOf 5 = 1 := by kernel_rfl
theorem szCell : Tryd.prog.cellsOf 63 = 5 := by kernel_rfl
theorem szName : Tryd.prog.cellsOf 33 = 2 := by kernel_rfl
theorem szInt : Tryd.prog.cellsOf 3 = 1 := by kernel_rfl
theorem szRune : Tryd.prog.cellsOf 21 = 1 := by kernel_rfl
theorem szBool : Tryd.prog.cellsOf 4 = 1 := by kernel_rfl
theorem szString : Tryd.prog.cellsOf 9 = 1 := by kernel_rfl
theorem szSpans : Tryd.prog.cellsOf 34 = 1 := by kernel_rfl

theorem name_of {n : Nat} {a b : Value} {y : DataW H × List MemPlace} (h : DataW.trod enc Tryd.prog w base sp held n 33 [a, b] = some y) :
    ∃ s q : Int, a = .int .i64 s ∧ b = .int .i64 q ∧ (-9223372036854775808 ≤ s ∧ s ≤ 9223372036854775807) ∧ (-9223372036854775808 ≤ q ∧ q ≤ 9223372036854775807) := by
  obtain ⟨ys, m, _, _, _, hyl, hf⟩ := DataW.trod_struct Tryd.underlying33 h
  obtain ⟨y0, y1, rfl⟩ : ∃ y0 y1, ys = [y0, y1] := by
    match ys, (show ys.length = 2 from hyl) with
    | [y0, y1], _ => exact ⟨y0, y1, rfl⟩
  have h0 := hf 0 _ rfl
  have h1 := hf 1 _ rfl
  simp only [List.getElem_toArray, List.getElem_cons_zero, List.getElem_cons_succ, szInt, List.drop_zero, List.drop_succ_cons, List.take_succ_cons, List.take_zero, List.getElem?_cons_zero, List.getElem?_cons_succ] at h0 h1
  obtain ⟨s, e0, _, w0⟩ := DataW.trod_int Tryd.underlying3 h0
  obtain ⟨q, e1, _, w1⟩ := DataW.trod_int Tryd.underlying3 h1
  simp only [List.cons.injEq, and_true] at e0 e1
  exact ⟨s, q, e0, e1, bounds_i64 w0, bounds_i64 w1⟩

theorem cell_of {n : Nat} {cells : List Value} {y : DataW H × List MemPlace} (h : DataW.trod enc Tryd.prog w base sp held n 63 cells = some y) :
    ∃ c : CellV, cells = c.cs ∧ c.ok := by
  obtain ⟨ys, m, _, _, hl, hyl, hf⟩ := DataW.trod_struct Tryd.underlying63 h
  rw [szCell] at hl
  obtain ⟨a, b, c, d, e, rfl⟩ : ∃ a b c d e, cells = [a, b, c, d, e] := by
    match cells, hl with
    | [a, b, c, d, e], _ => exact ⟨a, b, c, d, e, rfl⟩
  obtain ⟨y0, y1, y2, y3, rfl⟩ : ∃ y0 y1 y2 y3, ys = [y0, y1, y2, y3] := by
    match ys, (show ys.length = 4 from hyl) with
    | [y0, y1, y2, y3], _ => exact ⟨y0, y1, y2, y3, rfl⟩
  have h0 := hf 0 _ rfl
  have h1 := hf 1 _ rfl
  have h2 := hf 2 _ rfl
  have h3 := hf 3 _ rfl
  simp only [List.getElem_toArray, List.getElem_cons_zero, List.getElem_cons_succ, szName, szInt, szRune, szBool, List.drop_zero, List.drop_succ_cons, List.take_succ_cons, List.take_zero, List.getElem?_cons_zero, List.getElem?_cons_succ] at h0 h1 h2 h3
  obtain ⟨s, q, rfl, rfl, hs, hq⟩ := name_of h0
  obtain ⟨f, e1, _, w1⟩ := DataW.trod_int Tryd.underlying3 h1
  obtain ⟨r, e2, _, w2⟩ := DataW.trod_int Tryd.underlying21 h2
  obtain ⟨g, e3, _⟩ := DataW.trod_bool Tryd.underlying4 h3
  simp only [List.cons.injEq, and_true] at e1 e2 e3
  subst e1 e2 e3
  exact ⟨⟨s, q, f, r, g⟩, rfl, hs, hq, bounds_i64 w1, bounds_i32 w2⟩

/-- A slice of structs of k cells: what each element's cells read as. -/
theorem slice_elems {t e : TypeId} {k fuel : Nat} {cs : List Value} {x : DataW H × List MemPlace} (ht : Tryd.prog.underlying t = some (.slice e)) (hk : Tryd.prog.cellsOf e = k) (h0k : 0 < k) (h : DataW.trod enc Tryd.prog w base sp held fuel t cs = some x) :
    ∃ (a : Option Addr) (len cap : Nat), cs = [.slice a len cap] ∧ len ≤ cap ∧ cap ≤ maxLen ∧
      ∀ i, i < len → ∃ (b off : Nat) (cells : List Value) (y : DataW H × List MemPlace) (n : Nat), a = some ⟨b, off, none⟩ ∧ cells.length = k ∧ w.rangeAt b (off + i * k) cells ∧ DataW.trod enc Tryd.prog w base sp held n e cells = some y := by
  rcases DataW.trod_slice ht h with ⟨h0, _⟩ | ⟨a, len, cap, elems, rest, n, _, hcs, _, _, hl, hm, hlen, hel, _, _⟩
  · exact ⟨none, 0, 0, h0, Nat.le_refl _, Nat.zero_le _, fun i hi => absurd hi (Nat.not_lt_zero _)⟩
  · rw [hk] at hel
    refine ⟨some a, len, cap, hcs, hl, hm, fun i hi => ?_⟩
    obtain ⟨b, off, spot⟩ := a
    have hspot : spot = none := by
      have h1 := hel 0 (by omega)
      rw [List.getElem?_eq_getElem (by omega)] at h1
      obtain ⟨cells, hc, hr⟩ := Option.bind_eq_some_iff.1 h1
      obtain ⟨_, hlen, hat⟩ := World.cells?_some hc
      have := hat 0 h0k
      rw [List.getElem?_eq_getElem (by omega)] at this
      have := World.cell?_spot this
      simpa [Addr.add] using this
    subst hspot
    have h1 := hel i hi
    rw [List.getElem?_eq_getElem (by omega)] at h1
    obtain ⟨cells, hc, hr⟩ := Option.bind_eq_some_iff.1 h1
    obtain ⟨_, hlen, hat⟩ := World.cells?_some hc
    refine ⟨b, off, cells, _, n, rfl, hlen, fun j v hv => ?_, hr⟩
    have hj : j < k := by have := (List.getElem?_eq_some_iff.1 hv).1; omega
    have := hat j hj
    rw [hv] at this
    simpa only [Addr.add_lit] using this

theorem read_cells {fuel : Nat} {a : Option Addr} {len cap : Nat} {x : DataW H × List MemPlace} (h : DataW.trod enc Tryd.prog w base sp held fuel 22 [.slice a len cap] = some x) : ∃ l, IsCells w a len cap l := by
  obtain ⟨a', len', cap', hcs, hl, hm, hf⟩ := slice_elems Tryd.underlying22 szCell (by decide) h
  simp only [List.cons.injEq, Value.slice.injEq, and_true] at hcs
  obtain ⟨rfl, rfl, rfl⟩ := hcs
  have key : ∀ i, i < len → ∃ c : CellV, c.ok ∧ ∃ b off, a = some ⟨b, off, none⟩ ∧ w.rangeAt b (off + i * 5) c.cs := by
    intro i hi
    obtain ⟨b, off, cells, y, n, e, _, hr, ht⟩ := hf i hi
    obtain ⟨c, rfl, hc⟩ := cell_of ht
    exact ⟨c, hc, b, off, e, hr⟩
  obtain ⟨f, hfk⟩ := Classical.axiomOfChoice (fun i : Fin len => key i.1 i.2)
  refine ⟨List.ofFn f, by simp, hl, hm, ?_, ?_⟩
  · intro y hy
    obtain ⟨i, rfl⟩ := List.mem_ofFn.1 hy
    exact (hfk i).1
  · intro i y hy
    have hi : i < len := by have := (List.getElem?_eq_some_iff.1 hy).1; simpa using this
    have : y = f ⟨i, hi⟩ := by
      rw [List.getElem?_eq_getElem (by simpa using hi)] at hy
      simp at hy; exact hy.symm
    subst this
    exact (hfk ⟨i, hi⟩).2

theorem szSpan : Tryd.prog.cellsOf 82 = 2 := by kernel_rfl
theorem read_spans {fuel : Nat} {a : Option Addr} {len cap : Nat} {x : DataW H × List MemPlace} (h : DataW.trod enc Tryd.prog w base sp held fuel 34 [.slice a len cap] = some x) : ∃ l, IsSpans w a len cap l := by
  obtain ⟨a', len', cap', hcs, hl, hm, hf⟩ := slice_elems Tryd.underlying34 szSpan (by decide) h
  simp only [List.cons.injEq, Value.slice.injEq, and_true] at hcs
  obtain ⟨rfl, rfl, rfl⟩ := hcs
  have key : ∀ i, i < len → ∃ y : Int × Int, ((-9223372036854775808 ≤ y.1 ∧ y.1 ≤ 9223372036854775807) ∧ (-9223372036854775808 ≤ y.2 ∧ y.2 ≤ 9223372036854775807)) ∧ ∃ b off, a = some ⟨b, off, none⟩ ∧ w.cell? ⟨b, off + i * 2, none⟩ = some (.int .i64 y.1) ∧ w.cell? ⟨b, off + i * 2 + 1, none⟩ = some (.int .i64 y.2) := by
    intro i hi
    obtain ⟨b, off, cells, y, n, e, hlen, hr, ht⟩ := hf i hi
    obtain ⟨u, v, rfl⟩ : ∃ u v, cells = [u, v] := by
      match cells, hlen with
      | [u, v], _ => exact ⟨u, v, rfl⟩
    obtain ⟨ys, m, _, _, _, hyl, hg⟩ := DataW.trod_struct Tryd.underlying82 ht
    obtain ⟨y0, y1, rfl⟩ : ∃ y0 y1, ys = [y0, y1] := by
      match ys, (show ys.length = 2 from hyl) with
      | [y0, y1], _ => exact ⟨y0, y1, rfl⟩
    have h0 := hg 0 _ rfl
    have h1 := hg 1 _ rfl
    simp only [List.getElem_toArray, List.getElem_cons_zero, List.getElem_cons_succ, szInt, List.drop_zero, List.drop_succ_cons, List.take_succ_cons, List.take_zero, List.getElem?_cons_zero, List.getElem?_cons_succ] at h0 h1
    obtain ⟨s, e0, _, w0⟩ := DataW.trod_int Tryd.underlying3 h0
    obtain ⟨q, e1, _, w1⟩ := DataW.trod_int Tryd.underlying3 h1
    simp only [List.cons.injEq, and_true] at e0 e1
    subst e0 e1
    exact ⟨(s, q), ⟨bounds_i64 w0, bounds_i64 w1⟩, b, off, e, hr 0 _ rfl, hr 1 _ rfl⟩
  obtain ⟨f, hfk⟩ := Classical.axiomOfChoice (fun i : Fin len => key i.1 i.2)
  refine ⟨List.ofFn f, by simp, hl, hm, ?_, ?_⟩
  · intro y hy
    obtain ⟨i, rfl⟩ := List.mem_ofFn.1 hy
    exact (hfk i).1
  · intro i y hy
    have hi : i < len := by have := (List.getElem?_eq_some_iff.1 hy).1; simpa using this
    have : y = f ⟨i, hi⟩ := by
      rw [List.getElem?_eq_getElem (by simpa using hi)] at hy
      simp at hy; exact hy.symm
    subst this
    exact (hfk ⟨i, hi⟩).2

theorem szAct : Tryd.prog.cellsOf 38 = 8 := by kernel_rfl
theorem op_of {n : Nat} {cells : List Value} {y : DataW H × List MemPlace} (htab : tabsOk w) (h : DataW.trod enc Tryd.prog w base sp held n 36 cells = some y) :
    ∃ (o : OpV) (l : List (Int × Int)), cells = o.cs ∧ o.ok0 w l := by
  obtain ⟨ys, m, _, _, hl, hyl, hf⟩ := DataW.trod_struct Tryd.underlying36 h
  rw [szOp] at hl
  obtain ⟨c0, c1, c2, c3, c4, c5, c6, rfl⟩ : ∃ c0 c1 c2 c3 c4 c5 c6, cells = [c0, c1, c2, c3, c4, c5, c6] := by
    match cells, hl with
    | [c0, c1, c2, c3, c4, c5, c6], _ => exact ⟨c0, c1, c2, c3, c4, c5, c6, rfl⟩
  obtain ⟨y0, y1, y2, y3, y4, y5, rfl⟩ : ∃ y0 y1 y2 y3 y4 y5, ys = [y0, y1, y2, y3, y4, y5] := by
    match ys, (show ys.length = 6 from hyl) with
    | [y0, y1, y2, y3, y4, y5], _ => exact ⟨y0, y1, y2, y3, y4, y5, rfl⟩
  have h0 := hf 0 _ rfl
  have h1 := hf 1 _ rfl
  have h2 := hf 2 _ rfl
  have h3 := hf 3 _ rfl
  have h4 := hf 4 _ rfl
  have h5 := hf 5 _ rfl
  simp only [List.getElem_toArray, List.getElem_cons_zero, List.getElem_cons_succ, szName, szInt, szString, szSpans, List.drop_zero, List.drop_succ_cons, List.take_succ_cons, List.take_zero, List.getElem?_cons_zero, List.getElem?_cons_succ] at h0 h1 h2 h3 h4 h5
  obtain ⟨s, q, rfl, rfl, hs, hq⟩ := name_of h0
  obtain ⟨num, e1, _, w1⟩ := DataW.trod_int Tryd.underlying3 h1
  obtain ⟨kd, e2, _, w2⟩ := DataW.trod_int Tryd.underlying3 h2
  obtain ⟨at_, e3, _, w3⟩ := DataW.trod_int Tryd.underlying3 h3
  obtain ⟨tx, e4, _, w4⟩ := DataW.trod_string Tryd.underlying9 h4
  obtain ⟨a, len, cap, e5, _⟩ := slice_elems Tryd.underlying34 szSpan (by decide) h5
  simp only [List.cons.injEq, and_true] at e1 e2 e3 e4 e5
  subst e1 e2 e3 e4 e5
  obtain ⟨l, hsp⟩ := read_spans h5
  exact ⟨⟨s, q, num, kd, at_, tx, a, len, cap⟩, l, rfl, w4, hsp, fun hsz => { i1 := hs, i2 := hq, i3 := bounds_i64 w1, i4 := bounds_i64 w2, i5 := bounds_i64 w3, tx := .inl htab, sz := hsz, sp := hsp }⟩

theorem read_acts {fuel : Nat} {a : Option Addr} {len cap : Nat} {x : DataW H × List MemPlace} (htab : tabsOk w) (h : DataW.trod enc Tryd.prog w base sp held fuel 23 [.slice a len cap] = some x) : ∃ l, IsActs w a len cap l := by
  obtain ⟨a', len', cap', hcs, hl, hm, hf⟩ := slice_elems Tryd.underlying23 szAct (by decide) h
  simp only [List.cons.injEq, Value.slice.injEq, and_true] at hcs
  obtain ⟨rfl, rfl, rfl⟩ := hcs
  have key : ∀ i, i < len → ∃ c : ActV, (c.o.ok0 w c.sp ∧ 0 ≤ c.k ∧ c.k ≤ 255) ∧ ∃ b off, a = some ⟨b, off, none⟩ ∧ w.cell? ⟨b, off + i * 8, none⟩ = some (.int .u8 c.k) ∧ w.rangeAt b (off + i * 8 + 1) c.o.cs := by
    intro i hi
    obtain ⟨b, off, cells, y, n, e, hlen, hr, ht⟩ := hf i hi
    obtain ⟨u, r, rfl⟩ : ∃ u r, cells = u :: r := by
      match cells, hlen with
      | u :: r, _ => exact ⟨u, r, rfl⟩
    obtain ⟨ys, m, _, _, _, hyl, hg⟩ := DataW.trod_struct Tryd.underlying38 ht
    obtain ⟨y0, y1, rfl⟩ : ∃ y0 y1, ys = [y0, y1] := by
      match ys, (show ys.length = 2 from hyl) with
      | [y0, y1], _ => exact ⟨y0, y1, rfl⟩
    have h0 := hg 0 _ rfl
    have h1 := hg 1 _ rfl
    have hrl : r.length = 7 := by simpa using hlen
    simp only [List.getElem_toArray, List.getElem_cons_zero, List.getElem_cons_succ, szKind, szOp, List.drop_zero, List.drop_succ_cons, List.take_succ_cons, List.take_zero, List.getElem?_cons_zero, List.getElem?_cons_succ] at h0 h1
    rw [List.take_of_length_le (by omega)] at h1
    obtain ⟨kk, e0, _, w0⟩ := DataW.trod_int Tryd.underlying5 h0
    simp only [List.cons.injEq, and_true] at e0
    subst e0
    obtain ⟨o, l, rfl, ho⟩ := op_of htab h1
    refine ⟨⟨kk, o, l⟩, ⟨ho, nat_of_u8 w0⟩, b, off, e, hr 0 _ rfl, fun j v hv => ?_⟩
    have := hr (j + 1) v (by simpa using hv)
    rwa [← Nat.add_assoc, Nat.add_right_comm] at this
  obtain ⟨f, hfk⟩ := Classical.axiomOfChoice (fun i : Fin len => key i.1 i.2)
  refine ⟨List.ofFn f, by simp, hl, hm, ?_, ?_⟩
  · intro y hy
    obtain ⟨i, rfl⟩ := List.mem_ofFn.1 hy
    exact (hfk i).1
  · intro i y hy
    have hi : i < len := by have := (List.getElem?_eq_some_iff.1 hy).1; simpa using this
    have : y = f ⟨i, hi⟩ := by
      rw [List.getElem?_eq_getElem (by simpa using hi)] at hy
      simp at hy; exact hy.symm
    subst this
    exact (hfk ⟨i, hi⟩).2
end
end Go.Proofs.YtlbkalbelefhmaaDoor

namespace Go.Proofs.YtlbkalbelefhmaaDoor
open Go.RowKit Go.Mine Go.Deep
open Classical

theorem conv_sr (w : World) (rs : List Int) (hv : vR rs) (hl : rs.length ≤ 70368744177664) : (convert 9 39 (.string ⟨(bytesOf rs).toArray⟩)).run Tryd.prog w =
    .ok (.slice (some ⟨w.heap.size, 0, none⟩) rs.length (grownCap w rs.length 0 21)) (w.drew.alloc (.cells ((r32s rs).toArray ++ Array.replicate (grownCap w rs.length 0 21 - rs.length) (.int .i32 0)) 21)) := by
  have h1 := runes_str hv
  have h2 : (r32s rs).toArray.size = rs.length := by simp [r32s]
  have := run_runes_of_string (P := Tryd.prog) w 9 39 21 ⟨(bytesOf rs).toArray⟩ Tryd.underlying9 Tryd.underlying39 Tryd.underlying21 (by rw [h1, h2]; exact hl)
  rw [h1, h2] at this
  exact this
theorem conv_sr2 (w : World) (rs : List Int) (hv : vR rs) (hl : rs.length ≤ 70368744177664) : ∃ cap, rs.length ≤ cap ∧ (convert 9 39 (.string ⟨(bytesOf rs).toArray⟩)).run Tryd.prog w =
    .ok (.slice (some ⟨w.heap.size, 0, none⟩) rs.length cap) (w.drew.alloc (.cells (r32s rs ++ List.replicate (cap - rs.length) (Value.int .i32 0)).toArray 21)) := by
  refine ⟨grownCap w rs.length 0 21, grownCap_ge w rs.length 0 21, ?_⟩
  have e : ∀ n : Nat, (r32s rs).toArray ++ Array.replicate n (Value.int .i32 0) = (r32s rs ++ List.replicate n (Value.int .i32 0)).toArray := fun n => by apply Array.ext'; simp
  rw [conv_sr w rs hv hl, e]
theorem conv_rs (w : World) (b off len cap : Nat) (rs : List Int) (hn : rs.length = len) (hc : ∀ (j : Nat) (x : Int), rs[j]? = some x → w.cell? ⟨b, off + j, none⟩ = some (.int .i32 x)) (hv : vR rs) :
    (convert 39 9 (.slice (some ⟨b, off, none⟩) len cap)).run Tryd.prog w = .ok (.string ⟨(bytesOf rs).toArray⟩) w := by
  rw [run_convert_runes w _ _ 21 ⟨b, off, none⟩ len cap rs (by omega) Tryd.underlying39 Tryd.underlying21 Tryd.underlying9 (fun j hj => ?_), ← hn, List.take_length, str_runes hv]
  rw [Addr.add_lit, hc j rs[j] (List.getElem?_eq_getElem hj)]
  simp [List.getD, hj]

/-- Strings in memory. -/
structure IsStrs (w : World) (a : Option Addr) (len cap : Nat) (l : List ByteArray) : Prop where
  n : l.length = len
  le : len ≤ cap
  big : cap ≤ maxLen
  ok : ∀ s ∈ l, s.size ≤ maxLen
  cells : ∀ (i : Nat) (s : ByteArray), l[i]? = some s → ∃ b off, a = some ⟨b, off, none⟩ ∧ w.cell? ⟨b, off + i, none⟩ = some (.string s)
theorem IsStrs.grown {w w' : World} {a : Option Addr} {len cap : Nat} {l : List ByteArray} (h : IsStrs w a len cap l) (m : Mod none_ w w') : IsStrs w' a len cap l :=
  ⟨h.n, h.le, h.big, h.ok, fun i x hx => by
    obtain ⟨b, off, e, c0⟩ := h.cells i x hx
    exact ⟨b, off, e, m.cell (fun e => e) c0⟩⟩
section
variable {H : Type} {enc : TypeId × Value → H} {w : World} {base : Nat} {sp : Nat → Bool} {held : Bool}
theorem read_strs {fuel : Nat} {a : Option Addr} {len cap : Nat} {x : DataW H × List MemPlace} (h : DataW.trod enc Tryd.prog w base sp held fuel 72 [.slice a len cap] = some x) : ∃ l, IsStrs w a len cap l := by
  obtain ⟨a', len', cap', hcs, hl, hm, hf⟩ := slice_elems Tryd.underlying72 szString (by decide) h
  simp only [List.cons.injEq, Value.slice.injEq, and_true] at hcs
  obtain ⟨rfl, rfl, rfl⟩ := hcs
  have key : ∀ i, i < len → ∃ s : ByteArray, s.size ≤ maxLen ∧ ∃ b off, a = some ⟨b, off, none⟩ ∧ w.cell? ⟨b, off + i, none⟩ = some (.string s) := by
    intro i hi
    obtain ⟨b, off, cells, y, n, e, hlen, hr, ht⟩ := hf i hi
    obtain ⟨tx, e4, _, w4⟩ := DataW.trod_string Tryd.underlying9 ht
    subst e4
    have := hr 0 _ rfl
    rw [Nat.mul_one, Nat.add_zero] at this
    exact ⟨tx, w4, b, off, e, this⟩
  obtain ⟨f, hfk⟩ := Classical.axiomOfChoice (fun i : Fin len => key i.1 i.2)
  refine ⟨List.ofFn f, by simp, hl, hm, ?_, ?_⟩
  · intro y hy
    obtain ⟨i, rfl⟩ := List.mem_ofFn.1 hy
    exact (hfk i).1
  · intro i y hy
    have hi : i < len := by have := (List.getElem?_eq_some_iff.1 hy).1; simpa using this
    have : y = f ⟨i, hi⟩ := by
      rw [List.getElem?_eq_getElem (by simpa using hi)] at hy
      simp at hy; exact hy.symm
    subst this
    exact (hfk ⟨i, hi⟩).2
end

/-- What is typed. -/
def tyOp (k : Nat) (p : Int) (t : ByteArray) : OpV := ⟨3, 549755813888 + (k : Int), 0, 1, p, t, none, 0, 0⟩
theorem tyOp_ok {w : World} (k : Nat) (p : Int) (t : ByteArray) (hk : k ≤ 8) (hp : 0 ≤ p ∧ p ≤ 20000) (ht : txtOk w t) (hs : t.size ≤ 900) : (tyOp k p t).ok w [] :=
  { i1 := by unfold tyOp; dsimp only; omega, i2 := by unfold tyOp; dsimp only; omega, i3 := by unfold tyOp; dsimp only; omega, i4 := by unfold tyOp; dsimp only; omega, i5 := by unfold tyOp; dsimp only; omega, tx := ht, sz := Nat.lt_of_le_of_lt hs (by decide),
    sp := ⟨rfl, Nat.le_refl _, Nat.zero_le _, (fun x hx => by cases hx), (fun i x hx => by cases hx)⟩ }

theorem liveR_append (a b : List CellV) : liveR (a ++ b) = liveR a ++ liveR b := by simp [liveR]
theorem liveR_fresh (o : OpV) (rs : List Nat) : liveR (freshC o rs) = rs.map fun r : Nat => (r : Int) := by
  unfold liveR freshC
  rw [List.filter_eq_self.2 (fun c hc => ?_)]
  · apply List.ext_getElem
    · simp
    · intro i h1 h2; simp
  · obtain ⟨i, hi, rfl⟩ := List.mem_mapIdx.1 hc
    rfl
theorem liveR_valid {l : List CellV} (h : newE l = 0) : vR (liveR l) := by
  intro r hr
  unfold liveR at hr
  obtain ⟨c, hc, rfl⟩ := List.mem_map.1 hr
  have hm := (List.mem_filter.1 hc).1
  unfold newE at h
  by_cases h1 : l.all cellOk = true
  · have := List.all_eq_true.1 h1 c hm
    unfold cellOk at this
    simp only [Bool.and_eq_true] at this
    exact this.2
  · rw [if_neg h1] at h; omega
theorem textB_valid {l : List CellV} (h : vR (liveR l)) : textB l = ⟨(bytesOf (liveR l)).toArray⟩ := by
  unfold textB
  rw [if_pos (List.all_eq_true.2 h)]

/-- Behind some of what was typed at place i of l: the document's cells are L, the caret is at p, the runes typed are rs. -/
structure Typ (l : List CellV) (i : Nat) (L : List CellV) (p : Nat) (rs : List Int) : Prop where
  hp : p ≤ L.length
  le : liveR (L.take p) = (liveR l).take i ++ rs
  ri : liveR (L.drop p) = (liveR l).drop i
  va : vR rs
theorem Typ.start {l : List CellV} {i : Int} (h : gapBad l i = false) : Typ l i.toNat l (gapN l i).toNat [] := by
  obtain ⟨h1, h2⟩ := gapN_le h
  have h3 := seen_gapN h
  have hlen : (liveR (l.take (gapN l i).toNat)).length = i.toNat := by
    rw [liveR_len]
    unfold seenN at h3
    omega
  have happ : liveR l = liveR (l.take (gapN l i).toNat) ++ liveR (l.drop (gapN l i).toNat) := by rw [← liveR_append, List.take_append_drop]
  refine ⟨by omega, ?_, ?_, fun r hr => by cases hr⟩
  · rw [List.append_nil, happ, ← hlen, List.take_left]
  · rw [happ, ← hlen, List.drop_left]
theorem Typ.all {l L : List CellV} {i p : Nat} {rs : List Int} (h : Typ l i L p rs) : liveR L = (liveR l).take i ++ rs ++ (liveR l).drop i := by
  rw [← h.le, ← h.ri, ← liveR_append, List.take_append_drop]
theorem Typ.step {l L : List CellV} {i p k : Nat} {rs : List Int} {t : ByteArray} (h : Typ l i L p rs) (he : doE (tyOp k p t) [] L = 0) :
    ∃ ns : List Nat, t = ⟨(bytesOf (ns.map fun r : Nat => (r : Int))).toArray⟩ ∧ addsOf (tyOp k p t) = ns.length ∧ ns.length ≤ 200 ∧ Typ l i (doL (tyOp k p t) [] L) (p + ns.length) (rs ++ ns.map fun r : Nat => (r : Int)) := by
  obtain ⟨hm, hh⟩ := doE_zero he
  rcases hh with ⟨hk, _⟩ | ⟨hk, hins, _, hL⟩
  · exact absurd rfl hk
  obtain ⟨ns, h1, h2, h3, h4, h5, h6, h7, h8, h9⟩ := ins_runes hins
  obtain ⟨b1, b2⟩ := runesD_bytes h1
  rw [h2] at hL
  have hat : (tyOp k p t).at_.toNat = p := by unfold tyOp; simp
  rw [hat] at hL
  have hlt : (L.take p).length = p := by rw [List.length_take]; have := h.hp; omega
  have e1 : (doL (tyOp k p t) [] L).take (p + ns.length) = L.take p ++ freshC (tyOp k p t) ns := by
    rw [hL]
    have : p + ns.length = (L.take p ++ freshC (tyOp k p t) ns).length := by rw [List.length_append, hlt]; simp [freshC]
    rw [this, List.take_left]
  have e2 : (doL (tyOp k p t) [] L).drop (p + ns.length) = L.drop p := by
    rw [hL]
    have : p + ns.length = (L.take p ++ freshC (tyOp k p t) ns).length := by rw [List.length_append, hlt]; simp [freshC]
    rw [this, List.drop_left]
  refine ⟨ns, b1, ?_, h5, ⟨?_, ?_, ?_, ?_⟩⟩
  · unfold addsOf
    rw [if_pos hk, h3]
    omega
  · have := congrArg List.length e2
    have hh := congrArg List.length hL
    simp only [List.length_append, hlt, List.length_drop, freshC, List.length_mapIdx] at hh
    omega
  · rw [e1, liveR_append, h.le, liveR_fresh, List.append_assoc]
  · rw [e2, h.ri]
  · intro r hr
    rcases List.mem_append.1 hr with hr | hr
    · exact h.va r hr
    · exact b2 r hr
theorem Typ.move {p k n : Nat} {t : ByteArray} (ha : addsOf (tyOp k p t) = n) : movP (tyOp k p t) p false = ((p + n : Nat) : Int) := by
  unfold movP
  rw [if_pos (show (tyOp k p t).kind = 1 from rfl), ha]
  unfold pointOf
  rw [if_pos (.inr ⟨rfl, rfl⟩)]
  omega
/-- What is shown then, and the text. -/
theorem Typ.shown {l L : List CellV} {i p : Nat} {rs : List Int} (h : Typ l i L p rs) (hi : i ≤ liveN l) (hb : L.length ≤ 20000) : shownV L 3 p p = .tuple #[.int .i64 ((i : Int) + (rs.length : Int)), .int .i64 ((i : Int) + (rs.length : Int)), .int .i64 0] := by
  have hp := h.hp
  have hm : markOk 3 p p L.length = true := by simp [markOk, inB]; omega
  have b1 : seenBad L p = false := by unfold seenBad; simp; omega
  have hs : (seenN L p : Int) = (i : Int) + (rs.length : Int) := by
    unfold seenN
    have := congrArg List.length h.le
    rw [liveR_len, List.length_append, List.length_take, liveR_len] at this
    omega
  unfold shownV seenM
  rw [hm, b1]
  simp only [if_true, Bool.false_eq_true, if_false, Int.toNat_natCast, hs]
theorem Typ.text {l L : List CellV} {i p : Nat} {rs : List Int} (h : Typ l i L p rs) (hv : vR (liveR l)) : textB L = ⟨(bytesOf ((liveR l).take i) ++ bytesOf rs ++ bytesOf ((liveR l).drop i)).toArray⟩ := by
  have hvL : vR (liveR L) := by
    rw [h.all]
    intro r hr
    rcases List.mem_append.1 hr with hr | hr
    · rcases List.mem_append.1 hr with hr | hr
      · exact hv r (List.mem_of_mem_take hr)
      · exact h.va r hr
    · exact hv r (List.mem_of_mem_drop hr)
  rw [textB_valid hvL, h.all, bytesOf_append, bytesOf_append]
end Go.Proofs.YtlbkalbelefhmaaDoor

namespace Go.Proofs.YtlbkalbelefhmaaDoor
open Go.RowKit Go.Mine

set_option maxHeartbeats 4000000 in
set_option maxRecDepth 1000000 in
theorem behind_ins (o : OpV) (size : Int) (w : World) (l : List (Int × Int)) (h : o.ok w l) (hk : o.kind = 1) (h1 : inB size 0 20000 = true) (hmay : opMay o l size = true) :
    Calls Tryd.prog 35 #[o.v, .int .i64 size] w fun e w' => e = .returned (.tuple #[.agg #[.int .i64 o.site, .int .i64 (o.at_ + addsOf o), .int .i64 (o.at_ + addsOf o)], .int .i64 0]) ∧ Mod none_ w w' := by
  have hs : 0 ≤ size ∧ size ≤ 20000 := by simpa [inB] using h1
  have hins : insOk o size = true := by
    unfold opMay at hmay
    rw [if_pos hk] at hmay
    simp only [Bool.and_eq_true] at hmay
    exact hmay.2
  have hu : 0 ≤ addsOf o ∧ addsOf o ≤ 20000 := by
    have : ulen o.text ≤ 20000 - size := by simp [insOk] at hins; exact hins.2
    unfold addsOf; rw [if_pos hk]; omega
  have hat : 0 ≤ o.at_ ∧ o.at_ ≤ 20000 := by simp [insOk, inB] at hins; omega
  have hsl : (o.slen : Int) = 0 := by simp [insOk] at hins; omega
  have hsd : decide (0 < o.slen) = false := by simp; omega
  obtain ⟨W0, hW0⟩ : ∃ W0, (w.alloc (.cells o.cs.toArray 36)).alloc (.cells #[.int .i64 0, .int .i64 0, .int .i64 0] 66) = W0 := ⟨_, rfl⟩
  have m0 : Mod none_ w W0 := by rw [← hW0]; exact ((Mod.refl none_ w).alloc _).alloc _
  have kB : Blk W0 w.heap.size o.cs 36 := by
    rw [← hW0]
    exact (Blk.new (w := w) (cs := o.cs) (t := 36)).mod ((Mod.refl none_ _).alloc _) (fun e => e)
  have kM : Blk W0 (w.heap.size + 1) [.int .i64 0, .int .i64 0, .int .i64 0] 66 := by
    have := Blk.new (w := w.alloc (.cells o.cs.toArray 36)) (cs := [.int .i64 0, .int .i64 0, .int .i64 0]) (t := 66)
    rw [World.size_alloc] at this
    rw [← hW0]
    exact this
  have HM := Lib.hid (may_any o size W0 l (h.grown m0) h1)
  rw [hmay] at HM
  have H0 := Lib.hid (h.grown m0)
  have M0 := Lib.hid m0
  have c0 : W0.cell? ⟨w.heap.size, 0, none⟩ = some (.int .i64 o.site) := by rw [kB.cell]; rfl
  have c1 : W0.cell? ⟨w.heap.size, 1, none⟩ = some (.int .i64 o.seq) := by rw [kB.cell]; rfl
  have c2 : W0.cell? ⟨w.heap.size, 2, none⟩ = some (.int .i64 o.num) := by rw [kB.cell]; rfl
  have c3 : W0.cell? ⟨w.heap.size, 3, none⟩ = some (.int .i64 o.kind) := by rw [kB.cell]; rfl
  have c4 : W0.cell? ⟨w.heap.size, 4, none⟩ = some (.int .i64 o.at_) := by rw [kB.cell]; rfl
  have c5 : W0.cell? ⟨w.heap.size, 5, none⟩ = some (.string o.text) := by rw [kB.cell]; rfl
  have c6 : W0.cell? ⟨w.heap.size, 6, none⟩ = some (.slice o.sa o.slen o.scap) := by rw [kB.cell]; rfl
  have KB := Lib.hid kB
  have KM := Lib.hid kM
  have hw : IntKind.i64.wrap (o.at_ + addsOf o) = o.at_ + addsOf o := by rw [IntKind.wrap_i64]; omega
  clear h m0 kB kM hk h1 hmay hins hs hsl
  go_enter Tryd.func35, Tryd.ntmps35
  go_upto_region 1 with fail
  clear hW0
  go_wp2_with fail
  refine HM.out.mono ?_
  rintro e w1 ⟨rfl, m1⟩
  have k1 := KB.out.mod m1 (fun e => e)
  have M1 := Lib.hid (M0.out.trans m1)
  have H1 := Lib.hid (H0.out.grown m1)
  have KM1 := Lib.hid (KM.out.mod m1 (fun e => e))
  have KB1 := Lib.hid k1
  have d0 : w1.cell? ⟨w.heap.size, 0, none⟩ = some (.int .i64 o.site) := by rw [k1.cell]; rfl
  have d1 : w1.cell? ⟨w.heap.size, 1, none⟩ = some (.int .i64 o.seq) := by rw [k1.cell]; rfl
  have d2 : w1.cell? ⟨w.heap.size, 2, none⟩ = some (.int .i64 o.num) := by rw [k1.cell]; rfl
  have d3 : w1.cell? ⟨w.heap.size, 3, none⟩ = some (.int .i64 o.kind) := by rw [k1.cell]; rfl
  have d4 : w1.cell? ⟨w.heap.size, 4, none⟩ = some (.int .i64 o.at_) := by rw [k1.cell]; rfl
  have d5 : w1.cell? ⟨w.heap.size, 5, none⟩ = some (.string o.text) := by rw [k1.cell]; rfl
  have d6 : w1.cell? ⟨w.heap.size, 6, none⟩ = some (.slice o.sa o.slen o.scap) := by rw [k1.cell]; rfl
  clear c0 c1 c2 c3 c4 c5 c6 m1 k1
  go_upto_region 3 with fail
  have hH := H1.out
  go_region_held3 (fun w' => Mod none_ w1 w' ∧ w'.cell? ⟨w.heap.size, 0, none⟩ = some (.int .i64 o.site) ∧ w'.cell? ⟨w.heap.size, 1, none⟩ = some (.int .i64 o.seq) ∧ w'.cell? ⟨w.heap.size, 2, none⟩ = some (.int .i64 o.num) ∧ w'.cell? ⟨w.heap.size, 3, none⟩ = some (.int .i64 o.kind) ∧ w'.cell? ⟨w.heap.size, 4, none⟩ = some (.int .i64 o.at_) ∧ w'.cell? ⟨w.heap.size, 5, none⟩ = some (.string o.text) ∧ w'.cell? ⟨w.heap.size, 6, none⟩ = some (.slice o.sa o.slen o.scap))
    (first
      | exact ⟨Mod.drew (Mod.refl none_ w1), d0, d1, d2, d3, d4, d5, d6⟩
      | assumption
      | (obtain ⟨q, q0, q1, q2, q3, q4, q5, q6⟩ := ‹Mod none_ w1 _ ∧ _›; exact ⟨q.trans m1, m1.cell (fun e => e) q0, m1.cell (fun e => e) q1, m1.cell (fun e => e) q2, m1.cell (fun e => e) q3, m1.cell (fun e => e) q4, m1.cell (fun e => e) q5, m1.cell (fun e => e) q6⟩))
    (first
      | (go_at_call 66; refine (adds_any o _ _ (hH.grown (And.left (by assumption)))).mono ?_; rintro e w2 ⟨rfl, m1⟩))
  rename_i hHeld
  have M2 := Lib.hid (M1.out.trans (And.left hHeld))
  have k2 := KB1.out.mod (And.left hHeld) (fun e => e)
  have kM2 := KM1.out.mod (And.left hHeld) (fun e => e)
  clear hHeld d0 d1 d2 d3 d4 d5 d6
  have d0 := k2.cell 0
  have d6 := k2.cell 6
  simp only [OpV.cs, List.getElem?_cons_zero, List.getElem?_cons_succ] at d0 d6
  have c0 := kM2.cell 0
  have c1 := kM2.cell 1
  have c2 := kM2.cell 2
  simp only [List.getElem?_cons_zero, List.getElem?_cons_succ] at c0 c1 c2
  have f0 := kM2.frozen 0
  have f1 := kM2.frozen 1
  have f2 := kM2.frozen 2
  have KF := Lib.hid (((kM2.set 0 (.int .i64 o.site)).set 1 (.int .i64 (o.at_ + addsOf o))).set 2 (.int .i64 (o.at_ + addsOf o)))
  have MF := Lib.hid (((M2.out.setCell ⟨w.heap.size + 1, 0, none⟩ (fun h => absurd h (by simp)) (.int .i64 o.site)).setCell ⟨w.heap.size + 1, 1, none⟩ (fun h => absurd h (by simp)) (.int .i64 (o.at_ + addsOf o))).setCell ⟨w.heap.size + 1, 2, none⟩ (fun h => absurd h (by simp)) (.int .i64 (o.at_ + addsOf o)))
  clear k2 kM2
  go_wp2_with fail
  exact bodyPost_ret (results_mkt rfl _ _ (w.heap.size + 1) [.int .i64 o.site, .int .i64 (o.at_ + addsOf o), .int .i64 (o.at_ + addsOf o)] rfl rfl (blk_range KF.out)) rfl ⟨rfl, MF.out⟩
end Go.Proofs.YtlbkalbelefhmaaDoor

namespace Go.Proofs.YtlbkalbelefhmaaDoor
open Go.RowKit Go.Mine

set_option maxHeartbeats 4000000 in
set_option maxRecDepth 1000000 in
theorem move_ins (o : OpV) (s a t size : Int) (w : World) (l : List (Int × Int)) (h : o.ok w l) (hk : o.kind = 1) (h1 : inB size 0 20000 = true) (h2 : nameOk o.site o.seq = true) (h3 : inB o.num 0 1099511627776 = true) (h4 : insOk o size = true) (hm : markOk s a t size = true) :
    Calls Tryd.prog 34 #[.agg #[.int .i64 s, .int .i64 a, .int .i64 t], o.v, .int .i64 size] w fun e w' => e = .returned (.tuple #[.agg #[.int .i64 s, .int .i64 (pointOf a o.at_ (addsOf o) (o.site != s)), .int .i64 (pointOf t o.at_ (addsOf o) (o.site != s))], .int .i64 0]) ∧ Mod none_ w w' := by
  obtain ⟨A, hA⟩ : ∃ A, A = pointOf a o.at_ (addsOf o) (o.site != s) := ⟨_, rfl⟩
  obtain ⟨T, hT⟩ : ∃ T, T = pointOf t o.at_ (addsOf o) (o.site != s) := ⟨_, rfl⟩
  rw [← hA, ← hT]
  have HA := Lib.hid hA
  have HT := Lib.hid hT
  have hab : (0 ≤ a ∧ a ≤ size) ∧ (0 ≤ t ∧ t ≤ size) := by simp [markOk, inB] at hm; omega
  obtain ⟨W0, hW0⟩ : ∃ W0, ((w.alloc (.cells #[.int .i64 s, .int .i64 a, .int .i64 t] 66)).alloc (.cells o.cs.toArray 36)).alloc (.cells #[.int .i64 0, .int .i64 0, .int .i64 0] 66) = W0 := ⟨_, rfl⟩
  have m0 : Mod none_ w W0 := by rw [← hW0]; exact (((Mod.refl none_ w).alloc _).alloc _).alloc _
  have k0 : Blk W0 w.heap.size [.int .i64 s, .int .i64 a, .int .i64 t] 66 := by
    rw [← hW0]
    exact ((Blk.new (w := w) (cs := [.int .i64 s, .int .i64 a, .int .i64 t]) (t := 66)).mod ((Mod.refl none_ _).alloc _) (fun e => e)).mod ((Mod.refl none_ _).alloc _) (fun e => e)
  have k1 : Blk W0 (w.heap.size + 1) o.cs 36 := by
    have := Blk.new (w := w.alloc (.cells #[.int .i64 s, .int .i64 a, .int .i64 t] 66)) (cs := o.cs) (t := 36)
    rw [World.size_alloc] at this
    rw [← hW0]
    exact this.mod ((Mod.refl none_ _).alloc _) (fun e => e)
  have k2 : Blk W0 (w.heap.size + 1 + 1) [.int .i64 0, .int .i64 0, .int .i64 0] 66 := by
    have := Blk.new (w := (w.alloc (.cells #[.int .i64 s, .int .i64 a, .int .i64 t] 66)).alloc (.cells o.cs.toArray 36)) (cs := [.int .i64 0, .int .i64 0, .int .i64 0]) (t := 66)
    rw [World.size_alloc, World.size_alloc] at this
    rw [← hW0]
    exact this
  obtain ⟨X, hX⟩ : ∃ X, X = w.heap.size := ⟨_, rfl⟩
  rw [← hX] at k0 k1 k2
  have HX := Lib.hid hX
  have M0 := Lib.hid m0
  have K0 := Lib.hid k0
  have K1 := Lib.hid k1
  have K2 := Lib.hid k2
  have HO := Lib.hid h
  have H0 := Lib.hid h
  have a0 := k0.cell 0
  have a1 := k0.cell 1
  have a2 := k0.cell 2
  have d0 := k1.cell 0
  have d1 := k1.cell 1
  have d2 := k1.cell 2
  have d3 := k1.cell 3
  have d4 := k1.cell 4
  have d5 := k1.cell 5
  have d6 := k1.cell 6
  simp only [OpV.cs, List.getElem?_cons_zero, List.getElem?_cons_succ] at a0 a1 a2 d0 d1 d2 d3 d4 d5 d6
  have HM := Lib.hid (cmay_any s a t size)
  rw [hm] at HM
  have HK := Lib.hid hk
  have HQ1 := Lib.hid h1
  have HQ2 := Lib.hid h2
  have HQ3 := Lib.hid h3
  have HQ4 := Lib.hid h4
  clear hA hT m0 k0 k1 k2 hm hk h h1 h2 h3 h4 HO
  go_enter Tryd.func34, Tryd.ntmps34
  go_upto_region 1 with fail
  clear hW0
  rw [← hX]
  clear hX
  go_wp2_with fail
  refine (HM.out _).mono ?_
  rintro e w1 ⟨rfl, m1⟩
  have k1 := K1.out.mod m1 (fun e => e)
  have M1 := Lib.hid (M0.out.trans m1)
  clear d0 d1 d2 d3 d4 d5 d6 a0 a1 a2
  have d0 := k1.cell 0
  have d1 := k1.cell 1
  have d2 := k1.cell 2
  have d3 := k1.cell 3
  have d4 := k1.cell 4
  have d5 := k1.cell 5
  have d6 := k1.cell 6
  simp only [OpV.cs, List.getElem?_cons_zero, List.getElem?_cons_succ] at d0 d1 d2 d3 d4 d5 d6
  have HI := Lib.hid (mayIns_any o size w1 l (H0.out.grown M1.out) HK.out HQ1.out HQ2.out HQ3.out)
  rw [HQ4.out] at HI
  have K01 := Lib.hid (K0.out.mod m1 (fun e => e))
  have K11 := Lib.hid k1
  have K21 := Lib.hid (K2.out.mod m1 (fun e => e))
  clear m1 k1
  go_wp2_with fail
  refine HI.out.mono ?_
  rintro e w2 ⟨rfl, m2⟩
  have k0 := K01.out.mod m2 (fun e => e)
  have M2 := Lib.hid (M1.out.trans m2)
  have K12 := Lib.hid (K11.out.mod m2 (fun e => e))
  have K22 := Lib.hid (K21.out.mod m2 (fun e => e))
  have a0 := k0.cell 0
  have a1 := k0.cell 1
  have a2 := k0.cell 2
  simp only [List.getElem?_cons_zero, List.getElem?_cons_succ] at a0 a1 a2
  have K02 := Lib.hid k0
  clear d0 d1 d2 d3 d4 d5 d6 m2 k0
  go_wp2_with fail
  refine (places_any s a t _).mono ?_
  rintro e w3 ⟨rfl, m3⟩
  go_wp2_with fail
  obtain ⟨P, hPe⟩ : ∃ P, P = w3.heap.size := ⟨_, rfl⟩
  have kP : Blk (w3.alloc (.cells #[.int .i64 a, .int .i64 t] 24)) P [.int .i64 a, .int .i64 t] 24 := by rw [hPe]; exact Blk.new
  have mP := Lib.hid (m3.alloc (.cells #[.int .i64 a, .int .i64 t] 24))
  have MP := Lib.hid (M2.out.trans mP.out)
  have hPw : X + 2 < P := by have := K22.out.lt; have := m3.size; omega
  rw [← hPe]
  clear hPe m3
  generalize w3.alloc (.cells #[.int .i64 a, .int .i64 t] 24) = wP at kP mP MP ⊢
  have KP0 := Lib.hid (K02.out.mod mP.out (fun e => e))
  have KP1 := Lib.hid (K12.out.mod mP.out (fun e => e))
  have KP2 := Lib.hid (K22.out.mod mP.out (fun e => e))
  clear a0 a1 a2
  go_loopg [25] 2 (fun g s25 wx => ∃ k : Nat, g = 2 - k ∧ s25 = .int .i64 k ∧ k ≤ 2 ∧ Mod (one P) wP wx ∧ Blk wx P (twoAt k a t A T) 24)
  case atStart => exact ⟨0, rfl, rfl, by omega, Mod.refl _ _, kP⟩
  case round =>
    obtain ⟨k, rfl, rfl, hk2, mx, kx⟩ := hrel
    match k, hk2, kx with
    | 0, _, kx =>
      have kx0 : Blk wr P [.int .i64 a, .int .i64 t] 24 := kx
      have kA := KP0.out.mod mx (fun e => by have e' : X = P := e; omega)
      have kB := KP1.out.mod mx (fun e => by have e' : X + 1 = P := e; omega)
      have MW := Lib.hid (MP.out.transIn mx (fun b hb e => by have e' : b = P := e; have := HX.out; omega))
      have KX := Lib.hid kx0
      have MX := Lib.hid mx
      have q0 := kx0.cell 0
      have a0 := kA.cell 0
      have d0 := kB.cell 0
      have d1 := kB.cell 1
      have d2 := kB.cell 2
      have d3 := kB.cell 3
      have d4 := kB.cell 4
      have d5 := kB.cell 5
      have d6 := kB.cell 6
      simp only [OpV.cs, List.getElem?_cons_zero, List.getElem?_cons_succ] at q0 a0 d0 d1 d2 d3 d4 d5 d6
      have hH := H0.out.grown MW.out
      clear kx kx0 kA kB mx
      go_upto_region 7 with fail
      go_region_held3 (fun w' => Mod none_ wr w' ∧ w'.cell? ⟨P, 0, none⟩ = some (.int .i64 a) ∧ w'.cell? ⟨X, 0, none⟩ = some (.int .i64 s) ∧ w'.cell? ⟨X + 1, 0, none⟩ = some (.int .i64 o.site) ∧ w'.cell? ⟨X + 1, 1, none⟩ = some (.int .i64 o.seq) ∧ w'.cell? ⟨X + 1, 2, none⟩ = some (.int .i64 o.num) ∧ w'.cell? ⟨X + 1, 3, none⟩ = some (.int .i64 o.kind) ∧ w'.cell? ⟨X + 1, 4, none⟩ = some (.int .i64 o.at_) ∧ w'.cell? ⟨X + 1, 5, none⟩ = some (.string o.text) ∧ w'.cell? ⟨X + 1, 6, none⟩ = some (.slice o.sa o.slen o.scap))
        (first
          | exact ⟨Mod.drew (Mod.refl none_ wr), q0, a0, d0, d1, d2, d3, d4, d5, d6⟩
          | assumption
          | (obtain ⟨q, qa, qb, q0, q1, q2, q3, q4, q5, q6⟩ := ‹Mod none_ wr _ ∧ _›; exact ⟨q.trans m1, m1.cell (fun e => e) qa, m1.cell (fun e => e) qb, m1.cell (fun e => e) q0, m1.cell (fun e => e) q1, m1.cell (fun e => e) q2, m1.cell (fun e => e) q3, m1.cell (fun e => e) q4, m1.cell (fun e => e) q5, m1.cell (fun e => e) q6⟩))
        (first
          | (go_at_call 65; refine (ipoint_any o a size _ _ _ (hH.grown (And.left (by assumption))) HK.out HQ1.out HQ2.out HQ3.out HQ4.out (by omega)).mono ?_; rintro e w4 ⟨rfl, m1⟩))
      rename_i hHeld
      have M4 := And.left hHeld
      have k4 := KX.out.mod M4 (fun e => e)
      have x0 := k4.cell 0
      have x1 := k4.cell 1
      simp only [List.getElem?_cons_zero, List.getElem?_cons_succ] at x0 x1
      have r0 := k4.frozen 0
      have r1 := k4.frozen 1
      have K4 := Lib.hid k4
      have M5 := Lib.hid (MX.out.trans (M4.mono (T := one P) (fun _ _ e => e.elim)))
      clear hHeld M4 k4 m1
      rw [← HA.out]
      go_wp2_with fail
      go_roundg 1
      all_goals first
        | omega
        | exact ⟨1, rfl, by go_num, by omega, M5.out.setCell ⟨P, 0, none⟩ (fun _ => rfl) _, K4.out.set 0 (.int .i64 A)⟩
    | 1, _, kx =>
      have kx0 : Blk wr P [.int .i64 A, .int .i64 t] 24 := kx
      have kA := KP0.out.mod mx (fun e => by have e' : X = P := e; omega)
      have kB := KP1.out.mod mx (fun e => by have e' : X + 1 = P := e; omega)
      have MW := Lib.hid (MP.out.transIn mx (fun b hb e => by have e' : b = P := e; have := HX.out; omega))
      have KX := Lib.hid kx0
      have MX := Lib.hid mx
      have q0 := kx0.cell 1
      have a0 := kA.cell 0
      have d0 := kB.cell 0
      have d1 := kB.cell 1
      have d2 := kB.cell 2
      have d3 := kB.cell 3
      have d4 := kB.cell 4
      have d5 := kB.cell 5
      have d6 := kB.cell 6
      simp only [OpV.cs, List.getElem?_cons_zero, List.getElem?_cons_succ] at q0 a0 d0 d1 d2 d3 d4 d5 d6
      have hH := H0.out.grown MW.out
      clear kx kx0 kA kB mx
      go_upto_region 7 with fail
      go_region_held3 (fun w' => Mod none_ wr w' ∧ w'.cell? ⟨P, 1, none⟩ = some (.int .i64 t) ∧ w'.cell? ⟨X, 0, none⟩ = some (.int .i64 s) ∧ w'.cell? ⟨X + 1, 0, none⟩ = some (.int .i64 o.site) ∧ w'.cell? ⟨X + 1, 1, none⟩ = some (.int .i64 o.seq) ∧ w'.cell? ⟨X + 1, 2, none⟩ = some (.int .i64 o.num) ∧ w'.cell? ⟨X + 1, 3, none⟩ = some (.int .i64 o.kind) ∧ w'.cell? ⟨X + 1, 4, none⟩ = some (.int .i64 o.at_) ∧ w'.cell? ⟨X + 1, 5, none⟩ = some (.string o.text) ∧ w'.cell? ⟨X + 1, 6, none⟩ = some (.slice o.sa o.slen o.scap))
        (first
          | exact ⟨Mod.drew (Mod.refl none_ wr), q0, a0, d0, d1, d2, d3, d4, d5, d6⟩
          | assumption
          | (obtain ⟨q, qa, qb, q0, q1, q2, q3, q4, q5, q6⟩ := ‹Mod none_ wr _ ∧ _›; exact ⟨q.trans m1, m1.cell (fun e => e) qa, m1.cell (fun e => e) qb, m1.cell (fun e => e) q0, m1.cell (fun e => e) q1, m1.cell (fun e => e) q2, m1.cell (fun e => e) q3, m1.cell (fun e => e) q4, m1.cell (fun e => e) q5, m1.cell (fun e => e) q6⟩))
        (first
          | (go_at_call 65; refine (ipoint_any o t size _ _ _ (hH.grown (And.left (by assumption))) HK.out HQ1.out HQ2.out HQ3.out HQ4.out (by omega)).mono ?_; rintro e w4 ⟨rfl, m1⟩))
      rename_i hHeld
      have M4 := And.left hHeld
      have k4 := KX.out.mod M4 (fun e => e)
      have x0 := k4.cell 0
      have x1 := k4.cell 1
      simp only [List.getElem?_cons_zero, List.getElem?_cons_succ] at x0 x1
      have r0 := k4.frozen 0
      have r1 := k4.frozen 1
      have K4 := Lib.hid k4
      have M5 := Lib.hid (MX.out.trans (M4.mono (T := one P) (fun _ _ e => e.elim)))
      clear hHeld M4 k4 m1
      rw [← HT.out]
      go_wp2_with fail
      go_roundg 0
      all_goals first
        | omega
        | exact ⟨2, rfl, by go_num, by omega, M5.out.setCell ⟨P, 1, none⟩ (fun _ => rfl) _, K4.out.set 1 (.int .i64 T)⟩
    | 2, _, kx =>
      have kx0 : Blk wr P [.int .i64 A, .int .i64 T] 24 := kx
      have kA := KP0.out.mod mx (fun e => by have e' : X = P := e; omega)
      have kB := KP2.out.mod mx (fun e => by have e' : X + 1 + 1 = P := e; omega)
      have MW := Lib.hid (MP.out.transIn mx (fun b hb e => by have e' : b = P := e; have := HX.out; omega))
      have a0 := kA.cell 0
      have a1 := kA.cell 1
      have a2 := kA.cell 2
      have q0 := kx0.cell 0
      have q1 := kx0.cell 1
      simp only [List.getElem?_cons_zero, List.getElem?_cons_succ] at a0 a1 a2 q0 q1
      have KB := Lib.hid kB
      clear kA kB kx kx0 mx kP
      go_wp2_with fail
      refine (at_any s a t A T _).mono ?_
      rintro e w5 ⟨rfl, m5⟩
      have k1 := KB.out.mod m5 (fun e => e)
      have M5 := Lib.hid (MW.out.trans m5)
      have d0 := k1.cell 0
      have d1 := k1.cell 1
      have d2 := k1.cell 2
      simp only [List.getElem?_cons_zero, List.getElem?_cons_succ] at d0 d1 d2
      have r0 := k1.frozen 0
      have r1 := k1.frozen 1
      have r2 := k1.frozen 2
      have KF := Lib.hid (((k1.set 0 (.int .i64 s)).set 1 (.int .i64 A)).set 2 (.int .i64 T))
      have MF := Lib.hid (((M5.out.setCell ⟨X + 1 + 1, 0, none⟩ (fun h => absurd h (by have := HX.out; simp; omega)) (.int .i64 s)).setCell ⟨X + 1 + 1, 1, none⟩ (fun h => absurd h (by have := HX.out; simp; omega)) (.int .i64 A)).setCell ⟨X + 1 + 1, 2, none⟩ (fun h => absurd h (by have := HX.out; simp; omega)) (.int .i64 T))
      clear k1 m5
      go_wp2_with fail
      exact bodyPost_ret (results_mkt rfl _ _ (X + 1 + 1) [.int .i64 s, .int .i64 A, .int .i64 T] rfl rfl (blk_range KF.out)) rfl ⟨rfl, MF.out⟩

end Go.Proofs.YtlbkalbelefhmaaDoor

namespace Go.Proofs.YtlbkalbelefhmaaDoor
open Go.RowKit Go.Mine

/-- Blank cells. -/
def blanks (k : Nat) : List CellV := (List.range k).map fun i : Nat => ⟨99, 1, (i : Int), 46, false⟩
theorem blanks_succ (k : Nat) : blanks (k + 1) = blanks k ++ [⟨99, 1, (k : Int), 46, false⟩] := by
  unfold blanks; rw [List.range_succ, List.map_append]; rfl
theorem blanks_len (k : Nat) : (blanks k).length = k := by unfold blanks; simp

set_option maxHeartbeats 2000000 in
set_option maxRecDepth 1000000 in
theorem blank_any (n : Nat) (w : World) (hn : n ≤ 1000000) :
    Calls Tryd.prog 59 #[.int .i64 (n : Int)] w fun e w' => ∃ v, e = .returned v ∧ w'.ownsRow w.heap.size 63 5 v n (flat CellV.cs (blanks n)) ∧ Mod none_ w w' := by
  obtain ⟨i0, hi0, hz0, hz1, hz2⟩ := info_parts infoCell
  go_enter Tryd.func59, Tryd.ntmps59
  go_wp2_with fail
  go_loopg [3, 4] n (fun g s3 s4 wx => ∃ k : Nat, g = n - k ∧ s4 = .int .i64 k ∧ k ≤ n ∧ Mod none_ w wx ∧ wx.ownsRow w.heap.size 63 5 s3 k (flat CellV.cs (blanks k)))
  case atStart => exact ⟨0, rfl, rfl, Nat.zero_le _, Mod.refl _ _, World.ownsRow_nil _ _ _ _⟩
  case round =>
    obtain ⟨k, rfl, rfl, hk, m1, ho⟩ := hrel
    have M1 := Lib.hid m1
    have O1 := Lib.hid ho
    have hsz := m1.size
    by_cases hlk : k < n
    · have hdd : decide ((k : Int) < (n : Int)) = true := by simp; omega
      have hfl : (flat CellV.cs (blanks k)).length = k * 5 := by rw [flat_length CellV.len, blanks_len]
      clear m1 ho
      go_wp2_with (at_builtin; refine wpList_append_own _ rfl (.tmp 10) (.tmp 14) 22 rfl w.heap.size 63 i0 _ 5 32 Tryd.underlying22 hi0 hz0 hz1 hz2 rfl (by decide) _ k (flat CellV.cs (blanks k)) rfl (by exact ownsRow_mod O1.out ((Mod.refl none_ wr).alloc _) (fun _ _ e => e)) ⟨wr.heap.size, 0, none⟩ 1 1 (CellV.cs ⟨99, 1, (k : Int), 46, false⟩) rfl rfl (World.news_of_block (heap_alloc_new wr _)) (CellV.ones _) (by unfold maxLen; omega) (by omega) (by simp; omega) ?_; intro v' w1 ho hg _; have HO := Lib.hid ho; have MV := Lib.hid ((M1.out.alloc _).grown hg (fun j e hj => absurd hj (by have := (O1.out.lt j e).1; omega))); clear ho hg)
      go_roundg (n - (k + 1))
      case measure => omega
      case rel =>
        refine ⟨k + 1, rfl, by go_num, by omega, MV.out, ?_⟩
        have := HO.out
        rw [blanks_succ, flat_append]
        simpa [flat] using this
    · obtain rfl : k = n := by omega
      have hdd : decide ((k : Int) < (k : Int)) = false := by simp
      clear m1 ho
      go_wp2_with fail
      go_ret
      exact ⟨_, rfl, O1.out, M1.out⟩

end Go.Proofs.YtlbkalbelefhmaaDoor

namespace Go.Proofs.YtlbkalbelefhmaaDoor
open Go.RowKit Go.Mine
open Classical

def xy : ByteArray := ⟨#[120, 121]⟩
theorem ulen_xy : ulen xy = 2 := by
  have h0 : Lib.decodeGo xy = (120, 1) := by decide
  have h1 : tl xy 1 = ⟨#[121]⟩ := by decide
  have h2 : Lib.decodeGo ⟨#[121]⟩ = (121, 1) := by decide
  have h3 : tl ⟨#[121]⟩ 1 = ⟨#[]⟩ := by decide
  unfold ulen
  rw [runesOf_step (by decide) (by unfold bad1; rw [h0]; decide), h0]
  dsimp only
  rw [h1, runesOf_step (by decide) (by unfold bad1; rw [h2]; decide), h2]
  dsimp only
  rw [h3, runesOf_nil (by decide)]
  rfl
theorem ascii_xy : ascii xy := by unfold ascii xy; decide

/-- alive's operation, by a site. -/
def alOp (s : Int) : OpV := ⟨s, 1, 0, 1, 1, xy, none, 0, 0⟩
theorem alOp_ok (s : Int) (hs : 1 ≤ s ∧ s ≤ 16) (w : World) : (alOp s).ok w [] := by
  refine ⟨?_, ?_, ?_, ?_, ?_, .inr ascii_xy, (by decide : xy.size < 4611686018427387904), ⟨rfl, Nat.le_refl _, Nat.zero_le _, fun x hx => (by cases hx), fun i x hx => by simp at hx⟩⟩ <;> simp [alOp] <;> omega
theorem alOp_ins (s : Int) : insOk (alOp s) 3 = true := by
  have h : xy.size = 2 := by decide
  simp [insOk, alOp, textOk, ulen_xy, inB, h]
theorem alOp_adds (s : Int) : addsOf (alOp s) = 2 := by
  unfold addsOf alOp
  rw [if_pos rfl]
  dsimp only
  rw [ulen_xy]
  rfl

/-- alive's cells, k of them turned. -/
def alC (k : Nat) : List CellV := (List.range 3).map fun i : Nat => ⟨if i < k then 9 else 99, 1, (i : Int), 46, false⟩
theorem alC_ok : ∀ c ∈ alC 3, c.ok := by
  intro c hc
  simp [alC, List.range, List.range.loop] at hc
  rcases hc with rfl | rfl | rfl <;> exact ⟨by dsimp only; omega, by dsimp only; omega, by dsimp only; omega, by dsimp only; omega⟩
theorem alC_new : newE (alC 3) = 0 := by
  unfold newE
  rw [if_pos (by decide), if_pos (by simp [alC, List.range, List.range.loop, CellV.id]), if_pos (by decide)]
theorem alC_put : putV (alC 3) 1 1 1 = .tuple #[.agg #[.int .i64 1, .int .i64 1, .int .i64 1], .int .i64 0] := by
  have h1 : gapBad (alC 3) 1 = false := by decide
  have h2 : gapN (alC 3) 1 = 1 := by decide
  unfold putV
  rw [h1, h2]
  rfl
theorem alC_blanks : alC 0 = blanks 3 := by rfl

end Go.Proofs.YtlbkalbelefhmaaDoor

namespace Go.Proofs.YtlbkalbelefhmaaDoor
open Go.RowKit Go.Mine

theorem al_mv2 : pointOf 1 (alOp 2).at_ (addsOf (alOp 2)) ((alOp 2).site != 1) = 1 := by rw [alOp_adds]; rfl
theorem al_mv1 : pointOf 1 (alOp 1).at_ (addsOf (alOp 1)) ((alOp 1).site != 1) = 3 := by rw [alOp_adds]; rfl
theorem al_move (s r : Int) (hs : 1 ≤ s ∧ s ≤ 16) (hr : pointOf 1 (alOp s).at_ (addsOf (alOp s)) ((alOp s).site != 1) = r) (w : World) :
    Calls Tryd.prog 34 #[.agg #[.int .i64 1, .int .i64 1, .int .i64 1], (alOp s).v, .int .i64 3] w fun e w' => e = .returned (.tuple #[.agg #[.int .i64 1, .int .i64 r, .int .i64 r], .int .i64 0]) ∧ Mod none_ w w' := by
  have h := move_ins (alOp s) 1 1 1 3 w [] (alOp_ok s hs w) rfl (by decide) (by show nameOk s 1 = true; simp [nameOk, inB]; omega) (by show inB 0 0 1099511627776 = true; decide) (alOp_ins s) (by decide)
  rw [hr] at h
  exact h

set_option maxHeartbeats 4000000 in
set_option maxRecDepth 1000000 in
theorem alive_any (w : World) : Calls Tryd.prog 31 #[] w fun e w' => e = .returned (.bool true) ∧ Mod none_ w w' := by
  go_enter Tryd.func31, Tryd.ntmps31
  go_wp2_with fail
  refine (blank_any 3 w (by omega)).mono ?_
  rintro e w1 ⟨v, rfl, ho, m1⟩
  rcases ownsRow_blk ho with ⟨rfl, h0, _⟩ | ⟨g, cap, more, rfl, hg, kb, hnc, hcm, _⟩
  · omega
  rw [← alC_blanks] at kb
  have hcm' := hcm
  unfold maxLen at hcm'
  have KB := Lib.hid kb
  have M1 := Lib.hid m1
  have HCM := Lib.hid hcm
  clear ho kb m1 hcm
  go_wp2_with fail
  go_loopg [2] 3 (fun gg s2 wx => ∃ k : Nat, gg = 3 - k ∧ s2 = .int .i64 k ∧ k ≤ 3 ∧ Mod none_ w wx ∧ Blk wx g (flat CellV.cs (alC k) ++ more) 63)
  case atStart => exact ⟨0, rfl, rfl, by omega, M1.out, KB.out⟩
  case round =>
    obtain ⟨k, rfl, rfl, hk, mx, kx⟩ := hrel
    have MX := Lib.hid mx
    have KX := Lib.hid kx
    match k, hk, kx, KX with
    | 0, _, kx, KX =>
      have c0 : wr.cell? ⟨g, 0, none⟩ = some (.int .i64 99) := by rw [kx.cell]; rfl
      have f0 := kx.frozen 0
      clear kx mx
      go_wp2_with fail
      go_roundg 2
      all_goals first
        | omega
        | exact ⟨1, rfl, by go_num, by omega, MX.out.setCell ⟨g, 0, none⟩ (fun h => absurd h (by simp; omega)) _, KX.out.set 0 (.int .i64 9)⟩
    | 1, _, kx, KX =>
      have c0 : wr.cell? ⟨g, 5, none⟩ = some (.int .i64 99) := by rw [kx.cell]; rfl
      have f0 := kx.frozen 5
      clear kx mx
      go_wp2_with fail
      go_roundg 1
      all_goals first
        | omega
        | exact ⟨2, rfl, by go_num, by omega, MX.out.setCell ⟨g, 5, none⟩ (fun h => absurd h (by simp; omega)) _, KX.out.set 5 (.int .i64 9)⟩
    | 2, _, kx, KX =>
      have c0 : wr.cell? ⟨g, 10, none⟩ = some (.int .i64 99) := by rw [kx.cell]; rfl
      have f0 := kx.frozen 10
      clear kx mx
      go_wp2_with fail
      go_roundg 0
      all_goals first
        | omega
        | exact ⟨3, rfl, by go_num, by omega, MX.out.setCell ⟨g, 10, none⟩ (fun h => absurd h (by simp; omega)) _, KX.out.set 10 (.int .i64 9)⟩
    | 3, _, kx, KX =>
      have HN := Lib.hid (new_any wr (some ⟨g, 0, none⟩) 3 cap (alC 3) (blkCells kx rfl hnc HCM.out alC_ok) (by omega))
      clear kx mx KX
      go_wp2_with fail
      refine HN.out.mono ?_
      rintro e w3 ⟨m3, _, hd⟩
      obtain ⟨D, rfl, hdoc⟩ := hd alC_new
      have HP := put_any w3 _ D (alC 3) 1 1 1 hdoc (by decide)
      rw [alC_put] at HP
      have HP := Lib.hid HP
      have M3 := Lib.hid (MX.out.trans m3)
      clear m3 hd hdoc HN
      go_wp2_with fail
      refine HP.out.mono ?_
      rintro e w4 ⟨rfl, m4⟩
      have M4 := Lib.hid (M3.out.trans m4)
      have hz4 := m4.size
      clear m4
      go_upto_region 9 with fail
      obtain ⟨W5, hW5⟩ : ∃ W5, (w4.alloc (.cells #[.int .i64 1, .int .i64 1, .int .i64 1] 66)).alloc (.cells #[.int .i64 2, .int .i64 1, .int .i64 0, .int .i64 1, .int .i64 1, .string { data := #[120, 121] }, .slice none 0 0] 36) = W5 := ⟨_, rfl⟩
      have m5 : Mod none_ w4 W5 := by rw [← hW5]; exact ((Mod.refl none_ w4).alloc _).alloc _
      have kM : Blk W5 w4.heap.size [.int .i64 1, .int .i64 1, .int .i64 1] 66 := by
        rw [← hW5]
        exact (Blk.new (w := w4) (cs := [.int .i64 1, .int .i64 1, .int .i64 1]) (t := 66)).mod ((Mod.refl none_ _).alloc _) (fun e => e)
      have kO : Blk W5 (w4.heap.size + 1) [.int .i64 2, .int .i64 1, .int .i64 0, .int .i64 1, .int .i64 1, .string { data := #[120, 121] }, .slice none 0 0] 36 := by
        have := Blk.new (w := w4.alloc (.cells #[.int .i64 1, .int .i64 1, .int .i64 1] 66)) (cs := [.int .i64 2, .int .i64 1, .int .i64 0, .int .i64 1, .int .i64 1, .string { data := #[120, 121] }, .slice none 0 0]) (t := 36)
        rw [World.size_alloc] at this
        rw [← hW5]
        exact this
      rw [hW5]
      have M5 := Lib.hid (M4.out.trans m5)
      obtain ⟨X, hX⟩ : ∃ X, X = w4.heap.size := ⟨_, rfl⟩
      rw [← hX] at kM kO ⊢
      have hXw : w.heap.size ≤ X := by have := M4.out.size; omega
      clear hX hW5 m5 hz4
      have a0 := kM.cell 0
      have a1 := kM.cell 1
      have a2 := kM.cell 2
      have o0 := kO.cell 0
      have o1 := kO.cell 1
      have o2 := kO.cell 2
      have o3 := kO.cell 3
      have o4 := kO.cell 4
      have o5 := kO.cell 5
      have o6 := kO.cell 6
      simp only [List.getElem?_cons_zero, List.getElem?_cons_succ] at a0 a1 a2 o0 o1 o2 o3 o4 o5 o6
      have KM := Lib.hid kM
      have KO := Lib.hid kO
      clear kM kO
      go_wp2_with fail
      refine (al_move 2 1 (by omega) al_mv2 W5).mono ?_
      rintro e w6 ⟨rfl, m6⟩
      have mA := m6.alloc (.cells #[.int .i64 1, .int .i64 1, .int .i64 1] 66)
      have kA := Blk.new (w := w6) (cs := [.int .i64 1, .int .i64 1, .int .i64 1]) (t := 66)
      have hz6 := m6.size
      have hlx := KO.out.lt
      have M6 := Lib.hid (M5.out.trans mA)
      have k7 := KO.out.mod mA (fun e => e)
      have KM7 := Lib.hid (KM.out.mod mA (fun e => e))
      clear mA m6 a0 a1 a2 o0 o1 o2 o3 o4 o5 o6
      go_upto_region 10 with fail
      generalize w6.alloc (.cells #[.int .i64 1, .int .i64 1, .int .i64 1] 66) = w7 at kA k7 KM7 M6 ⊢
      obtain ⟨Y, hY⟩ : ∃ Y, Y = w6.heap.size := ⟨_, rfl⟩
      rw [← hY] at kA ⊢
      have hYX : X + 1 < Y := by omega
      clear hY hz6 hlx
      have o0 := k7.cell 0
      simp only [List.getElem?_cons_zero] at o0
      have p0 := k7.frozen 0
      have mS := (Mod.refl (one (X + 1)) w7).setCell ⟨X + 1, 0, none⟩ (fun _ => rfl) (.int .i64 1)
      have KO8 := Lib.hid (k7.set 0 (.int .i64 1))
      have KM8 := Lib.hid (KM7.out.mod mS (fun e => by have e' : X = X + 1 := e; omega))
      have KA8 := Lib.hid (kA.mod mS (fun e => by have e' : Y = X + 1 := e; omega))
      have M8 := Lib.hid (M6.out.transIn mS (fun b hb e => by have e' : b = X + 1 := e; omega))
      clear mS k7 kA
      go_upto_region 11 with fail
      generalize w7.setCell ⟨X + 1, 0, none⟩ (.int .i64 1) = w8 at KO8 KM8 KA8 M8 ⊢
      clear o0 p0
      have a0 := KM8.out.cell 0
      have a1 := KM8.out.cell 1
      have a2 := KM8.out.cell 2
      have o0 := KO8.out.cell 0
      have o1 := KO8.out.cell 1
      have o2 := KO8.out.cell 2
      have o3 := KO8.out.cell 3
      have o4 := KO8.out.cell 4
      have o5 := KO8.out.cell 5
      have o6 := KO8.out.cell 6
      simp only [List.set_cons_zero, List.getElem?_cons_zero, List.getElem?_cons_succ] at a0 a1 a2 o0 o1 o2 o3 o4 o5 o6
      go_wp2_with fail
      refine (al_move 1 3 (by omega) al_mv1 w8).mono ?_
      rintro e w9 ⟨rfl, m9⟩
      have mB := m9.alloc (.cells #[.int .i64 1, .int .i64 3, .int .i64 3] 66)
      have kB := Blk.new (w := w9) (cs := [.int .i64 1, .int .i64 3, .int .i64 3]) (t := 66)
      have M9 := Lib.hid (M8.out.trans mB)
      have kA9 := KA8.out.mod mB (fun e => e)
      clear mB m9 a0 a1 a2 o0 o1 o2 o3 o4 o5 o6
      go_upto_region 12 with fail
      generalize w9.alloc (.cells #[.int .i64 1, .int .i64 3, .int .i64 3] 66) = wB at kB kA9 M9 ⊢
      have a1 := kA9.cell 1
      have b1 := kB.cell 1
      have b2 := kB.cell 2
      simp only [List.getElem?_cons_zero, List.getElem?_cons_succ] at a1 b1 b2
      clear kA9 kB
      go_wp2_with fail
      go_ret
      exact ⟨rfl, M9.out⟩

end Go.Proofs.YtlbkalbelefhmaaDoor

namespace Go.Proofs.YtlbkalbelefhmaaDoor
open Go.RowKit Go.Mine Go.Deep
open Classical

/-- Behind some texts. -/
structure TyI (w : World) (E : Nat → Prop) (wx : World) (D KM KW c : Nat) (l : List CellV) (i : Nat) (L : List CellV) (p : Nat) (rs : List Int) : Prop where
  f : DocF w E wx D L
  km : Blk wx KM [.int .i64 3, .int .i64 (p : Int), .int .i64 (p : Int)] 66
  kw : Blk wx KW (r32s (liveR l) ++ List.replicate c (Value.int .i32 0)) 21
  em : E KM
  ew : E KW
  lo : ∀ k, E k → w.heap.size ≤ k
  ap : KM ≠ KW
  ty : Typ l i L p rs
theorem TyI.grown {w wx wy : World} {E : Nat → Prop} {D KM KW c i p : Nat} {l L : List CellV} {rs : List Int} (h : TyI w E wx D KM KW c l i L p rs) (m : Mod none_ wx wy) : TyI w E wy D KM KW c l i L p rs :=
  { h with f := h.f.grown m, km := h.km.mod m (fun e => e), kw := h.kw.mod m (fun e => e) }
theorem TyI.box {w wx wy : World} {E : Nat → Prop} {D KM KW c i p : Nat} {l L : List CellV} {rs : List Int} (h : TyI w E wx D KM KW c l i L p rs) (m : Mod none_ wx wy) : TyI w (fun k => E k ∨ (wx.heap.size ≤ k ∧ k < wy.heap.size)) wy D KM KW c l i L p rs :=
  { h with f := h.f.box m, km := h.km.mod m (fun e => e), kw := h.kw.mod m (fun e => e), em := .inl h.em, ew := .inl h.ew, lo := (fun k hk => by
      rcases hk with hk | hk
      · exact h.lo k hk
      · have := h.f.m.size; omega) }
theorem TyI.less {w wx : World} {E E' : Nat → Prop} {D KM KW c i p : Nat} {l L : List CellV} {rs : List Int} (h : TyI w E wx D KM KW c l i L p rs) (hE : ∀ k, E' k → E k) (hm : E' KM) (hw : E' KW) : TyI w E' wx D KM KW c l i L p rs :=
  { h with f := h.f.less hE, em := hm, ew := hw, lo := fun k hk => h.lo k (hE k hk) }
/-- Do refused. -/
theorem TyI.same {w wx w' : World} {E : Nat → Prop} {D KM KW c i p : Nat} {l L : List CellV} {rs : List Int} (h : TyI w E wx D KM KW c l i L p rs) (d : DocN w E wx D L w') : TyI w E w' D KM KW c l i L p rs :=
  { h with f := d.f, km := d.bs _ _ _ h.em h.km, kw := d.bs _ _ _ h.ew h.kw }
/-- The caret put behind what was typed. -/
theorem TyI.put {w wx w' w2 : World} {E : Nat → Prop} {D KM KW c i p p' : Nat} {l L L' : List CellV} {rs rs' : List Int} (h : TyI w E wx D KM KW c l i L p rs) (d : DocN w E wx D L' w') (m : Mod none_ w' w2) (ht : Typ l i L' p' rs') :
    TyI w E (((w2.setCell ⟨KM, 0, none⟩ (.int .i64 3)).setCell ⟨KM, 1, none⟩ (.int .i64 (p' : Int))).setCell ⟨KM, 2, none⟩ (.int .i64 (p' : Int))) D KM KW c l i L' p' rs' := by
  have M : Mod (one KM) w2 (((w2.setCell ⟨KM, 0, none⟩ (.int .i64 3)).setCell ⟨KM, 1, none⟩ (.int .i64 (p' : Int))).setCell ⟨KM, 2, none⟩ (.int .i64 (p' : Int))) :=
    (((Mod.refl (one KM) w2).setCell ⟨KM, 0, none⟩ (fun _ => rfl) _).setCell ⟨KM, 1, none⟩ (fun _ => rfl) _).setCell ⟨KM, 2, none⟩ (fun _ => rfl) _
  have km := (d.bs _ _ _ h.em h.km).mod m (fun e => e)
  have kw := (d.bs _ _ _ h.ew h.kw).mod m (fun e => e)
  exact { f := (d.f.grown m).put (M.mono (fun k _ e => by have e' : k = KM := e; rw [e']; exact h.em)) h.lo, km := ((km.set 0 _).set 1 _).set 2 _, kw := kw.mod M (fun e => h.ap (Eq.symm e)), em := h.em, ew := h.ew, lo := h.lo, ap := h.ap, ty := ht }
theorem bytes_app (a b : List Int) : (⟨(bytesOf a).toArray⟩ : ByteArray) ++ ⟨(bytesOf b).toArray⟩ = ⟨(bytesOf (a ++ b)).toArray⟩ := by
  apply ByteArray.ext
  simp [bytesOf_append]

set_option maxHeartbeats 16000000 in
set_option maxRecDepth 1000000 in
theorem caretTypes_any (w : World) (htab : tabsOk w) (ca : Option Addr) (clen ccap : Nat) (l : List CellV) (hc : IsCells w ca clen ccap l) (i : Int) (ta : Option Addr) (tlen tcap : Nat) (ts : List ByteArray) (hts : IsStrs w ta tlen tcap ts) :
    Calls Tryd.prog 7 #[.slice ca clen ccap, .int .i64 i, .slice ta tlen tcap] w fun e w' => e = .returned (.bool true) ∧ Mod none_ w w' := by
  have hcle := hc.le
  have hcbig := hc.big
  have htle := hts.le
  have htbig := hts.big
  have hcn := hc.n
  unfold maxLen at hcbig htbig
  have HTAB := Lib.hid htab
  have HC := Lib.hid hc
  have HT := Lib.hid hts
  have HCN := Lib.hid hcn
  have HTN := Lib.hid hts.n
  clear htab hc hts hcn
  go_enter Tryd.func7, Tryd.ntmps7
  go_wp2_with fail
  refine (alive_any w).mono ?_
  rintro e w1 ⟨rfl, m1⟩
  have M1 := Lib.hid m1
  clear m1
  cases hg1 : decide (100 < (clen : Int))
  case true =>
    go_wp2_with fail
    go_ret
    exact ⟨rfl, M1.out⟩
  cases hg2 : decide (8 < (tlen : Int))
  case true =>
    go_wp2_with fail
    go_ret
    exact ⟨rfl, M1.out⟩
  have hcl : clen ≤ 100 := by simp at hg1; omega
  have htl : tlen ≤ 8 := by simp at hg2; omega
  have HN := Lib.hid (new_any w1 ca clen ccap l (HC.out.grown M1.out) (by omega))
  go_wp2_with fail
  refine HN.out.mono ?_
  rintro e w3 ⟨m3, hbad, hgood⟩
  have M3 := Lib.hid (M1.out.trans m3)
  by_cases hne0 : ¬ newE l = 0
  · have hne := hne0
    obtain ⟨E, hE⟩ : ∃ E, E = newE l := ⟨_, rfl⟩
    rw [hbad hne, ← hE]
    rw [← hE] at hne
    have hne2 : (E == 0) = false := by simpa using hne
    clear hE hbad hgood m3 HN hne0
    go_wp2_with fail
    go_ret
    exact ⟨rfl, M3.out⟩
  have hne : newE l = 0 := Classical.not_not.1 hne0
  clear hne0
  obtain ⟨D, rfl, hdoc⟩ := hgood hne
  have HNE := Lib.hid hne
  have hlen : l.length ≤ 20000 := by rw [HCN.out]; omega
  have hF3 : DocF w1 none_ w3 D l := ⟨m3, ⟨_, hdoc.s, fun k hk => ⟨hk, fun e => e⟩⟩, fun k hk => hk.elim, Cl.new hne HC.out.ok hlen⟩
  have hF3w : DocF w none_ w3 D l := ⟨M3.out, (by obtain ⟨S, h1, h2⟩ := hF3.doc; exact ⟨S, h1, fun k hk => ⟨Nat.le_trans M1.out.size (h2 k hk).1, fun e => e⟩⟩), fun k hk => hk.elim, hF3.cl⟩
  have F3 := Lib.hid hF3w
  have HP := Lib.hid (put_any w3 _ D l 3 i i hdoc (by omega))
  clear hdoc hne hbad hgood m3 HN hF3 hF3w M3
  go_wp2_with fail
  refine HP.out.mono ?_
  rintro e w4 ⟨rfl, m4⟩
  have F4 := Lib.hid (F3.out.grown m4)
  clear m4 HP F3
  cases hgb : gapBad l i
  case true =>
    have hpv : putV l 3 i i = .tuple #[.agg #[.int .i64 0, .int .i64 0, .int .i64 0], .int .i64 3] := by
      unfold putV; rw [if_pos (by decide), hgb]; rfl
    rw [hpv]
    have hgb' : decide (i < 0) = true ∨ (decide (i < 0) = false ∧ decide ((liveN l : Int) < i) = true) := by
      unfold gapBad at hgb
      cases h : decide (i < 0) <;> simp_all
    have M4 := Lib.hid (F4.out.m.alloc (.cells #[.int .i64 0, .int .i64 0, .int .i64 0] 66))
    have HL := Lib.hid (rlive_any (w4.alloc (.cells #[.int .i64 0, .int .i64 0, .int .i64 0] 66)) ca clen ccap l (HC.out.grown M4.out))
    clear hpv hgb
    rcases hgb' with h1 | ⟨h1, h2⟩
    · go_wp2_with fail
      go_ret
      exact ⟨rfl, M4.out⟩
    · go_wp2_with fail
      refine HL.out.mono ?_
      rintro e w5 ⟨rfl, m5⟩
      have M5 := Lib.hid (M4.out.trans m5)
      clear m5
      go_wp2_with fail
      go_ret
      exact ⟨rfl, M5.out⟩
  have hpv : putV l 3 i i = .tuple #[.agg #[.int .i64 3, .int .i64 (gapN l i), .int .i64 (gapN l i)], .int .i64 0] := by
    unfold putV; rw [if_pos (by decide), hgb]; rfl
  obtain ⟨hg3, hg4⟩ := gapN_le hgb
  have TY := Lib.hid (Typ.start hgb)
  obtain ⟨n, rfl⟩ : ∃ n : Nat, i = n := by simp [gapBad] at hgb; exact ⟨i.toNat, by omega⟩
  have hnl : n ≤ liveN l := by simp [gapBad] at hgb; omega
  rw [Int.toNat_natCast] at TY
  obtain ⟨G, hG⟩ : ∃ G : Nat, gapN l n = G := ⟨(gapN l n).toNat, by omega⟩
  rw [hpv, hG]
  rw [hG, Int.toNat_natCast] at TY
  clear hpv hgb hg3 hg4 hG hg1 hg2
  have hva := liveR_valid HNE.out
  have htx := textB_valid hva
  obtain ⟨R, hR⟩ : ∃ R, R = liveR l := ⟨_, rfl⟩
  have hRl : R.length = liveN l := by rw [hR, liveR_len]
  rw [← hR] at hva htx
  have HVA := Lib.hid hva
  have HTX := Lib.hid htx
  have HR := Lib.hid hR
  have kM := Blk.new (w := w4) (cs := [.int .i64 3, .int .i64 (G : Int), .int .i64 (G : Int)]) (t := 66)
  have mM := (Mod.refl none_ w4).alloc (.cells #[.int .i64 3, .int .i64 (G : Int), .int .i64 (G : Int)] 66)
  obtain ⟨KM, hKM⟩ : ∃ KM, KM = w4.heap.size := ⟨_, rfl⟩
  rw [← hKM] at kM
  have HKM := Lib.hid hKM
  have MM := Lib.hid mM
  have KMB := Lib.hid kM
  clear kM mM hva htx hR
  go_upto_region 9 with fail
  rw [← hKM]
  clear hKM
  generalize w4.alloc (.cells #[.int .i64 3, .int .i64 (G : Int), .int .i64 (G : Int)] 66) = w5 at KMB MM ⊢
  have HTE : RowKit.Hid (Calls Tryd.prog 13 #[.pointer (some ⟨D, 0, none⟩)] w5 fun e w' => e = .returned (.string ⟨(bytesOf R).toArray⟩) ∧ Mod none_ w5 w') := by
    obtain ⟨S, h1, _⟩ := (F4.out.grown MM.out).doc
    obtain ⟨v, MB, bl, hv, _, hl, _⟩ := h1.ex
    have := text_cells w5 D MB v bl hv (by rw [hl]; exact F4.out.cl.ok) (by rw [hl]; omega)
    rw [hl, HTX.out] at this
    exact Lib.hid this
  go_wp2_with fail
  refine HTE.out.mono ?_
  rintro e w6 ⟨rfl, m6⟩
  have hRb : R.length ≤ 20000 := by have := liveN_le l; omega
  obtain ⟨cw, hcw, CV⟩ := conv_sr2 w6 R HVA.out (by omega)
  have hR0 : (r32s R).length = R.length := by simp [r32s]
  obtain ⟨W7, hW7⟩ : ∃ W7, w6.drew.alloc (.cells (r32s R ++ List.replicate (cw - R.length) (Value.int .i32 0)).toArray 21) = W7 := ⟨_, rfl⟩
  rw [hW7] at CV
  obtain ⟨KW, hKW⟩ : ∃ KW, KW = w6.heap.size := ⟨_, rfl⟩
  have m7 : Mod none_ w6 W7 := by rw [← hW7]; exact (Mod.drew (Mod.refl none_ w6)).alloc _
  have kW : Blk W7 KW (r32s R ++ List.replicate (cw - R.length) (Value.int .i32 0)) 21 := by rw [← hW7, hKW]; exact Blk.new (w := w6.drew)
  rw [← hKW] at CV
  have m47 : Mod none_ w4 W7 := (MM.out.trans m6).trans m7
  have hT0 : TyI w (fun k => w4.heap.size ≤ k ∧ k < W7.heap.size) W7 D KM KW (cw - R.length) l n l G [] := by
    have hz := MM.out.size
    have hkm := (KMB.out.mod (m6.trans m7) (fun e => e))
    have hz6 := m6.size
    have h1 := KMB.out.lt
    have := HKM.out
    refine { f := (F4.out.box m47).less (fun k hk => .inr hk), km := hkm, kw := by rw [← HR.out]; exact kW, em := ⟨by omega, hkm.lt⟩, ew := ⟨by omega, kW.lt⟩, lo := fun k hk => by have := F4.out.m.size; omega, ap := by omega, ty := TY.out }
  obtain ⟨E0, hE0⟩ : ∃ E0, E0 = fun k => w4.heap.size ≤ k ∧ k < W7.heap.size := ⟨_, rfl⟩
  rw [← hE0] at hT0
  have T0 := Lib.hid hT0
  clear hT0 hE0 m47 kW m7 hW7 hKW MM KMB m6 TY HKM
  go_wp2_with fail
  clear CV
  go_loopg [11, 12] tlen (fun g s11 s12 wx => ∃ (k p : Nat) (L : List CellV) (rs : List Int), g = tlen - k ∧ s11 = .string ⟨(bytesOf rs).toArray⟩ ∧ s12 = .int .i64 k ∧ k ≤ tlen ∧ rs.length ≤ 200 * k ∧ RowKit.Hid (TyI w E0 wx D KM KW (cw - R.length) l n L p rs))
  case atStart => exact ⟨0, G, l, [], rfl, rfl, rfl, Nat.zero_le _, Nat.zero_le _, T0⟩
  case round =>
    obtain ⟨k, p, L, rs, rfl, rfl, rfl, hk, hrl, hst⟩ := hrel
    have hLb := hst.out.f.cl.big
    have hpL := hst.out.ty.hp
    by_cases hlk : k < tlen
    · obtain ⟨t, hx⟩ : ∃ x, ts[k]? = some x := ⟨ts[k]'(by rw [HTN.out]; exact hlk), by simp⟩
      obtain ⟨b, off, rfl, hr⟩ := HT.out.cells k t hx
      clear hx
      go_wp2_with fail
      refine (size_any wr 0 D L hst.out.f.is (by omega)).mono ?_
      rintro e wq ⟨rfl, mq⟩
      have SQ := Lib.hid (hst.out.grown mq)
      have tc := SQ.out.f.m.cell (fun e => e) hr
      have HRC := Lib.hid hr
      have a1 := SQ.out.km.cell 1
      simp only [List.getElem?_cons_zero, List.getElem?_cons_succ] at a1
      have hw : IntKind.i64.wrap (549755813888 + (k : Int)) = 549755813888 + (k : Int) := by rw [IntKind.wrap_i64]; omega
      clear mq
      go_upto_region 17 with fail
      refine wp_region_held_drew (S := fun w' => Mod none_ wq w' ∧ w'.cell? ⟨KM, 1, none⟩ = some (.int .i64 (p : Int)) ∧ w'.cell? ⟨b, off + k, none⟩ = some (.string t)) (by kernel_rfl) ⟨Mod.drew (Mod.refl none_ wq), a1, tc⟩ (fun hS => ?_)
      refine wpAnyH_take (i := 0) (v := .int .i64 k) rfl (by kernel_rfl) (by kernel_rfl) (by kernel_rfl) (fun _ _ _ h => h) (Or.inl ⟨by kernel_rfl, ?_⟩) hS ?_
      · rintro w' ⟨_, q1, q2⟩; go_simp
      try simp only [Act.put, List.setIfInBounds_toArray]
      refine wpAnyH_take (i := 1) (v := .int .i64 (549755813888 + (k : Int))) rfl (by kernel_rfl) (by kernel_rfl) (by kernel_rfl) (fun _ _ _ h => h) (Or.inl ⟨by kernel_rfl, ?_⟩) hS ?_
      · rintro w' ⟨_, q1, q2⟩; go_simp
      try simp only [Act.put]
      refine wpAnyH_take (i := 2) (v := .agg #[.int .i64 3, .int .i64 (549755813888 + (k : Int))]) rfl (by kernel_rfl) (by kernel_rfl) (by kernel_rfl) (fun _ _ _ h => h) (Or.inl ⟨by kernel_rfl, ?_⟩) hS ?_
      · rintro w' ⟨_, q1, q2⟩; go_simp
      try simp only [Act.put]
      refine wpAnyH_take (i := 3) (v := .pointer (some ⟨KM, 1, none⟩)) rfl (by kernel_rfl) (by kernel_rfl) (by kernel_rfl) (fun _ _ _ h => h) (Or.inl ⟨by kernel_rfl, ?_⟩) hS ?_
      · rintro w' ⟨_, q1, q2⟩; go_simp
      try simp only [Act.put]
      refine wpAnyH_take (i := 4) (v := .int .i64 (p : Int)) rfl (by kernel_rfl) (by kernel_rfl) (by kernel_rfl) (fun _ _ _ h => h) (Or.inl ⟨by kernel_rfl, ?_⟩) hS ?_
      · rintro w' ⟨_, q1, q2⟩; go_simp
      try simp only [Act.put]
      refine wpAnyH_take (i := 5) (v := .slice (some ⟨b, off, none⟩) tlen tcap) rfl (by kernel_rfl) (by kernel_rfl) (by kernel_rfl) (fun _ _ _ h => h) (Or.inl ⟨by kernel_rfl, ?_⟩) hS ?_
      · rintro w' ⟨_, q1, q2⟩; go_simp
      try simp only [Act.put]
      refine wpAnyH_take (i := 6) (v := .int .i64 k) rfl (by kernel_rfl) (by kernel_rfl) (by kernel_rfl) (fun _ _ _ h => h) (Or.inl ⟨by kernel_rfl, ?_⟩) hS ?_
      · rintro w' ⟨_, q1, q2⟩; go_simp
      try simp only [Act.put]
      refine wpAnyH_take (i := 7) (v := .pointer (some ⟨b, off + k, none⟩)) rfl (by kernel_rfl) (by kernel_rfl) (by kernel_rfl) (fun _ _ _ h => h) (Or.inl ⟨by kernel_rfl, ?_⟩) hS ?_
      · rintro w' ⟨_, q1, q2⟩; go_simp
      try simp only [Act.put]
      refine wpAnyH_take (i := 8) (v := .string t) rfl (by kernel_rfl) (by kernel_rfl) (by kernel_rfl) (fun _ _ _ h => h) (Or.inl ⟨by kernel_rfl, ?_⟩) hS ?_
      · rintro w' ⟨_, q1, q2⟩; go_simp
      try simp only [Act.put]
      refine wpAnyH_take (i := 9) (v := .agg #[.int .i64 3, .int .i64 (549755813888 + (k : Int)), .int .i64 0, .int .i64 1, .int .i64 (p : Int), .string t, .slice none 0 0]) rfl (by kernel_rfl) (by kernel_rfl) (by kernel_rfl) (fun _ _ _ h => h) (Or.inl ⟨by kernel_rfl, ?_⟩) hS ?_
      · rintro w' ⟨_, q1, q2⟩; go_simp
      try simp only [Act.put]
      refine wpAnyH_ready (rs := [10]) (by kernel_rfl) (by simp) (AllReadyH.cons rfl (fun K hK => ?_) <| AllReadyH.nil)
      go_simp
      refine hK.out _ _ ⟨hS.1.alloc _, (Mod.refl none_ _).alloc _ |>.cell (fun e => e) hS.2.1, (Mod.refl none_ _).alloc _ |>.cell (fun e => e) hS.2.2⟩ (fun hS => ?_)
      clear hK K
      try simp only [Act.put, List.setIfInBounds_toArray, List.set_cons_zero, List.set_cons_succ]
      refine wpAnyH_ready (rs := [11]) (by kernel_rfl) (by simp) (AllReadyH.cons rfl (fun K hK => ?_) <| AllReadyH.nil)
      go_simp
      refine hK.out _ _ ⟨((Mod.refl none_ wq).alloc _).drew, ((Mod.refl none_ wq).alloc _).drew.cell (fun e => e) a1, ((Mod.refl none_ wq).alloc _).drew.cell (fun e => e) tc⟩ (fun hS => ?_)
      clear hK K
      try simp only [Act.put, List.setIfInBounds_toArray, List.set_cons_zero, List.set_cons_succ]
      refine wpAnyH_done (by kernel_rfl) ?_ _
      try simp only [List.getElem_toArray, List.getElem_cons_succ, List.getElem_cons_zero]
      try simp only [Act.put, List.setIfInBounds_toArray, List.set_cons_zero, List.set_cons_succ]
      have kX : Blk ((wq.alloc (.cells #[.int .i64 3, .int .i64 (549755813888 + (k : Int)), .int .i64 0, .int .i64 1, .int .i64 (p : Int), .string t, .slice none 0 0] 36)).drew) wq.heap.size (tyOp k p t).cs 36 := Blk.new (w := wq.drew) (cs := (tyOp k p t).cs)
      have mX : Mod none_ wq ((wq.alloc (.cells #[.int .i64 3, .int .i64 (549755813888 + (k : Int)), .int .i64 0, .int .i64 1, .int .i64 (p : Int), .string t, .slice none 0 0] 36)).drew) := ((Mod.refl none_ wq).alloc _).drew
      generalize (wq.alloc (.cells #[.int .i64 3, .int .i64 (549755813888 + (k : Int)), .int .i64 0, .int .i64 1, .int .i64 (p : Int), .string t, .slice none 0 0] 36)).drew = WX at kX mX ⊢
      have T1 := Lib.hid (SQ.out.box mX)
      obtain ⟨X, hX⟩ : ∃ X, X = wq.heap.size := ⟨_, rfl⟩
      rw [← hX] at kX ⊢
      have HEX := Lib.hid (show E0 X ∨ (wq.heap.size ≤ X ∧ X < WX.heap.size) from .inr ⟨by omega, kX.lt⟩)
      have KX := Lib.hid kX
      have tcX := T1.out.f.m.cell (fun e => e) hr
      have hse : E0 KM ∧ E0 KW := ⟨hst.out.em, hst.out.ew⟩
      have HSE := Lib.hid hse
      have TYH := Lib.hid hst.out.ty
      clear mX hX a1 tc SQ hst kX hr hse
      cases h9 : decide (900 < (t.size : Int))
      case true =>
        have MF := Lib.hid T1.out.f.m
        clear T1
        go_wp2_with fail
        go_ret
        exact ⟨rfl, MF.out⟩
      have ht9 : t.size ≤ 900 := by simp at h9; omega
      have OK := Lib.hid (tyOp_ok (w := w) k p t (by omega) (by omega) (.inl HTAB.out) ht9)
      have HDO := Lib.hid (T1.out.f.do_ (tyOp k p t) [] OK.out (by show t.size ≤ _; omega))
      have d0 := KX.out.cell 0
      have d1 := KX.out.cell 1
      have d2 := KX.out.cell 2
      have d3 := KX.out.cell 3
      have d4 := KX.out.cell 4
      have d5 := KX.out.cell 5
      have d6 := KX.out.cell 6
      simp only [OpV.cs, tyOp, List.getElem?_cons_zero, List.getElem?_cons_succ] at d0 d1 d2 d3 d4 d5 d6
      go_wp2_with fail
      refine HDO.out.mono ?_
      rintro e w8 ⟨rfl, hN⟩
      clear d0 d1 d2 d3 d4 d5 d6 tcX HDO
      by_cases he : doE (tyOp k p t) [] L = 0
      · rw [he]
        obtain ⟨ns, hns, hadd, hn200, hty⟩ := TYH.out.step he
        have hmay := (doE_zero he).1
        have hmv : movP (tyOp k p t) p ((tyOp k p t).site != 3) = ((p + ns.length : Nat) : Int) := Typ.move hadd
        obtain ⟨Q, hQ⟩ : ∃ Q, Q = p + ns.length := ⟨_, rfl⟩
        rw [← hQ] at hmv hty
        have HMV := Lib.hid (move_any (tyOp k p t) 3 p p L.length w8 [] (OK.out.grown hN.f.m) (by simp [inB]; omega) hmay (by simp [markOk, inB]; omega))
        rw [hmv] at HMV
        have hbq : (tyOp k p t).at_ + addsOf (tyOp k p t) = (Q : Int) := by rw [hadd, hQ]; show (p : Int) + _ = _; omega
        have HBH := Lib.hid (fun (wz : World) (mz : Mod none_ w8 wz) => behind_ins (tyOp k p t) L.length wz [] (OK.out.grown (hN.f.m.trans mz)) rfl (by simp [inB]; omega) hmay)
        rw [hbq, show (tyOp k p t).site = 3 from rfl] at HBH
        have k8 := hN.bs _ _ _ HEX.out KX.out
        have km8 := hN.bs _ _ _ T1.out.em T1.out.km
        have K8 := Lib.hid k8
        have KM8 := Lib.hid km8
        have NN := Lib.hid hN
        have HTY := Lib.hid hty
        have HNS := Lib.hid hns
        have d0 := k8.cell 0
        have d1 := k8.cell 1
        have d2 := k8.cell 2
        have d3 := k8.cell 3
        have d4 := k8.cell 4
        have d5 := k8.cell 5
        have d6 := k8.cell 6
        have a0 := km8.cell 0
        have a1 := km8.cell 1
        have a2 := km8.cell 2
        simp only [OpV.cs, tyOp, List.getElem?_cons_zero, List.getElem?_cons_succ] at d0 d1 d2 d3 d4 d5 d6 a0 a1 a2
        clear he hadd hty hmay hmv hbq k8 km8 hN hns hQ
        go_wp2_with fail
        refine HMV.out.mono ?_
        rintro e w9 ⟨rfl, m9⟩
        have mA := m9.alloc (.cells #[.int .i64 3, .int .i64 (Q : Int), .int .i64 (Q : Int)] 66)
        have kA := Blk.new (w := w9) (cs := [.int .i64 3, .int .i64 (Q : Int), .int .i64 (Q : Int)]) (t := 66)
        have km9 := KM8.out.mod mA (fun e => e)
        have k9 := K8.out.mod mA (fun e => e)
        have MA := Lib.hid mA
        clear d0 d1 d2 d3 d4 d5 d6 a0 a1 a2 mA m9 HMV
        go_upto_region 22 with fail
        generalize w9.alloc (.cells #[.int .i64 3, .int .i64 (Q : Int), .int .i64 (Q : Int)] 66) = wA at kA km9 k9 MA ⊢
        obtain ⟨Y, hY⟩ : ∃ Y, Y = w9.heap.size := ⟨_, rfl⟩
        rw [← hY] at kA ⊢
        have KA := Lib.hid kA
        have KM9 := Lib.hid km9
        have HB2 := Lib.hid (HBH.out wA MA.out)
        have d0 := k9.cell 0
        have d1 := k9.cell 1
        have d2 := k9.cell 2
        have d3 := k9.cell 3
        have d4 := k9.cell 4
        have d5 := k9.cell 5
        have d6 := k9.cell 6
        simp only [OpV.cs, tyOp, List.getElem?_cons_zero, List.getElem?_cons_succ] at d0 d1 d2 d3 d4 d5 d6
        clear hY kA km9 k9 HBH
        go_wp2_with fail
        refine HB2.out.mono ?_
        rintro e wB ⟨rfl, mB⟩
        have mC := mB.alloc (.cells #[.int .i64 3, .int .i64 (Q : Int), .int .i64 (Q : Int)] 66)
        have kC := Blk.new (w := wB) (cs := [.int .i64 3, .int .i64 (Q : Int), .int .i64 (Q : Int)]) (t := 66)
        have kA2 := KA.out.mod mC (fun e => e)
        have kM2 := KM9.out.mod mC (fun e => e)
        have MC := Lib.hid (MA.out.trans mC)
        clear d0 d1 d2 d3 d4 d5 d6 mB mC HB2
        go_upto_region 23 with fail
        generalize wB.alloc (.cells #[.int .i64 3, .int .i64 (Q : Int), .int .i64 (Q : Int)] 66) = wC at kC kA2 kM2 MC ⊢
        obtain ⟨Z, hZ⟩ : ∃ Z, Z = wB.heap.size := ⟨_, rfl⟩
        rw [← hZ] at kC ⊢
        have z0 := kC.cell 0
        have z1 := kC.cell 1
        have z2 := kC.cell 2
        have a0 := kA2.cell 0
        have a1 := kA2.cell 1
        have a2 := kA2.cell 2
        have b0 := kM2.cell 0
        have b1 := kM2.cell 1
        have b2 := kM2.cell 2
        have r0 := kM2.frozen 0
        have r1 := kM2.frozen 1
        have r2 := kM2.frozen 2
        simp only [List.getElem?_cons_zero, List.getElem?_cons_succ] at z0 z1 z2 a0 a1 a2 b0 b1 b2
        have SP := T1.out.put NN.out MC.out HTY.out
        have SL := Lib.hid (SP.less (E' := E0) (fun k hk => .inl hk) HSE.out.1 HSE.out.2)
        have tcF := SL.out.f.m.cell (fun e => e) HRC.out
        have hbl : (bytesOf rs).length ≤ 4 * rs.length := by
          have h1 := flat_len rs
          rw [← bytesOf_cells, List.length_map] at h1
          exact h1
        have hss : ¬ (9223372036854775807 < (bytesOf rs).length + t.size) := by omega
        have hsz1 : ByteArray.size ⟨(bytesOf rs).toArray⟩ = (bytesOf rs).length := by rw [Lib.size_eq]
        clear SP hZ kC kA2 kM2 T1 NN MC HTY HSE hbl
        go_wp2_with fail
        go_roundg (tlen - (k + 1))
        all_goals first
          | omega
          | exact ⟨k + 1, Q, doL (tyOp k p t) [] L, rs ++ ns.map fun r : Nat => (r : Int), rfl, by rw [HNS.out, bytes_app], by go_num, by omega, by rw [List.length_append, List.length_map]; omega, SL⟩
      · have hsame := doL_same he
        rw [hsame] at hN
        have SS := Lib.hid ((T1.out.same hN).less (E' := E0) (fun k hk => .inl hk) HSE.out.1 HSE.out.2)
        obtain ⟨E8, hE8⟩ : ∃ E8, E8 = doE (tyOp k p t) [] L := ⟨_, rfl⟩
        rw [← hE8] at he ⊢
        have he2 : (E8 == 0) = false := by simpa using he
        clear hE8 hsame hN T1 HSE
        go_wp2_with fail
        go_roundg (tlen - (k + 1))
        all_goals first
          | omega
          | exact ⟨k + 1, p, L, rs, rfl, rfl, by go_num, by omega, by omega, SS⟩
    · obtain rfl : k = tlen := by omega
      have km := hst.out.km
      have a0 := km.cell 0
      have a1 := km.cell 1
      have a2 := km.cell 2
      simp only [List.getElem?_cons_zero, List.getElem?_cons_succ] at a0 a1 a2
      have HSH := Lib.hid (shown_any wr 0 D L 3 p p hst.out.f.is (by omega))
      rw [hst.out.ty.shown hnl (by omega)] at HSH
      obtain ⟨N, hN⟩ : ∃ N : Nat, N = rs.length := ⟨_, rfl⟩
      rw [← hN] at HSH hrl
      have HNL := Lib.hid hN
      clear km hN
      go_wp2_with fail
      refine HSH.out.mono ?_
      rintro e wS ⟨rfl, mS⟩
      have SS := Lib.hid (hst.out.grown mS)
      clear mS hst HSH a0 a1 a2
      have hty := SS.out.ty
      have hva2 := hty.va
      have hkw := SS.out.kw
      have hnR : n ≤ R.length := by omega
      have hrN : rs.length ≤ 1600 := by have := HNL.out; omega
      obtain ⟨B, hB⟩ : ∃ B : ByteArray, B = ⟨(bytesOf rs).toArray⟩ := ⟨_, rfl⟩
      obtain ⟨A, hA⟩ : ∃ A : ByteArray, A = ⟨(bytesOf (R.take n)).toArray⟩ := ⟨_, rfl⟩
      obtain ⟨C, hC⟩ : ∃ C : ByteArray, C = ⟨(bytesOf (R.drop n)).toArray⟩ := ⟨_, rfl⟩
      have hABC : textB L = A ++ B ++ C := by
        rw [hty.text (by rw [← HR.out]; exact HVA.out), ← HR.out, hA, hB, hC, bytes_app, bytes_app, bytesOf_append, bytesOf_append]
      obtain ⟨cb, _, CB⟩ := conv_sr2 wS.drew rs hva2 (by omega)
      rw [← hB, ← HNL.out] at CB
      have bnd : ∀ q : List Int, q.length ≤ 40000 → ByteArray.size ⟨(bytesOf q).toArray⟩ ≤ 160000 := fun q hq => by
        have h1 := flat_len q
        rw [← bytesOf_cells, List.length_map] at h1
        rw [Lib.size_eq]
        show (bytesOf q).length ≤ _
        omega
      have sA : A.size ≤ 160000 := by rw [hA]; exact bnd _ (by rw [List.length_take]; omega)
      have sB : B.size ≤ 160000 := by rw [hB]; exact bnd _ (by omega)
      have sC : C.size ≤ 160000 := by rw [hC]; exact bnd _ (by rw [List.length_drop]; omega)
      have h1s : ¬ (9223372036854775807 < A.size + B.size) := by omega
      have h2s : ¬ (9223372036854775807 < A.size + B.size + C.size) := by omega
      have HCW := Lib.hid (show ∀ (j : Nat) (x : Int), R[j]? = some x → wS.cell? ⟨KW, j, none⟩ = some (.int .i32 x) from fun j x hx => by
        obtain ⟨hj, _⟩ := List.getElem?_eq_some_iff.1 hx
        rw [hkw.cell, ← HR.out, List.getElem?_append_left (by simp [r32s]; exact hj)]
        simp [r32s, hx])
      have HCA := Lib.hid (show ∀ (w' : World), (∀ (j : Nat) (x : Int), R[j]? = some x → w'.cell? ⟨KW, j, none⟩ = some (.int .i32 x)) → (convert 39 9 (.slice (some ⟨KW, 0, none⟩) n cw)).run Tryd.prog w' = .ok (.string A) w' from fun w' q => by
        rw [hA]
        refine conv_rs w' KW 0 n cw (R.take n) (by rw [List.length_take]; omega) (fun j x hx => ?_) (fun r hr => HVA.out r (List.mem_of_mem_take hr))
        rw [Nat.zero_add]
        refine q j x ?_
        rw [List.getElem?_take] at hx
        split at hx
        · exact hx
        · cases hx)
      obtain ⟨PA, hPA⟩ : ∃ PA : Option Addr, PA = (if cw = n then some ⟨KW, 0, none⟩ else some ⟨KW, n, none⟩) := ⟨_, rfl⟩
      have HPA := Lib.hid hPA
      have hcn : ¬ (cw < n) := by omega
      have hcR : R.length ≤ cw := hcw
      have HCC := Lib.hid (show ∀ (w' : World), (∀ (j : Nat) (x : Int), R[j]? = some x → w'.cell? ⟨KW, j, none⟩ = some (.int .i32 x)) → (convert 39 9 (.slice PA (liveN l - n) (cw - n))).run Tryd.prog w' = .ok (.string C) w' from fun w' q => by
        rw [hC, hPA]
        split
        · refine conv_rs w' KW 0 (liveN l - n) (cw - n) (R.drop n) (by rw [List.length_drop]; omega) (fun j x hx => ?_) (fun r hr => HVA.out r (List.mem_of_mem_drop hr))
          have := (List.getElem?_eq_some_iff.1 hx).1
          rw [List.length_drop] at this
          omega
        · refine conv_rs w' KW n (liveN l - n) (cw - n) (R.drop n) (by rw [List.length_drop]; omega) (fun j x hx => ?_) (fun r hr => HVA.out r (List.mem_of_mem_drop hr))
          rw [List.getElem?_drop] at hx
          exact q _ x hx)
      have HTE2 := Lib.hid (show ∀ (w' : World), Mod none_ wS w' → Calls Tryd.prog 13 #[.pointer (some ⟨D, 0, none⟩)] w' fun e w2 => e = .returned (.string (A ++ B ++ C)) ∧ Mod none_ w' w2 from fun w' m => by
        obtain ⟨S, h1, _⟩ := (SS.out.f.grown m).doc
        obtain ⟨v, MB, bl, hv, _, hl, _⟩ := h1.ex
        have := text_cells w' D MB v bl hv (by rw [hl]; exact SS.out.f.cl.ok) (by rw [hl]; omega)
        rw [hl, hABC] at this
        exact this)
      have hwN : IntKind.i64.wrap ((n : Int) + (N : Int)) = (n : Int) + (N : Int) := by rw [IntKind.wrap_i64]; omega
      have HB := Lib.hid hB
      rw [← hB]
      clear hty hva2 hkw hA hC hB hABC bnd sA sB sC HTE hPA hcR
      go_upto_region 28 with fail
      refine wp_region_held_drew (S := fun w' => Mod none_ wS w' ∧ ∀ (j : Nat) (x : Int), R[j]? = some x → w'.cell? ⟨KW, j, none⟩ = some (.int .i32 x)) (by kernel_rfl) ⟨Mod.drew (Mod.refl none_ wS), HCW.out⟩ (fun hS => ?_)
      refine wpAnyH_take (i := 0) (v := .int .i64 0) rfl (by kernel_rfl) (by kernel_rfl) (by kernel_rfl) (fun _ _ _ h => h) (Or.inl ⟨by kernel_rfl, ?_⟩) hS ?_
      · rintro w' ⟨_, q⟩; go_simp
      try simp only [Act.put, List.setIfInBounds_toArray]
      refine wpAnyH_take (i := 1) (v := .bool true) rfl (by kernel_rfl) (by kernel_rfl) (by kernel_rfl) (fun _ _ _ h => h) (Or.inl ⟨by kernel_rfl, ?_⟩) hS ?_
      · rintro w' ⟨_, q⟩; go_simp
      try simp only [Act.put]
      refine wpAnyH_take (i := 2) (v := .bool true) rfl (by kernel_rfl) (by kernel_rfl) (by kernel_rfl) (fun _ _ _ h => h) (Or.inl ⟨by kernel_rfl, ?_⟩) hS ?_
      · rintro w' ⟨_, q⟩; go_simp
      try simp only [Act.put]
      refine wpAnyH_take (i := 3) (v := .int .i64 ((n : Int) + (N : Int))) rfl (by kernel_rfl) (by kernel_rfl) (by kernel_rfl) (fun _ _ _ h => h) (Or.inl ⟨by kernel_rfl, ?_⟩) hS ?_
      · rintro w' ⟨_, q⟩; go_simp
      try simp only [Act.put]
      refine wpAnyH_take (i := 4) (v := .int .i64 n) rfl (by kernel_rfl) (by kernel_rfl) (by kernel_rfl) (fun _ _ _ h => h) (Or.inl ⟨by kernel_rfl, ?_⟩) hS ?_
      · rintro w' ⟨_, q⟩; go_simp
      try simp only [Act.put]
      refine wpAnyH_take (i := 5) (v := .string B) rfl (by kernel_rfl) (by kernel_rfl) (by kernel_rfl) (fun _ _ _ h => h) (Or.inl ⟨by kernel_rfl, ?_⟩) hS ?_
      · rintro w' ⟨_, q⟩; go_simp
      try simp only [Act.put]
      refine wpAnyH_ready (rs := [6]) (by kernel_rfl) (by simp) (AllReadyH.cons rfl (fun K hK => ?_) <| AllReadyH.nil)
      rw [if_pos (by kernel_rfl)]
      go_simp
      refine hK.out _ _ ⟨(Mod.drew (Mod.drew (Mod.refl none_ wS))).alloc _, fun j x hx => ((Mod.drew (Mod.drew (Mod.refl none_ wS))).alloc _).cell (fun e => e) (HCW.out j x hx)⟩ (fun hS => ?_)
      clear hK K
      try simp only [Act.put, List.setIfInBounds_toArray, List.set_cons_zero, List.set_cons_succ]
      refine wpAnyH_take (i := 7) (v := .int .i64 (N : Int)) rfl (by kernel_rfl) (by kernel_rfl) (by kernel_rfl) (fun _ _ _ h => h) (Or.inl ⟨by kernel_rfl, ?_⟩) hS ?_
      · rintro w' ⟨_, q⟩; go_simp
      try simp only [Act.put, List.setIfInBounds_toArray]
      refine wpAnyH_take (i := 8) (v := .int .i64 ((n : Int) + (N : Int))) rfl (by kernel_rfl) (by kernel_rfl) (by kernel_rfl) (fun _ _ _ h => h) (Or.inl ⟨by kernel_rfl, ?_⟩) hS ?_
      · rintro w' ⟨_, q⟩; go_simp
      try simp only [Act.put]
      refine wpAnyH_take (i := 9) (v := .bool true) rfl (by kernel_rfl) (by kernel_rfl) (by kernel_rfl) (fun _ _ _ h => h) (Or.inl ⟨by kernel_rfl, ?_⟩) hS ?_
      · rintro w' ⟨_, q⟩; go_simp
      try simp only [Act.put]
      refine wpAnyH_take (i := 10) (v := .bool true) rfl (by kernel_rfl) (by kernel_rfl) (by kernel_rfl) (fun _ _ _ h => h) (Or.inl ⟨by kernel_rfl, ?_⟩) hS ?_
      · rintro w' ⟨_, q⟩; go_simp
      try simp only [Act.put]
      refine wpAnyH_take (i := 11) (v := .bool true) rfl (by kernel_rfl) (by kernel_rfl) (by kernel_rfl) (fun _ _ _ h => h) (Or.inl ⟨by kernel_rfl, ?_⟩) hS ?_
      · rintro w' ⟨_, q⟩; go_simp
      try simp only [Act.put]
      refine wpAnyH_take (i := 12) (v := .pointer (some ⟨D, 0, none⟩)) rfl (by kernel_rfl) (by kernel_rfl) (by kernel_rfl) (fun _ _ _ h => h) (Or.inl ⟨by kernel_rfl, ?_⟩) hS ?_
      · rintro w' ⟨_, q⟩; go_simp
      try simp only [Act.put]
      refine wpAnyH_take (i := 14) (v := .slice (some ⟨KW, 0, none⟩) (liveN l) cw) rfl (by kernel_rfl) (by kernel_rfl) (by kernel_rfl) (fun _ _ _ h => h) (Or.inl ⟨by kernel_rfl, ?_⟩) hS ?_
      · rintro w' ⟨_, q⟩; go_simp
      try simp only [Act.put]
      refine wpAnyH_take (i := 15) (v := .int .i64 n) rfl (by kernel_rfl) (by kernel_rfl) (by kernel_rfl) (fun _ _ _ h => h) (Or.inl ⟨by kernel_rfl, ?_⟩) hS ?_
      · rintro w' ⟨_, q⟩; go_simp
      try simp only [Act.put]
      refine wpAnyH_take (i := 16) (v := .slice (some ⟨KW, 0, none⟩) n cw) rfl (by kernel_rfl) (by kernel_rfl) (by kernel_rfl) (fun _ _ _ h => h) (Or.inl ⟨by kernel_rfl, ?_⟩) hS ?_
      · rintro w' ⟨_, q⟩; go_simp
      try simp only [Act.put]
      refine wpAnyH_take (i := 17) (v := .string A) rfl (by kernel_rfl) (by kernel_rfl) (by kernel_rfl) (fun _ _ _ h => h) (Or.inl ⟨by kernel_rfl, ?_⟩) hS ?_
      · rintro w' ⟨_, q⟩; have cv := HCA.out w' q; go_simp
      try simp only [Act.put]
      refine wpAnyH_take (i := 18) (v := .string B) rfl (by kernel_rfl) (by kernel_rfl) (by kernel_rfl) (fun _ _ _ h => h) (Or.inl ⟨by kernel_rfl, ?_⟩) hS ?_
      · rintro w' ⟨_, q⟩; go_simp
      try simp only [Act.put]
      refine wpAnyH_take (i := 19) (v := .string (A ++ B)) rfl (by kernel_rfl) (by kernel_rfl) (by kernel_rfl) (fun _ _ _ h => h) (Or.inl ⟨by kernel_rfl, ?_⟩) hS ?_
      · rintro w' ⟨_, q⟩; go_simp
      try simp only [Act.put]
      refine wpAnyH_take (i := 20) (v := .slice (some ⟨KW, 0, none⟩) (liveN l) cw) rfl (by kernel_rfl) (by kernel_rfl) (by kernel_rfl) (fun _ _ _ h => h) (Or.inl ⟨by kernel_rfl, ?_⟩) hS ?_
      · rintro w' ⟨_, q⟩; go_simp
      try simp only [Act.put]
      refine wpAnyH_take (i := 21) (v := .int .i64 n) rfl (by kernel_rfl) (by kernel_rfl) (by kernel_rfl) (fun _ _ _ h => h) (Or.inl ⟨by kernel_rfl, ?_⟩) hS ?_
      · rintro w' ⟨_, q⟩; go_simp
      try simp only [Act.put]
      refine wpAnyH_take (i := 22) (v := .slice PA (liveN l - n) (cw - n)) rfl (by kernel_rfl) (by kernel_rfl) (by kernel_rfl) (fun _ _ _ h => h) (Or.inl ⟨by kernel_rfl, ?_⟩) hS ?_
      · rintro w' ⟨_, q⟩; have hpa := HPA.out; go_simp
      try simp only [Act.put]
      refine wpAnyH_take (i := 23) (v := .string C) rfl (by kernel_rfl) (by kernel_rfl) (by kernel_rfl) (fun _ _ _ h => h) (Or.inl ⟨by kernel_rfl, ?_⟩) hS ?_
      · rintro w' ⟨_, q⟩; have cv := HCC.out w' q; go_simp
      try simp only [Act.put]
      refine wpAnyH_take (i := 24) (v := .string (A ++ B ++ C)) rfl (by kernel_rfl) (by kernel_rfl) (by kernel_rfl) (fun _ _ _ h => h) (Or.inl ⟨by kernel_rfl, ?_⟩) hS ?_
      · rintro w' ⟨_, q⟩; go_simp
      try simp only [Act.put]
      refine wpAnyH_ready (rs := [13]) (by kernel_rfl) (by simp) (AllReadyH.cons rfl (fun K hK => ?_) <| AllReadyH.nil)
      rw [if_pos (by kernel_rfl)]
      go_simp
      refine (HTE2.out _ hS.1).mono ?_
      rintro e wT ⟨rfl, mT⟩
      refine hK.out _ _ ⟨hS.1.trans mT, fun j x hx => mT.cell (fun e => e) (hS.2 j x hx)⟩ (fun hS => ?_)
      clear hK K
      try simp only [Act.put, List.setIfInBounds_toArray, List.set_cons_zero, List.set_cons_succ]
      refine wpAnyH_take (i := 25) (v := .bool true) rfl (by kernel_rfl) (by kernel_rfl) (by kernel_rfl) (fun _ _ _ h => h) (Or.inl ⟨by kernel_rfl, ?_⟩) hS ?_
      · rintro w' ⟨_, q⟩; go_simp
      try simp only [Act.put, List.setIfInBounds_toArray]
      refine wpAnyH_take (i := 26) (v := .bool true) rfl (by kernel_rfl) (by kernel_rfl) (by kernel_rfl) (fun _ _ _ h => h) (Or.inl ⟨by kernel_rfl, ?_⟩) hS ?_
      · rintro w' ⟨_, q⟩; go_simp
      try simp only [Act.put]
      refine wpAnyH_take (i := 27) (v := .bool true) rfl (by kernel_rfl) (by kernel_rfl) (by kernel_rfl) (fun _ _ _ h => h) (Or.inl ⟨by kernel_rfl, ?_⟩) hS ?_
      · rintro w' ⟨_, q⟩; go_simp
      try simp only [Act.put]
      refine wpAnyH_done (by kernel_rfl) ?_ _
      try simp only [List.getElem_toArray, List.getElem_cons_succ, List.getElem_cons_zero]
      try simp only [List.setIfInBounds_toArray, List.set_cons_zero, List.set_cons_succ]
      have MF := Lib.hid (SS.out.f.m.trans hS.1)
      clear hS
      go_wp2_with fail
      go_ret
      exact ⟨rfl, MF.out⟩
end Go.Proofs.YtlbkalbelefhmaaDoor

namespace Go.Proofs.YtlbkalbelefhmaaDoor
open Go.ChangeShapes Go.WideShapes Go.ChangeAt Go.RowKit Go.Mine Go.Deep

theorem Tryd.own5 : ownKnob Tryd.prog.godebug = none := by kernel_rfl
theorem Tryd.laidOut5 : laidOutB Tryd.prog = true := by kernel_rfl

theorem accept_eq : (Rows.laid_unicode_utf8_acceptRanges : DataW Unit) = Lib.acceptData := by kernel_rfl
theorem u8types : U8Types Tryd.prog Tryd.lays197_ren := { Tryd.lays197 with }
theorem tabs_of {W : World} (h : laidMetH Tryd.prog [("unicode/utf8.acceptRanges", Rows.laid_unicode_utf8_acceptRanges), ("unicode/utf8.first", Rows.laid_unicode_utf8_first)] W) : tabsOk W := by
  rw [MakeChecks.laidMetH_plain _ _ _ (by kernel_rfl)] at h
  have h4 := Lib.laidMet.reads h (n := "unicode/utf8.acceptRanges") (.head _)
  have h3 := Lib.laidMet.reads h (n := "unicode/utf8.first") (.tail _ (.head _))
  rw [accept_eq] at h4
  have h3' : Lib.VarReads Tryd.prog W "unicode/utf8.first" Lib.firstData := by
    have := h3
    unfold Rows.laid_unicode_utf8_first at this
    rwa [Pinned.utf8First_eq] at this
  exact utf8Tabs_of_readsT u8types ⟨by kernel_rfl, by kernel_rfl, by kernel_rfl, by kernel_rfl, by kernel_rfl, by kernel_rfl, by kernel_rfl⟩ h3' h4
theorem okWide_three {P : Program} {w : World} {r : Reach} {b0 : Nat} {t e : TypeId} {v : Value} (ht : P.underlying t = some (.array 3 e)) (hC : P.cellsOf t = 3) (h : Value.okWide P w r b0 t v) : ∃ c0 c1 c2, v = .agg #[c0, c1, c2] := by
  simp only [Value.okWide, ht] at h
  obtain ⟨cs, rfl, h2, _⟩ := h
  obtain ⟨c0, c1, c2, rfl⟩ := Go.Joins.array3 (h2.trans hC)
  exact ⟨c0, c1, c2, rfl⟩
end Go.Proofs.YtlbkalbelefhmaaDoor
