/-
  Texts on which the claim rests, one behind the other: Drp4 Dct1 Car9 Blk1 Car10 Car11 Shw2 Utf1 Run2 Dct2 Open Read1 Typ1 Edt1 Drs1 Alv1 Rft0 Rft1 Rft2 Rft3.
-/
import Derived.Test.YthicagfeaekmoaaGreatDoorPl3
import Derived.Outline
import Derived.Deep.LoopGhost
import Derived.Lib.MapLaws
import Derived.Laws.IdiomStrings
import Derived.Laws.Cover4
import Derived.WalkKit
import Derived.ProofKit
import Derived.OpenShut
import Derived.ShutString
import Derived.ChangeOld
import Derived.ChangeSame
import Derived.Deep.Slices
import Derived.Deep.Fields
import Derived.Lib.SmallJoins

namespace Go.Proofs.YthicagfeaekmoaaGreatDoor
open Go.RowKit Go.Shelf Go.Mine Go.Maps
open Classical
attribute [local go_sem] Oper.semAt_some
attribute [local go_sem ↓] app_fold

/-- What Drop leaves. -/
def DropTo (w : World) (S : Nat → Prop) (D : Nat) (sp : List (Int × Int)) (l : List CellV) (e : Ending) (w' : World) : Prop :=
  e = .returned (.int .i64 (dropE sp l)) ∧ Mod S w w' ∧ DocS w' (grew S w w') D (dropL sp l)

theorem results_er {fn : Func} {p : Tmp} (h : fn.results = #[.cell p 40]) (tmps : Array Value) (w : World) (g : Nat) (n : Int) (hp : tmps.getD p undef = .pointer (some ⟨g, 0, none⟩)) (hr : w.cell? ⟨g, 0, none⟩ = some (.int .i64 n)) :
    (results fn tmps).run Tryz.prog w = .ok (.int .i64 n) w := by
  have hp' : tmps[p]?.getD undef = .pointer (some ⟨g, 0, none⟩) := by simpa using hp
  simp [results, h, hp', go_sem, hr]

set_option maxHeartbeats 16000000 in
set_option maxRecDepth 1000000 in
theorem drop_any (w : World) (S : Nat → Prop) (D : Nat) (l : List CellV) (sa : Option Addr) (slen scap : Nat) (sp : List (Int × Int)) (h : DocS w S D l) (hlen : l.length ≤ 20000) (hok : ∀ c ∈ l, c.ok) (hs : IsSpans w sa slen scap sp) (hfar : ∀ b off, sa = some ⟨b, off, none⟩ → 0 < slen → ¬ S b) :
    Calls Tryz.prog 89 #[.pointer (some ⟨D, 0, none⟩), .slice sa slen scap] w (DropTo w S D sp l) := by
  have hsle := hs.le
  have hscap := hs.big
  unfold maxLen at hscap
  obtain ⟨W0, hW0⟩ : ∃ W0, (w.alloc (.cells #[.slice sa slen scap] 29)).alloc (.cells #[.int .i64 0] 40) = W0 := ⟨_, rfl⟩
  have m0 : Mod none_ w W0 := by rw [← hW0]; exact ((Mod.refl none_ w).alloc _).alloc _
  have kX : Blk W0 w.heap.size [.slice sa slen scap] 29 := by
    rw [← hW0]
    exact (Blk.new (w := w) (cs := [.slice sa slen scap]) (t := 29)).mod ((Mod.refl none_ _).alloc _) (fun e => e)
  have kE : Blk W0 (w.heap.size + 1) [.int .i64 0] 40 := by
    have := Blk.new (w := w.alloc (.cells #[.slice sa slen scap] 29)) (cs := [.int .i64 0]) (t := 40)
    rw [World.size_alloc] at this
    rw [← hW0]
    exact this
  have hz0 : W0.heap.size = w.heap.size + 2 := by rw [← hW0]; simp
  have HM := Lib.hid (spansMay_any W0 sa slen scap sp (hs.grown m0))
  have HS := Lib.hid hs
  have HD := Lib.hid h
  have HOK := Lib.hid hok
  have HFAR := Lib.hid hfar
  have HN := Lib.hid hs.n
  have M0 := Lib.hid m0
  have KX := Lib.hid kX
  have KE := Lib.hid kE
  have HZ0 := Lib.hid hz0
  obtain ⟨E, hE⟩ : ∃ E, E = dropE sp l := ⟨_, rfl⟩
  have HE := Lib.hid hE
  have c0 : W0.cell? ⟨w.heap.size, 0, none⟩ = some (.slice sa slen scap) := kX.cell 0
  have e0 : W0.cell? ⟨w.heap.size + 1, 0, none⟩ = some (.int .i64 0) := kE.cell 0
  -- a refusal: the answer er laid in the result's cell, nothing else changed
  have REF := Lib.hid (fun (er : Int) (her : dropE sp l = er) (hne : er ≠ 0) (W' : World) (m : Mod none_ W0 W') (n : Nat → Prop) => (show DropTo w S D sp l (.returned (.int .i64 er)) (W'.setCell ⟨w.heap.size + 1, 0, none⟩ (.int .i64 er)) from by
    have mm : Mod none_ w (W'.setCell ⟨w.heap.size + 1, 0, none⟩ (.int .i64 er)) := (m0.trans m).setCell _ (fun h => absurd h (by simp)) _
    refine ⟨by rw [her], mm.mono (fun _ _ e => e.elim), ?_⟩
    unfold dropL
    rw [if_neg (by rw [her]; exact hne)]
    exact (h.grown mm).mono (fun k _ hk => .inl hk)))
  have KER := Lib.hid (fun (er : Int) (W' : World) (m : Mod none_ W0 W') => (show (W'.setCell ⟨w.heap.size + 1, 0, none⟩ (.int .i64 er)).cell? ⟨w.heap.size + 1, 0, none⟩ = some (.int .i64 er) from ((kE.mod m (fun e => e)).set 0 (.int .i64 er)).cell 0))
  clear hs h hok hfar m0 kX kE hE hz0
  refine (callsIn_wide (n := 5)).1 ?_
  refine callsIn_of_wp_marks Tryz.func89 rfl trivial ?_ rfl
  refine wpIn_wide.2 (Code.wp_mono (Q := calmPost _) calmPost.out ?_)
  simp only [Tryz.ntmps89, List.size_toArray, List.length_cons, List.length_nil, Nat.reduceAdd, Nat.reduceSub, Array.replicate_succ, Array.replicate_zero, List.push_toArray, List.append_toArray, List.nil_append, List.cons_append]
  go_upto_region 1 with fail
  clear hW0
  go_wp2_with fail
  refine HM.out.mono ?_
  rintro e W1 ⟨rfl, m1⟩
  have M1 := Lib.hid m1
  have KX1 := KX.out.mod m1 (fun e => e)
  have KE1 := KE.out.mod m1 (fun e => e)
  clear c0 e0 HM
  have c0 : W1.cell? ⟨w.heap.size, 0, none⟩ = some (.slice sa slen scap) := KX1.cell 0
  have e0 : W1.cell? ⟨w.heap.size + 1, 0, none⟩ = some (.int .i64 0) := KE1.cell 0
  have r0 := KE1.frozen 0
  cases hso : spansOk sp
  case false =>
    have R1 := Lib.hid (REF.out 1 (by unfold dropE; rw [hso]; rfl) (by decide) W1 m1 none_)
    have R2 := Lib.hid (KER.out 1 W1 m1)
    clear m1 KX1 KE1
    go_wp2_with fail
    exact ⟨_, results_er rfl _ _ _ _ rfl R2.out, R1.out⟩
  have HSO := Lib.hid hso
  clear hso m1
  go_upto_region 4 with fail
  obtain ⟨KK, hKK⟩ : ∃ KK : Int, KK = (slen : Int) - 1 := ⟨_, rfl⟩
  rw [← hKK]
  have HKK := Lib.hid hKK
  clear hKK
  go_cut [42] from 25 to 42 (fun s42 wx => s42 = .bool (decide ((l.length : Int) < endS sp)) ∧ Mod none_ W1 wx)
  case first =>
    rcases Nat.eq_zero_or_pos slen with hn0 | hn0
    · have hsp0 : sp = [] := List.eq_nil_of_length_eq_zero (by rw [HN.out]; exact hn0)
      have hen : decide ((l.length : Int) < endS sp) = false := by rw [hsp0, show endS [] = 0 from rfl]; simp
      obtain rfl : KK = -1 := by have := HKK.out; omega
      have HEN := Lib.hid hen
      clear KX1 KE1 e0 r0 hn0 hsp0 hen
      refine wp_region_held_drew (S := fun w' => Mod none_ W1 w' ∧ w'.cell? ⟨w.heap.size, 0, none⟩ = some (.slice sa slen scap)) (by kernel_rfl) ⟨Mod.drew (Mod.refl none_ W1), c0⟩ (fun hS => ?_)
      refine wpAnyH_take (i := 0) (v := .int .i64 (-1)) rfl (by kernel_rfl) (by kernel_rfl) (by kernel_rfl) (fun _ _ _ h => h) (Or.inl ⟨by kernel_rfl, ?_⟩) hS ?_
      · rintro w' ⟨_, q0⟩; go_simp
      try simp only [Act.put, List.setIfInBounds_toArray]
      refine wpAnyH_take (i := 1) (v := .bool false) rfl (by kernel_rfl) (by kernel_rfl) (by kernel_rfl) (fun _ _ _ h => h) (Or.inl ⟨by kernel_rfl, ?_⟩) hS ?_
      · rintro w' ⟨_, q0⟩; go_simp
      try simp only [Act.put]
      refine wpAnyH_take (i := 2) (v := .bool false) rfl (by kernel_rfl) (by kernel_rfl) (by kernel_rfl) (fun _ _ _ h => h) (Or.inl ⟨by kernel_rfl, ?_⟩) hS ?_
      · rintro w' ⟨_, q0⟩; go_simp
      try simp only [Act.put]
      refine wpAnyH_take (i := 3) (v := undef) rfl (by kernel_rfl) (by kernel_rfl) (by kernel_rfl) (fun _ _ _ h => h) (Or.inr ⟨by kernel_rfl, rfl⟩) hS ?_
      try simp only [Act.put]
      refine wpAnyH_take (i := 4) (v := undef) rfl (by kernel_rfl) (by kernel_rfl) (by kernel_rfl) (fun _ _ _ h => h) (Or.inr ⟨by kernel_rfl, rfl⟩) hS ?_
      try simp only [Act.put]
      refine wpAnyH_take (i := 5) (v := undef) rfl (by kernel_rfl) (by kernel_rfl) (by kernel_rfl) (fun _ _ _ h => h) (Or.inr ⟨by kernel_rfl, rfl⟩) hS ?_
      try simp only [Act.put]
      refine wpAnyH_take (i := 6) (v := undef) rfl (by kernel_rfl) (by kernel_rfl) (by kernel_rfl) (fun _ _ _ h => h) (Or.inr ⟨by kernel_rfl, rfl⟩) hS ?_
      try simp only [Act.put]
      refine wpAnyH_take (i := 7) (v := undef) rfl (by kernel_rfl) (by kernel_rfl) (by kernel_rfl) (fun _ _ _ h => h) (Or.inr ⟨by kernel_rfl, rfl⟩) hS ?_
      try simp only [Act.put]
      refine wpAnyH_take (i := 8) (v := undef) rfl (by kernel_rfl) (by kernel_rfl) (by kernel_rfl) (fun _ _ _ h => h) (Or.inr ⟨by kernel_rfl, rfl⟩) hS ?_
      try simp only [Act.put]
      refine wpAnyH_take (i := 9) (v := undef) rfl (by kernel_rfl) (by kernel_rfl) (by kernel_rfl) (fun _ _ _ h => h) (Or.inr ⟨by kernel_rfl, rfl⟩) hS ?_
      try simp only [Act.put]
      refine wpAnyH_take (i := 10) (v := undef) rfl (by kernel_rfl) (by kernel_rfl) (by kernel_rfl) (fun _ _ _ h => h) (Or.inr ⟨by kernel_rfl, rfl⟩) hS ?_
      try simp only [Act.put]
      refine wpAnyH_take (i := 11) (v := undef) rfl (by kernel_rfl) (by kernel_rfl) (by kernel_rfl) (fun _ _ _ h => h) (Or.inr ⟨by kernel_rfl, rfl⟩) hS ?_
      try simp only [Act.put]
      refine wpAnyH_take (i := 12) (v := undef) rfl (by kernel_rfl) (by kernel_rfl) (by kernel_rfl) (fun _ _ _ h => h) (Or.inr ⟨by kernel_rfl, rfl⟩) hS ?_
      try simp only [Act.put]
      refine wpAnyH_take (i := 13) (v := undef) rfl (by kernel_rfl) (by kernel_rfl) (by kernel_rfl) (fun _ _ _ h => h) (Or.inr ⟨by kernel_rfl, rfl⟩) hS ?_
      try simp only [Act.put]
      refine wpAnyH_take (i := 14) (v := undef) rfl (by kernel_rfl) (by kernel_rfl) (by kernel_rfl) (fun _ _ _ h => h) (Or.inr ⟨by kernel_rfl, rfl⟩) hS ?_
      try simp only [Act.put]
      refine wpAnyH_take (i := 15) (v := undef) rfl (by kernel_rfl) (by kernel_rfl) (by kernel_rfl) (fun _ _ _ h => h) (Or.inr ⟨by kernel_rfl, rfl⟩) hS ?_
      try simp only [Act.put]
      refine wpAnyH_take (i := 16) (v := undef) rfl (by kernel_rfl) (by kernel_rfl) (by kernel_rfl) (fun _ _ _ h => h) (Or.inr ⟨by kernel_rfl, rfl⟩) hS ?_
      try simp only [Act.put]
      refine wpAnyH_take (i := 17) (v := .bool false) rfl (by kernel_rfl) (by kernel_rfl) (by kernel_rfl) (fun _ _ _ h => h) (Or.inl ⟨by kernel_rfl, ?_⟩) hS ?_
      · rintro w' ⟨_, q0⟩; go_simp
      try simp only [Act.put]
      refine wpAnyH_done (by kernel_rfl) ?_ _
      try simp only [List.getElem_toArray, List.getElem_cons_succ, List.getElem_cons_zero]
      try simp only [List.setIfInBounds_toArray, List.set_cons_zero, List.set_cons_succ]
      go_wp2_with fail
      go_meet
      case rel => exact ⟨by rw [HEN.out], Mod.drew (Mod.refl none_ W1)⟩
    · obtain ⟨n1, hn1⟩ : ∃ n1, slen = n1 + 1 := ⟨slen - 1, by omega⟩
      obtain ⟨x, hx⟩ : ∃ x, sp[n1]? = some x := ⟨sp[n1]'(by rw [HN.out]; omega), by simp⟩
      have hen : endS sp = x.1 + x.2 := by
        unfold endS
        rw [List.getLast?_eq_getElem?, HN.out, hn1]
        simp [hx]
      have hfit := ok_fits sp (-1) HSO.out x (List.mem_of_getElem? hx)
      obtain ⟨b, off, hsa, c1, c2⟩ := (HS.out.grown (M0.out.trans M1.out)).cells n1 x hx
      have hD1 := HD.out.grown (M0.out.trans M1.out)
      have HEN := Lib.hid hen
      obtain rfl : KK = (n1 : Int) := by have := HKK.out; omega
      have hix2 : n1 < slen := by omega
      have hwx : IntKind.i64.wrap (x.1 + x.2) = x.1 + x.2 := by rw [IntKind.wrap_i64]; omega
      have hix3 : ¬ (slen ≤ n1) := by omega
      subst hsa
      clear KX1 KE1 e0 r0 hn0 hn1 hx hen
      go_region_held3 (fun w' => Mod none_ W1 w' ∧ w'.cell? ⟨w.heap.size, 0, none⟩ = some (.slice (some ⟨b, off, none⟩) slen scap) ∧ w'.cell? ⟨b, off + n1 * 2, none⟩ = some (.int .i64 x.1) ∧ w'.cell? ⟨b, off + n1 * 2 + 1, none⟩ = some (.int .i64 x.2))
        (first
          | exact ⟨Mod.drew (Mod.refl none_ W1), c0, c1, c2⟩
          | assumption
          | (obtain ⟨q, q0, q1, q2⟩ := ‹Mod none_ W1 _ ∧ _›; exact ⟨q.trans m1, m1.cell (fun e => e) q0, m1.cell (fun e => e) q1, m1.cell (fun e => e) q2⟩))
        (first
          | (go_at_call 43; refine (size_any _ 0 D l ((hD1.grown (And.left (by assumption))).is) (by omega)).mono ?_; rintro e w2 ⟨rfl, m1⟩))
      go_wp2_with fail
      go_meet
      case rel => exact ⟨by rw [HEN.out], And.left (by assumption)⟩
  case rest =>
    obtain ⟨rfl, hm2⟩ := hcut
    have M2 := Lib.hid (M1.out.trans hm2)
    have KX2 := KX1.mod hm2 (fun e => e)
    have KE2 := KE1.mod hm2 (fun e => e)
    clear c0 e0 r0 hm2 KX1 KE1
    have c0 : wc.cell? ⟨w.heap.size, 0, none⟩ = some (.slice sa slen scap) := KX2.cell 0
    have e0 : wc.cell? ⟨w.heap.size + 1, 0, none⟩ = some (.int .i64 0) := KE2.cell 0
    have r0 := KE2.frozen 0
    cases hend : decide ((l.length : Int) < endS sp)
    case true =>
      have R1 := Lib.hid (REF.out 1 (by unfold dropE; rw [HSO.out]; simp at hend; simp [hend]) (by decide) wc M2.out none_)
      have R2 := Lib.hid (KER.out 1 wc M2.out)
      clear KX2 KE2
      go_wp2_with fail
      exact ⟨_, results_er rfl _ _ _ _ rfl R2.out, R1.out⟩
    have HEND := Lib.hid (show ¬ (l.length : Int) < endS sp by simp at hend; omega)
    clear hend
    go_wp2_with fail
    obtain ⟨v, MB, bl, hv, hnm, hl, hf, hmb, hne⟩ := HD.out.ex
    subst hl
    have mwc : Mod none_ w wc := M0.out.trans M2.out
    have hvc := hv.grown mwc
    have HV := Lib.hid hv
    have HVC := Lib.hid hvc
    have HNM := Lib.hid (hnm.mod mwc (fun e => e))
    have HF := Lib.hid hf
    have HMB := Lib.hid hmb
    have HNE := Lib.hid hne
    have MWC := Lib.hid mwc
    have KX3 := Lib.hid KX2
    have KE3 := Lib.hid KE2
    have hXlt : w.heap.size < wc.heap.size := KX2.lt
    have hElt : w.heap.size + 1 < wc.heap.size := KE2.lt
    clear hv hnm hf hmb hne mwc hvc KX2 KE2
    refine (each_any D _).mono ?_
    rintro e w2 ⟨rfl, rfl⟩
    go_wp2_with fail
    obtain ⟨WB, hWB⟩ : ∃ WB, wc.alloc (.cells #[.pointer (some ⟨D, 0, none⟩)] 79) = WB := ⟨_, rfl⟩
    have hzB : WB.heap.size = wc.heap.size + 1 := by rw [← hWB]; simp
    have hI0 : Mod none_ wc WB ∧ Blk WB wc.heap.size [.pointer (some ⟨D, 0, none⟩)] 79 ∧ hitFrom sp 0 ((cellsOf bl).take 0) = false := by
      rw [← hWB]
      exact ⟨(Mod.refl none_ wc).alloc _, Blk.new, rfl⟩
    rw [hWB]
    clear hWB c0 e0 r0
    refine wpIn_wide.1 (?_ : Code.wpIn Fence.wide 5 _ _ _ _ _)
    refine rangeFunc_upd (fun t x => (((t.setIfInBounds 45 (.int .i64 (x.p : Int))).setIfInBounds 46 (.pointer (some ⟨x.g, x.i * 5, none⟩))).setIfInBounds 6 (.int .i64 (x.p : Int))).setIfInBounds 7 (.pointer (some ⟨x.g, x.i * 5, none⟩))) rfl (by decide) (gf := 133) (lb := #[.pointer (some ⟨wc.heap.size, 0, none⟩)]) rfl trivial (enters_of Tryz.func133 (by kernel_rfl) rfl)
      CPos.enc (fun _ => rfl) (fun st W => Mod none_ wc W ∧ Blk W wc.heap.size [.pointer (some ⟨D, 0, none⟩)] 79 ∧ hitFrom sp 0 ((cellsOf bl).take st) = false) (fun c _ W => c = .ret ∧ hitFrom sp 0 (cellsOf bl) = true ∧ Mod (one (w.heap.size + 1)) wc W ∧ Blk W (w.heap.size + 1) [.int .i64 13] 40) (fun st _ => st + 1) (fun st x => x.p = st ∧ x.at_ bl) (fun st => st = (cellsOf bl).length) 0 ?hI ?hIx hI0 ?hiter ?assign ?body ?done ?stop
    case hI =>
      rintro st W W' ⟨m0, kb, hh⟩ m
      exact ⟨m0.transOwn m (by omega), kb.own m, hh⟩
    case hIx =>
      rintro c st W W' ⟨h1, h2, m0, k1⟩ m
      exact ⟨h1, h2, m0.transIn m (fun b hb e => absurd e.1 (by omega)), k1.own m⟩
    case hiter =>
      intro l' J Jx W hJI hJ hY h0
      refine (each1_any (5 - 1) D MB _ v bl (by omega) (fun st W => Mod none_ wc W ∧ Blk W wc.heap.size [.pointer (some ⟨D, 0, none⟩)] 79 ∧ hitFrom sp 0 ((cellsOf bl).take st) = false) (fun i W h => ⟨h.2.1, HVC.out.grown h.1⟩) l' J Jx W hJI hY h0).mono ?_
      rintro e W' ⟨h1, h2 | h2⟩
      · exact ⟨h1, .inl ⟨_, rfl, h2⟩⟩
      · exact ⟨h1, .inr h2⟩
    case assign =>
      intro l' x W K hK
      unfold CPos.enc
      gi_wp2
      exact hK
    case body =>
      rintro l' st x W ⟨m0, kb, hh⟩ ⟨rfl, hx⟩
      obtain ⟨c, hc, hcs⟩ := CPos.get (HVC.out.grown m0) hx
      have hlt := (List.getElem?_eq_some_iff.1 hc).1
      have htk : (cellsOf bl).take (x.p + 1) = (cellsOf bl).take x.p ++ [c] := by
        rw [List.take_succ_eq_append_getElem hlt, (List.getElem?_eq_some_iff.1 hc).2]
      have hst : hitFrom sp 0 ((cellsOf bl).take (x.p + 1)) = (!c.gone && hasPl sp x.p) := by
        rw [htk, hitFrom_append, hh, hitFrom_one, List.length_take, Nat.min_eq_left (by omega)]; simp
      have hall : hitFrom sp 0 ((cellsOf bl).take (x.p + 1)) = true → hitFrom sp 0 (cellsOf bl) = true := fun ht => by
        have : cellsOf bl = (cellsOf bl).take (x.p + 1) ++ (cellsOf bl).drop (x.p + 1) := (List.take_append_drop _ _).symm
        rw [this, hitFrom_append, ht]; rfl
      have x4 : W.cell? ⟨x.g, x.i * 5 + 4, none⟩ = some (.bool c.gone) := hcs 4 (by omega)
      have c0 : W.cell? ⟨w.heap.size, 0, none⟩ = some (.slice sa slen scap) := (KX3.out.mod m0 (fun e => e)).cell 0
      have kE := KE3.out.mod m0 (fun e => e)
      have e0 : W.cell? ⟨w.heap.size + 1, 0, none⟩ = some (.int .i64 0) := kE.cell 0
      have r0 := kE.frozen 0
      have HH := Lib.hid (has_any W sa slen scap sp x.p ((HS.out.grown MWC.out).grown m0) HSO.out)
      have ALL := Lib.hid hall
      have M0' := Lib.hid m0
      have KB' := Lib.hid kb
      have KE' := Lib.hid kE
      simp only [List.setIfInBounds_toArray, List.set_cons_zero, List.set_cons_succ]
      cases hg : c.gone
      · rw [hg] at x4 hst
        cases hp : hasPl sp x.p
        · rw [hp] at HH hst
          have HT := Lib.hid (show hitFrom sp 0 ((cellsOf bl).take (x.p + 1)) = false by rw [hst]; rfl)
          clear hI0 hx hc hcs hlt htk hall hst hh m0 kb kE
          gi_wp2_with fail
          refine ⟨trivial, ?_⟩
          refine (CallsIn.inRound l' (callsIn_wide.2 HH.out)).mono ?_
          rintro e w3 ⟨rfl, m3⟩
          have FIN := Lib.hid (show KeepsOthers W w3 ∧ Mod none_ wc w3 ∧ Blk w3 wc.heap.size [.pointer (some ⟨D, 0, none⟩)] 79 ∧ hitFrom sp 0 ((cellsOf bl).take (x.p + 1)) = false from ⟨keeps_none m3, M0'.out.trans m3, KB'.out.mod m3 (fun e => e), HT.out⟩)
          clear m3
          gi_wp2_with fail
          exact FIN.out
        · rw [hp] at HH hst
          have HT := Lib.hid (show hitFrom sp 0 (cellsOf bl) = true from hall (by rw [hst]; rfl))
          clear hI0 hx hc hcs hlt htk hall hst hh m0 kb kE
          gi_wp2_with fail
          refine ⟨trivial, ?_⟩
          refine (CallsIn.inRound l' (callsIn_wide.2 HH.out)).mono ?_
          rintro e w3 ⟨rfl, m3⟩
          have k3 := KE'.out.mod m3 (fun e => e)
          have e3 : w3.cell? ⟨w.heap.size + 1, 0, none⟩ = some (.int .i64 0) := k3.cell 0
          have r3 := k3.frozen 0
          have FIN := Lib.hid (show KeepsOthers W (w3.setCell ⟨w.heap.size + 1, 0, none⟩ (.int .i64 13)) ∧ hitFrom sp 0 (cellsOf bl) = true ∧ Mod (one (w.heap.size + 1)) wc (w3.setCell ⟨w.heap.size + 1, 0, none⟩ (.int .i64 13)) ∧ Blk (w3.setCell ⟨w.heap.size + 1, 0, none⟩ (.int .i64 13)) (w.heap.size + 1) [.int .i64 13] 40 from
            ⟨(keeps_none m3).trans (KeepsOthers.setCell _ _ _), HT.out, (((M0'.out.trans m3).mono (T := one (w.heap.size + 1)) (fun _ _ e => e.elim)).setCell ⟨w.heap.size + 1, 0, none⟩ (fun _ => rfl) _), k3.set 0 _⟩)
          clear m3 k3
          gi_wp2_with fail
          exact ⟨FIN.out.1, rfl, FIN.out.2⟩
      · rw [hg] at x4 hst
        have FIN := Lib.hid (show KeepsOthers W W ∧ Mod none_ wc W ∧ Blk W wc.heap.size [.pointer (some ⟨D, 0, none⟩)] 79 ∧ hitFrom sp 0 ((cellsOf bl).take (x.p + 1)) = false from ⟨KeepsOthers.refl _, m0, kb, by rw [hst]; rfl⟩)
        clear hI0 hx hc hcs hlt htk hall hst hh m0 kb kE
        gi_wp2_with fail
        refine ⟨trivial, ?_⟩
        gi_wp2_with fail
        exact FIN.out
    case stop =>
      rintro Dd c st W ⟨rfl, hh, m0, k1⟩ hD hlt
      have mP := loopOwn_put (B := WB.heap.size) (.deferred none) hlt hD rfl
      have R2 := Lib.hid ((k1.own mP).cell 0)
      have MR := Lib.hid (m0.transIn mP (fun b hb e => absurd e.1 (by omega)))
      have HH := Lib.hid hh
      clear m0 k1 mP hh hI0
      gi_wp2_with fail
      refine ⟨by simp, .inl ⟨_, _, rfl, run_takeDeferred hD, ?_⟩⟩
      refine ⟨_, results_er rfl _ _ _ _ rfl R2.out, ?_⟩
      have mw : Mod none_ w (W.putObj Dd (.deferred none)) := MWC.out.transIn MR.out (fun b hb e => by have e' : b = w.heap.size + 1 := e; omega)
      have hde : dropE sp (cellsOf bl) = 13 := by unfold dropE; rw [if_pos HSO.out, if_neg (by have := HEND.out; omega), if_pos HH.out]
      refine ⟨by rw [hde], mw.mono (fun _ _ e => e.elim), ?_⟩
      unfold dropL
      rw [if_neg (by rw [hde]; decide)]
      exact (HD.out.grown mw).mono (fun k _ hk => .inl hk)
    case done =>
      rintro Df st W rfl ⟨m0, kb, hh⟩ hDf hlt
      rw [List.take_length] at hh
      have hvW := HVC.out.grown m0
      have hnW := HNM.out.mod m0 (fun e => e)
      have hnf := foot_names hvW hnW
      have hspf : SpF W (fun b => foot D v bl b ∨ b = MB) sa slen scap sp := ⟨(HS.out.grown MWC.out).grown m0, fun b off e hp hb => HFAR.out b off e hp (by
        rcases hb with hb | rfl
        · exact HF.out b hb
        · exact HMB.out)⟩
      have kXW := KX3.out.mod m0 (fun e => e)
      have kEW := KE3.out.mod m0 (fun e => e)
      have notT : ∀ (b : Nat) (cs : List Value) (t : TypeId), Blk W b cs t → t ≠ 127 → t ≠ 131 → t ≠ 183 → t ≠ 47 → ¬ (foot D v bl b ∨ b = MB) := by
        rintro b cs t hb h1 h2 h3 h4 (hk | rfl)
        · obtain ⟨cs', t', hb', ht'⟩ := foot_blk hvW hk
          unfold Blk at hb hb'
          rw [hb] at hb'
          cases hb'
          rcases ht' with h | h | h | h
          · exact h1 h
          · exact h2 h
          · exact h3 h
          · exact h4 h
        · obtain ⟨mm, nn, im, _⟩ := hnW
          exact imap_blk im hb
      have nfX := notT _ _ _ kXW (by decide) (by decide) (by decide) (by decide)
      have nfE := notT _ _ _ kEW (by decide) (by decide) (by decide) (by decide)
      have nfD : ¬ (foot D v bl Df ∨ Df = MB) := by
        rintro (hk | rfl)
        · obtain ⟨cs', t', hb', _⟩ := foot_blk hvW hk
          unfold Blk at hb'
          rw [hDf] at hb'; cases hb'
        · obtain ⟨mm, nn, ⟨es, clock, hb', _⟩, _⟩ := hnW
          rw [hDf] at hb'; cases hb'
      obtain ⟨va, vc, hvf, hvc1, hvc2⟩ := hvW.form
      unfold maxLen at hvc2
      subst hvf
      have hbl : bl.length ≤ 20000 := Nat.le_trans (bl_len HNE.out) hlen
      have DI0 := Lib.hid (show DrpI W D MB (.slice va bl.length vc) bl sp 0 [] W from ⟨by simpa using hvW, rfl, rfl, by simpa using hnW, Mod.refl _ _, fun b hb => .inl (by simpa using hb)⟩)
      have cd : W.cell? ⟨D, 0, none⟩ = some (.slice va bl.length vc) := hvW.doc.cell 0
      have MW := Lib.hid (MWC.out.trans m0)
      have HVW := Lib.hid hvW
      have HNF := Lib.hid hnf
      have SPF := Lib.hid hspf
      have KXW := Lib.hid kXW
      have KEW := Lib.hid kEW
      have NFX := Lib.hid nfX
      have NFE := Lib.hid nfE
      have NFD := Lib.hid nfD
      have HDF := Lib.hid hDf
      have HH := Lib.hid hh
      have HW := Lib.hid hlt
      have hzw : w.heap.size + 1 < W.heap.size := kEW.lt
      have HZW := Lib.hid (show w.heap.size + 2 ≤ WB.heap.size from by omega)
      clear hvW hnW hnf hspf kXW kEW notT nfX nfE nfD hDf hh m0 kb hI0 hlt
      go_wp2_with fail
      go_loopg [8, 62] bl.length (fun g s8 s62 wx => ∃ (k : Nat) (bl' : List BV), g = bl.length - k ∧ s8 = .int .i64 ((cellsOf (bl.take k)).length : Int) ∧ s62 = .int .i64 k ∧ k ≤ bl.length ∧ RowKit.Hid (DrpI W D MB (.slice va bl.length vc) bl sp k bl' wx))
      case atStart => exact ⟨0, [], rfl, rfl, rfl, Nat.zero_le _, DI0⟩
      case round =>
        obtain ⟨k, bl', rfl, rfl, rfl, hk, hst⟩ := hrel
        obtain ⟨wo, rfl⟩ : ∃ wo, wo = wr := ⟨_, rfl⟩
        have KXO := Lib.hid (KXW.out.mod hst.out.m NFX.out)
        have KEO := Lib.hid (KEW.out.mod hst.out.m NFE.out)
        have HDFO := Lib.hid (hst.out.m.blk NFD.out HDF.out)
        by_cases hlk : k < bl.length
        · obtain ⟨x, hx⟩ : ∃ x, bl[k]? = some x := ⟨bl[k]'hlk, by simp⟩
          have hdx := hst.out.doc
          have hxk : (bl' ++ bl.drop k)[k]? = some x := by
            rw [List.getElem?_append_right (by rw [hst.out.len]; exact Nat.le_refl _), hst.out.len, Nat.sub_self, List.getElem?_drop]
            simpa using hx
          have hxm := List.mem_of_getElem? hxk
          have hdx' : DocV wo D (.slice va bl.length vc) MB (bl' ++ bl.drop k) := hdx
          obtain ⟨g, hva, ck⟩ := hdx'.at_ hxk
          subst hva
          have hbx := hdx.blk x hxm
          have b0 : wo.cell? ⟨x.p, 0, none⟩ = some (.int .i64 (x.c.length : Int)) := hbx.b.cell 0
          have b2 : wo.cell? ⟨x.p, 2, none⟩ = some x.v := hbx.b.cell 2
          have hs1 := cellsOf_step hx
          have hs2 := cellsOf_succ hx
          have e1 : (cellsOf bl).length = (cellsOf (bl.take k)).length + (x.c.length + (cellsOf (bl.drop (k + 1))).length) := by rw [hs1]; simp
          have e2 : (cellsOf (bl.take (k + 1))).length = (cellsOf (bl.take k)).length + x.c.length := by rw [hs2]; simp
          have hdk : bl.drop k = x :: bl.drop (k + 1) := by
            obtain ⟨hk', e⟩ := List.getElem?_eq_some_iff.1 hx
            rw [List.drop_eq_getElem_cons hk', e]
          have hnm := hst.out.nm
          have hnfo : ¬ foot D (.slice (some ⟨g, 0, none⟩) bl.length vc) (bl' ++ bl.drop k) MB := foot_names hdx (by simpa [cellsOf] using hnm)
          obtain ⟨P0, hP0⟩ : ∃ P0, P0 = (cellsOf (bl.take k)).length := ⟨_, rfl⟩
          have hJ0 : DrpJ wo MB P0 (cellsOf bl') (cellsOf (bl.drop (k + 1))) x.c sp 0 0 (.slice none 0 0) wo := DrpJ.start (by
            rw [hdk] at hnm
            simpa [cellsOf] using hnm)
          obtain ⟨m, hm⟩ : ∃ m, m = x.c.length := ⟨_, rfl⟩
          obtain ⟨ax, cx, hv, hcx, hcm, hax⟩ : ∃ ax cx, x.v = .slice ax m cx ∧ m ≤ cx ∧ cx ≤ maxLen ∧ (0 < m → ∃ gx, ax = some ⟨gx, 0, none⟩) := by
            rw [hm]
            rcases ownsRow_blk hbx.o with ⟨h1, h2, _⟩ | ⟨gx, cx, _, h1, _, _, h2, h3, _⟩
            · exact ⟨none, 0, by rw [h1, h2], by omega, Nat.zero_le _, fun h => by omega⟩
            · exact ⟨_, cx, h1, h2, h3, fun _ => ⟨gx, rfl⟩⟩
          unfold maxLen at hcm
          rw [hv] at b2
          rw [← hm] at b0 e1 e2
          rw [← hP0] at e1 e2 ⊢
          have HV1 := Lib.hid hv
          have HX := Lib.hid hx
          have HXM := Lib.hid hxm
          have HM0 := Lib.hid hm
          have HP0 := Lib.hid hP0
          have HDX := Lib.hid hdx
          have HNFO := Lib.hid hnfo
          have HBX := Lib.hid hbx
          have J0 := Lib.hid hJ0
          have E2 := Lib.hid e2
          have E1 := Lib.hid e1
          have hb1 : P0 + m ≤ 20000 := by omega
          have CM := Lib.hid (fun (c : CellV) (hc : c ∈ x.c) => (show c.ok from HOK.out c (by rw [hs1]; simp [hc])))
          have cd1 := HDX.out.doc.cell 1
          clear hdx hdx' hbx hs1 hs2 e1 e2 hdk hnm hnfo hJ0 hx hxk hxm hP0 hm hv
          go_wp2_with fail
          go_loopg [12, 76] m (fun g s12 s76 wx => ∃ (i n : Nat) (la : Option Addr) (lc : Nat), g = m - i ∧ s12 = .slice la n lc ∧ s76 = .int .i64 i ∧ i ≤ m ∧ n ≤ i ∧ RowKit.Hid (DrpJ wo MB P0 (cellsOf bl') (cellsOf (bl.drop (k + 1))) x.c sp i n (.slice la n lc) wx))
          case atStart => exact ⟨0, 0, none, 0, rfl, rfl, rfl, Nat.zero_le _, Nat.le_refl _, J0⟩
          case round =>
            obtain ⟨i, n, la, lc, rfl, rfl, rfl, hi, hni, hj⟩ := hrel
            by_cases him : i < m
            · obtain ⟨c, hc⟩ : ∃ c, x.c[i]? = some c := ⟨x.c[i]'(by rw [← HM0.out]; exact him), by simp⟩
              have hcok := CM.out c (List.mem_of_getElem? hc)
              have hdy := HDX.out.mod hj.out.m (fun b hb e => by have e' : b = MB := e; subst e'; exact HNFO.out hb)
              have hby := hdy.blk x HXM.out
              rcases ownsRow_blk hby.o with ⟨h1, h2, _⟩ | ⟨g2, cap2, more, h1, _, kg, hg1, hg2, _⟩
              · have := HM0.out; omega
              rw [HV1.out, ← HM0.out] at h1
              obtain ⟨rfl, rfl⟩ : ax = some ⟨g2, 0, none⟩ ∧ cx = cap2 := by simpa using h1
              have q0 := Blk.elem CellV.len kg i 0 c hc (by decide)
              have q1 := Blk.elem CellV.len kg i 1 c hc (by decide)
              have q2 := Blk.elem CellV.len kg i 2 c hc (by decide)
              have q3 := Blk.elem CellV.len kg i 3 c hc (by decide)
              have q4 := Blk.elem CellV.len kg i 4 c hc (by decide)
              simp only [CellV.cs, Nat.add_zero, List.getElem?_cons_zero, List.getElem?_cons_succ] at q0 q1 q2 q3 q4
              have hgl := kg.lt
              have kXr := KXO.out.mod hj.out.m (fun e => by have e' : w.heap.size = MB := e; exact NFX.out (.inr e'))
              have mA := (Mod.refl none_ wr).alloc (.cells #[.int .i64 c.site, .int .i64 c.seq, .int .i64 c.off, .int .i32 c.r, .bool c.gone] 47)
              have kA := Blk.new (w := wr) (cs := [.int .i64 c.site, .int .i64 c.seq, .int .i64 c.off, .int .i32 c.r, .bool c.gone]) (t := 47)
              have hspA := ((SPF.out.mod hst.out.m (fun _ e => e)).mod hj.out.m (fun b e => .inr e)).mod mA (fun _ e => e.elim)
              have HAS := has_any _ sa slen scap sp (P0 + i) hspA.sp HSO.out
              rw [Int.natCast_add] at HAS
              have HAS := Lib.hid HAS
              have kXA := kXr.mod mA (fun e => e)
              have JA := Lib.hid (hj.out.grown mA)
              have hdA := (hdy.grown mA).doc
              have KA := Lib.hid kA
              have KXA := Lib.hid kXA
              have HDA := Lib.hid hdA
              have HC := Lib.hid hc
              have OK := Lib.hid hcok
              have hnb : n ≤ 20000 := by omega
              clear hc hcok hdy hby h1 kg hg1 hg2 kXr mA kA hspA kXA hdA hj
              go_upto_region 20 with (fail)
              generalize wr.alloc (.cells #[.int .i64 c.site, .int .i64 c.seq, .int .i64 c.off, .int .i32 c.r, .bool c.gone] 47) = wA at HAS JA KA KXA HDA ⊢
              obtain ⟨Bx, hBx⟩ : ∃ Bx, Bx = wr.heap.size := ⟨_, rfl⟩
              rw [← hBx] at KA ⊢
              clear hBx q0 q1 q2 q3 q4 hgl
              have c0 : wA.cell? ⟨w.heap.size, 0, none⟩ = some (.slice sa slen scap) := KXA.out.cell 0
              cases hp : hasPl sp (P0 + i)
              · rw [hp] at HAS
                go_wp2_with fail
                refine HAS.out.mono ?_
                rintro e w3 ⟨rfl, m3⟩
                have k3 := KA.out.mod m3 (fun e => e)
                have d0 := k3.cell 0
                have d1 := k3.cell 1
                have d2 := k3.cell 2
                have d3 := k3.cell 3
                have d4 := k3.cell 4
                simp only [List.getElem?_cons_zero, List.getElem?_cons_succ] at d0 d1 d2 d3 d4
                obtain ⟨va', vc', w4, hrun, J4, _⟩ := DrpJ.keep (Y := w3.alloc (.cells #[.int .i64 c.site, .int .i64 c.seq, .int .i64 c.off, .int .i32 c.r, .bool c.gone] 47)) (X := w3.heap.size) (JA.out.grown m3) HC.out hp (by omega) ((Mod.refl none_ w3).alloc _) Blk.new
                have J4 := Lib.hid J4
                clear k3 m3 hp c0
                go_wp2_with fail
                go_roundg (m - (i + 1))
                all_goals first
                  | omega
                  | exact ⟨i + 1, n + 1, va', vc', rfl, rfl, by go_num, by omega, by omega, J4⟩
              · rw [hp] at HAS
                go_wp2_with fail
                refine HAS.out.mono ?_
                rintro e w3 ⟨rfl, m3⟩
                have k3 := KA.out.mod m3 (fun e => e)
                have j3 := JA.out.grown m3
                have J3 := Lib.hid j3
                have hkx : c.name ∈ (cellsOf bl' ++ dropFrom sp P0 (x.c.take i) ++ x.c.drop i ++ cellsOf (bl.drop (k + 1))).map CellV.name := by
                  rw [(drop_step (sp := sp) (P := P0) HC.out).2]
                  simp
                have NMd : Names Tryz.prog 28 w3.drew MB ((cellsOf bl' ++ dropFrom sp P0 (x.c.take i) ++ x.c.drop i ++ cellsOf (bl.drop (k + 1))).map CellV.name) := j3.nm.mod (Mod.drew (Mod.refl none_ w3)) (fun e => e)
                obtain ⟨s, w4, w5, l1, l2, l2', l3, M4, M5, hgt, mm, nn, im, imx, im1, im2⟩ := NMd.less kName Tryz.underlying124 zInt hkx (okName OK.out)
                have hqp := cnt_pos hkx
                have hql : cnt ((cellsOf bl' ++ dropFrom sp P0 (x.c.take i) ++ x.c.drop i ++ cellsOf (bl.drop (k + 1))).map CellV.name) c.name ≤ 1099511627776 := by
                  refine Nat.le_trans (cnt_le _ _) ?_
                  have h1 : (cellsOf bl').length ≤ P0 := by rw [hst.out.cs, HP0.out]; exact dropFrom_len _ _ _
                  have h2 := dropFrom_len sp (x.c.take i) P0
                  have h3 := E1.out
                  have h4 := HM0.out
                  rw [List.length_take] at h2
                  simp only [List.length_map, List.length_append, List.length_drop]
                  omega
                have KS := Lib.hid (show ∃ ks, ks = (cellsOf bl' ++ dropFrom sp P0 (x.c.take i) ++ x.c.drop i ++ cellsOf (bl.drop (k + 1))).map CellV.name from ⟨_, rfl⟩)
                obtain ⟨ks, hks⟩ := KS.out
                rw [← hks] at hkx NMd l1 l2 l2' l3 hgt imx im1 im2 hqp hql
                have GN := Lib.hid (fun (w' : World) (m' : Mod (one MB) w3 w') (hN : Names Tryz.prog 28 w' MB (ks.erase c.name)) => J3.out.gone HC.out hp m' (by rw [← hks]; exact hN))
                obtain ⟨q, hq⟩ : ∃ q, q = cnt ks c.name := ⟨_, rfl⟩
                rw [← hq] at l1 l2 l2' l3 hgt imx hqp hql
                have hwq : IntKind.i64.wrap ((q : Int) - 1) = (q : Int) - 1 := by rw [IntKind.wrap_i64]; omega
                have hd3 := HDA.out.mod m3 (fun e => e)
                have a1 : w3.cell? ⟨D, 1, none⟩ = some (.map (some MB)) := hd3.cell 1
                have d0 := k3.cell 0
                have d1 := k3.cell 1
                simp only [List.getElem?_cons_zero, List.getElem?_cons_succ] at d0 d1
                have hDM : ¬ one MB D := fun e => by have e' : D = MB := e; exact HNFO.out (by rw [← e']; exact .inl rfl)
                have hBM : ¬ one MB Bx := fun e => by
                  have e' : Bx = MB := e
                  obtain ⟨m2, n2, i2, _⟩ := NMd
                  exact imap_blk i2 (by rw [← e']; exact k3.drew)
                have k5 := k3.drew.mod M5 hBM
                have hd5 := hd3.drew.mod M5 hDM
                have a5 : w5.cell? ⟨D, 1, none⟩ = some (.map (some MB)) := hd5.cell 1
                have f0 := k5.cell 0
                have f1 := k5.cell 1
                simp only [List.getElem?_cons_zero, List.getElem?_cons_succ] at f0 f1
                have l4 : (Instr.lookup 124 (.map (some MB)) (.agg #[.int .i64 c.site, .int .i64 c.seq]) false).run Tryz.prog w5.drew = .ok (.int .i64 ((q : Int) - 1)) w5.drew := by
                  have i5 : IMap Tryz.prog 28 w5.drew MB mm nn := im
                  have h1 := i5.lookup (t := 124) kName Tryz.underlying124 (zInt _) (okName OK.out) false
                  rw [if_neg (by simp), imx] at h1
                  exact h1
                have M5' := Lib.hid (((Mod.refl (one MB) w3).drew).trans M5)
                have HGT := Lib.hid hgt
                have HQ := Lib.hid hq
                have IM := Lib.hid im
                have IM1 := Lib.hid im1
                have IM2 := Lib.hid im2
                have HKX := Lib.hid hkx
                clear k3 m3 hp c0 j3 NMd M4 M5 hgt im imx im1 im2 hkx KS hks hd3 hDM hBM k5 hd5 hq
                go_wp2_with fail
                go_cut [12, 76] from 77 to 115 (fun s12 s76 wx => s12 = .slice la n lc ∧ s76 = .int .i64 (i : Int) ∧ wx = w5)
                case first =>
                  go_region_law (fail)
                  all_goals (try go_wp2_with fail)
                  all_goals go_meet
                  all_goals exact ⟨rfl, rfl, rfl⟩
                case rest =>
                  obtain ⟨rfl, rfl, hw5⟩ := hcut
                  rw [hw5]
                  clear hw5 l1 l2 l2' l3 a1 d0 d1 hwq
                  go_wp2_with fail
                  go_cut [12, 76, 108] from 77 to 115 (fun s12 s76 s108 wx => s12 = .slice la n lc ∧ s76 = .int .i64 (i : Int) ∧ s108 = .bool ((q : Int) - 1 == 0) ∧ wx = w5.drew)
                  case first =>
                    go_region_law (fail)
                    all_goals (try go_wp2_with fail)
                    all_goals go_meet
                    all_goals exact ⟨rfl, rfl, rfl, rfl⟩
                  case rest =>
                    obtain ⟨rfl, rfl, rfl, hw6⟩ := hcut
                    rw [hw6]
                    clear hw6 l4
                    by_cases hq1 : q = 1
                    · have hqb : ((q : Int) - 1 == 0) = true := by simp; omega
                      obtain ⟨w6, hdel, M6, N6⟩ := Names.last (w := w5.drew.drew) (t := 124) (IM.out : IMap Tryz.prog 28 w5.drew.drew MB mm nn) kName Tryz.underlying124 HKX.out (by rw [← HQ.out]; exact hq1) IM1.out IM2.out
                      have J6 := Lib.hid (GN.out w6 (M5'.out.trans (((Mod.refl (one MB) w5).drew.drew).trans M6)) N6)
                      clear M6 N6 hq1
                      go_wp2_with fail
                      go_region_law (fail)
                      all_goals (try go_wp2_with fail)
                      all_goals go_roundg (m - (i + 1))
                      all_goals first
                        | omega
                        | exact ⟨i + 1, n, la, lc, rfl, rfl, by go_num, by omega, by omega, J6⟩
                    · have hqb : ((q : Int) - 1 == 0) = false := by simp; omega
                      have J6 := Lib.hid ((GN.out w5 M5'.out (HGT.out (by omega))).grown (Mod.drew (Mod.refl none_ w5)))
                      clear hq1
                      go_wp2_with fail
                      go_roundg (m - (i + 1))
                      all_goals first
                        | omega
                        | exact ⟨i + 1, n, la, lc, rfl, rfl, by go_num, by omega, by omega, J6⟩
            · obtain rfl : i = m := by omega
              have hdy := HDX.out.mod hj.out.m (fun b hb e => by have e' : b = MB := e; subst e'; exact HNFO.out hb)
              have hby := hdy.blk x HXM.out
              have hxM : MB ≠ x.p := fun e => HNFO.out (.inr (.inr ⟨x, HXM.out, .inl e⟩))
              have b0' : wr.cell? ⟨x.p, 2, none⟩ = some x.v := hby.b.cell 2
              rw [HV1.out] at b0'
              have rf2 := hby.b.frozen 2
              have kB2 := hby.b.set 2 (.slice la n lc)
              have mS : Mod (one x.p) wr (wr.setCell ⟨x.p, 2, none⟩ (.slice la n lc)) := (Mod.refl (one x.p) wr).setCell ⟨x.p, 2, none⟩ (fun _ => rfl) _
              have hj2 := hj.out
              rw [HM0.out] at hj2
              have hnlen := hj2.n
              rw [List.take_length] at hnlen
              have hrow := hj2.row
              rw [List.take_length] at hrow
              have hrS := ownsRow_mod hrow mS (fun b hb e => by
                have e' : b = x.p := e
                subst e'
                obtain ⟨cs', hc'⟩ := ownsRow_type hrow hb
                exact Blk.apart hby.b hc' (by decide) rfl)
              have hCT := count_any (wr.setCell ⟨x.p, 2, none⟩ (.slice la n lc)) x.p wo.heap.size _ _ (.slice la n lc) n (dropFrom sp P0 x.c) kB2 hrS (fun e => by
                obtain ⟨cs', hc'⟩ := ownsRow_type hrow e
                exact Blk.apart hby.b hc' (by decide) rfl) hnlen.symm (by omega)
              have HCT := Lib.hid hCT
              have MS := Lib.hid mS
              have J2 := Lib.hid hj2
              clear hdy hby kB2 mS hj2 hnlen hrow hrS hCT hj
              go_wp2_with fail
              refine HCT.out.mono ?_
              rintro e wz ⟨rfl, kz, mz⟩
              have hI := DrpI.step hst.out HX.out (by rw [← HP0.out]; exact J2.out) (MS.out.trans mz) (by rw [← HP0.out]; exact kz)
              have HI := Lib.hid hI
              clear hI kz mz
              go_wp2_with fail
              go_roundg (bl.length - (k + 1))
              all_goals first
                | omega
                | exact ⟨k + 1, _, rfl, by rw [E2.out]; simp, by go_num, by omega, HI⟩
        · obtain rfl : k = bl.length := by omega
          have hI := hst.out
          have hdx := hI.doc
          rw [List.drop_length, List.append_nil] at hdx
          have hnm := hI.nm
          rw [List.drop_length] at hnm
          have hft := hI.ft
          rw [List.drop_length, List.append_nil] at hft
          have hcs := hI.cs
          rw [List.take_length] at hcs
          have hde : dropE sp (cellsOf bl) = 0 := by unfold dropE; rw [if_pos HSO.out, if_neg (by have := HEND.out; omega), if_neg (by rw [HH.out]; decide)]
          have hdl : dropL sp (cellsOf bl) = dropFrom sp 0 (cellsOf bl) := by unfold dropL; rw [if_pos hde]
          have hT : ∀ b, foot D (.slice va bl.length vc) bl b ∨ b = MB → S b := fun b hb => by
            rcases hb with hb | rfl
            · exact HF.out b hb
            · exact HMB.out
          have hmo : Mod S w wo := (MW.out.mono (fun _ _ e => e.elim)).trans (hI.m.mono (fun b _ hb => hT b hb))
          have hnmf := foot_names hdx (by simpa [cellsOf] using hnm)
          have cdo : wo.cell? ⟨D, 0, none⟩ = some (.slice va bl.length vc) := hdx.doc.cell 0
          have fdo := hdx.doc.frozen 0
          have hft' : ∀ b, foot D (.slice va bl.length vc) bl' b → S b ∨ w.heap.size ≤ b := fun b hb => by
            rcases hft b hb with h1 | h1
            · exact .inl (HF.out b h1)
            · exact .inr (by omega)
          have elt : w.heap.size + 1 < wo.heap.size := (hI.m.blk NFE.out KEW.out |> Blk.lt)
          have kEo : Blk wo (w.heap.size + 1) [.int .i64 0] 40 := KEW.out.mod hI.m NFE.out
          have hDo : wo.heap[Df]? = some (.deferred (some [])) := hI.m.blk NFD.out HDF.out
          have Dlt := lt_of_block HDF.out
          have nE' : ¬ foot D (.slice va bl.length vc) bl' (w.heap.size + 1) := fun hb => by
            rcases hft _ hb with h1 | h1
            · exact NFE.out (.inl h1)
            · omega
          have nD' : ¬ foot D (.slice va bl.length vc) bl' Df := fun hb => by
            rcases hft _ hb with h1 | h1
            · exact NFD.out (.inl h1)
            · omega
          have hwB : w.heap.size ≤ Df := by have := HW.out; have := HZW.out; omega
          have hDC := delDoc_any wo D MB _ bl' hdx
          have HDC := Lib.hid hDC
          have NE := Lib.hid nE'
          have ND := Lib.hid nD'
          have KEO := Lib.hid kEo
          have HDO := Lib.hid hDo
          have HDX := Lib.hid hdx
          have HNMX := Lib.hid (show Names Tryz.prog 28 wo MB ((cellsOf bl').map CellV.name) from by simpa [cellsOf] using hnm)
          have HNMF := Lib.hid hnmf
          have HFT' := Lib.hid hft'
          have HCS := Lib.hid hcs
          have HDE := Lib.hid hde
          have HDL := Lib.hid hdl
          have HMO := Lib.hid hmo
          have HWB := Lib.hid hwB
          clear hI hdx hnm hft hft' hcs hde hdl hT hmo hnmf kEo hDo nE' nD' hwB hDC elt Dlt
          go_wp2_with fail
          refine HDC.out.mono ?_
          rintro e w1 ⟨a2, n2, c2, rfl, hd2, m1, hv2⟩
          have mD : Mod (fun b => foot D (.slice va bl.length vc) bl' b) wo w1 := m1.mono (fun b _ e => .inr (.inl e))
          have m2 : Mod (fun b => foot D (.slice va bl.length vc) bl' b) wo (w1.setCell ⟨D, 0, none⟩ (.slice a2 n2 c2)) := mD.setCell ⟨D, 0, none⟩ (fun _ => .inl rfl) _
          have kE2 := KEO.out.mod m2 NE.out
          have hD2 := m2.blk ND.out HDO.out
          have fd1 := (HDX.out.doc.mod m1 (fun e => by
            obtain ⟨cs', hc'⟩ := ownsRow_type HDX.out.ptrs e
            exact Blk.apart HDX.out.doc hc' (by decide) rfl)).frozen 0
          have cd1 := (HDX.out.doc.mod m1 (fun e => by
            obtain ⟨cs', hc'⟩ := ownsRow_type HDX.out.ptrs e
            exact Blk.apart HDX.out.doc hc' (by decide) rfl)).cell 0
          have mF : Mod (fun b => b = w.heap.size + 1 ∨ b = Df) (w1.setCell ⟨D, 0, none⟩ (.slice a2 n2 c2)) (((w1.setCell ⟨D, 0, none⟩ (.slice a2 n2 c2)).setCell ⟨w.heap.size + 1, 0, none⟩ (.int .i64 0)).putObj Df (.deferred none)) :=
            ((Mod.refl _ _).setCell ⟨w.heap.size + 1, 0, none⟩ (fun _ => .inl rfl) _).trans ⟨rfl, rfl, rfl, by simp, fun k _ hs => World.putObj_heap_other (fun e => hs (.inr (by first | exact e | exact e.symm)))⟩
          have hE := drop_end (S := S) HMO.out HFT'.out HMB.out HNMX.out HNMF.out hd2 (fun b hb => fullBl_foot hv2 b hb) (fullBl_cells bl') (fullBl_ne bl') m2 mF (fun b hb => by
            rcases hb with rfl | rfl
            · exact ⟨by omega, NE.out, fun e => NFE.out (.inr e)⟩
            · exact ⟨HWB.out, ND.out, fun e => NFD.out (.inr e)⟩)
          have hDb : ((w1.setCell ⟨D, 0, none⟩ (.slice a2 n2 c2)).setCell ⟨w.heap.size + 1, 0, none⟩ (.int .i64 0)).heap[Df]? = some (.deferred (some [])) := by
            have mq : Mod (one (w.heap.size + 1)) (w1.setCell ⟨D, 0, none⟩ (.slice a2 n2 c2)) ((w1.setCell ⟨D, 0, none⟩ (.slice a2 n2 c2)).setCell ⟨w.heap.size + 1, 0, none⟩ (.int .i64 0)) := (Mod.refl (one (w.heap.size + 1)) _).setCell ⟨w.heap.size + 1, 0, none⟩ (fun _ => rfl) _
            refine mq.blk (fun e => ?_) hD2
            have e' : Df = w.heap.size + 1 := e
            have hb := kE2
            unfold Blk at hb
            rw [← e', hD2] at hb
            cases hb
          have kE3 := kE2.set 0 (.int .i64 0)
          have rE : (((w1.setCell ⟨D, 0, none⟩ (.slice a2 n2 c2)).setCell ⟨w.heap.size + 1, 0, none⟩ (.int .i64 0)).putObj Df (.deferred none)).cell? ⟨w.heap.size + 1, 0, none⟩ = some (.int .i64 0) := by
            have mq : Mod (one Df) ((w1.setCell ⟨D, 0, none⟩ (.slice a2 n2 c2)).setCell ⟨w.heap.size + 1, 0, none⟩ (.int .i64 0)) (((w1.setCell ⟨D, 0, none⟩ (.slice a2 n2 c2)).setCell ⟨w.heap.size + 1, 0, none⟩ (.int .i64 0)).putObj Df (.deferred none)) := ⟨rfl, rfl, rfl, by simp, fun k _ hs => World.putObj_heap_other (fun e => hs (by first | exact e | exact e.symm))⟩
            refine (kE3.mod mq (fun e => ?_)).cell 0
            have e' : w.heap.size + 1 = Df := e
            have hb := kE3
            unfold Blk at hb
            have hDb' := hDb
            rw [← e'] at hDb'
            rw [hDb'] at hb
            cases hb
          have frE := kE2.frozen 0
          have ceE := kE2.cell 0
          have RE := Lib.hid rE
          have HDB := Lib.hid hDb
          have HEND2 := Lib.hid hE
          clear hd2 m1 hv2 mD m2 kE2 hD2 mF hE hDb kE3 rE
          go_wp2_with fail
          refine ⟨by simp, .inl ⟨_, _, rfl, run_takeDeferred HDB.out, ?_⟩⟩
          refine ⟨_, results_er rfl _ _ _ _ rfl RE.out, ?_⟩
          exact ⟨by rw [HDE.out], HEND2.out.1, by rw [HDL.out, ← HCS.out]; exact HEND2.out.2⟩
end Go.Proofs.YthicagfeaekmoaaGreatDoor

namespace Go.Proofs.YthicagfeaekmoaaGreatDoor
open Go.RowKit Go.Mine
open Classical

/-- Since w only new blocks; the document D of the cells L lies in new blocks, none of them in E. -/
structure DocF (w : World) (E : Nat → Prop) (wx : World) (D : Nat) (L : List CellV) : Prop where
  m : Mod none_ w wx
  doc : ∃ S, DocS wx S D L ∧ ∀ k, S k → w.heap.size ≤ k ∧ ¬ E k
  ex : ∀ k, E k → k < wx.heap.size
  cl : Cl L
theorem DocF.grown {w wx wy : World} {E : Nat → Prop} {D : Nat} {L : List CellV} (h : DocF w E wx D L) (m : Mod none_ wx wy) : DocF w E wy D L :=
  ⟨h.m.trans m, (by obtain ⟨S, h1, h2⟩ := h.doc; exact ⟨S, h1.grown m, h2⟩), fun k hk => Nat.lt_of_lt_of_le (h.ex k hk) m.size, h.cl⟩
theorem DocF.box {w wx wy : World} {E : Nat → Prop} {D : Nat} {L : List CellV} (h : DocF w E wx D L) (m : Mod none_ wx wy) : DocF w (fun k => E k ∨ (wx.heap.size ≤ k ∧ k < wy.heap.size)) wy D L := by
  obtain ⟨S, h1, h2⟩ := h.doc
  refine ⟨h.m.trans m, ⟨fun k => S k ∧ k < wx.heap.size, (h1.mono (T := fun k => S k ∧ k < wx.heap.size) (fun k hk hs => ⟨hs, hk⟩)).grown m, fun k hk => ⟨(h2 k hk.1).1, ?_⟩⟩, ?_, h.cl⟩
  · rintro (he | ⟨he, _⟩)
    · exact (h2 k hk.1).2 he
    · have := hk.2; omega
  · rintro k (hk | hk)
    · exact Nat.lt_of_lt_of_le (h.ex k hk) m.size
    · exact hk.2
theorem DocF.less {w wx : World} {E E' : Nat → Prop} {D : Nat} {L : List CellV} (h : DocF w E wx D L) (hE : ∀ k, E' k → E k) : DocF w E' wx D L :=
  ⟨h.m, (by obtain ⟨S, h1, h2⟩ := h.doc; exact ⟨S, h1, fun k hk => ⟨(h2 k hk).1, fun e => (h2 k hk).2 (hE k e)⟩⟩), fun k hk => h.ex k (hE k hk), h.cl⟩
theorem DocF.is {w wx : World} {E : Nat → Prop} {D : Nat} {L : List CellV} (h : DocF w E wx D L) : DocIs wx 0 D L := by
  obtain ⟨S, h1, _⟩ := h.doc
  exact h1.is
/-- A store into the blocks that are kept. -/
theorem DocF.put {w wx wy : World} {E : Nat → Prop} {D : Nat} {L : List CellV} (h : DocF w E wx D L) (m : Mod E wx wy) (hE : ∀ k, E k → w.heap.size ≤ k) : DocF w E wy D L := by
  obtain ⟨S, h1, h2⟩ := h.doc
  exact ⟨h.m.transIn m (fun b hb e => by have := hE b e; omega), ⟨S, h1.mod m (fun k hk => (h2 k hk).2), h2⟩, fun k hk => Nat.lt_of_lt_of_le (h.ex k hk) m.size, h.cl⟩
/-- A world on: the document's cells are L', all blocks that are kept stay. -/
structure DocN (w : World) (E : Nat → Prop) (wx : World) (D : Nat) (L' : List CellV) (w' : World) : Prop where
  f : DocF w E w' D L'
  bs : ∀ (b : Nat) (cs : List Value) (t : TypeId), E b → Blk wx b cs t → Blk w' b cs t
  sz : wx.heap.size ≤ w'.heap.size
theorem far_of {w : World} {S : Nat → Prop} {sa : Option Addr} {n c : Nat} {sp : List (Int × Int)} (hsp : IsSpans w sa n c sp) (hS : ∀ k, S k → w.heap.size ≤ k) : ∀ b off, sa = some ⟨b, off, none⟩ → 0 < n → ¬ S b := by
  intro b off hsa hpos hsb
  have h1 := hS b hsb
  have hl : 0 < sp.length := by rw [hsp.n]; exact hpos
  obtain ⟨b', off', e, hc, _⟩ := hsp.cells 0 sp[0] (List.getElem?_eq_getElem hl)
  rw [hsa] at e
  cases e
  have := block_lt_of_cell hc
  simp at this
  omega
theorem DocF.do_ {w wx : World} {E : Nat → Prop} {D : Nat} {L : List CellV} (h : DocF w E wx D L) (o : OpV) (sp : List (Int × Int)) (ho : o.ok w sp) (hsz : o.text.size ≤ 1099511627776) :
    Calls Tryz.prog 79 #[.pointer (some ⟨D, 0, none⟩), o.v] wx fun e w' => e = .returned (.int .i64 (doE o sp L)) ∧ DocN w E wx D (doL o sp L) w' := by
  obtain ⟨S, hd, hS⟩ := h.doc
  have ho' := ho.grown h.m
  refine (do_any wx S D L o sp hd h.cl.big h.cl.ok ho' hsz (far_of ho.sp (fun k hk => (hS k hk).1))).mono ?_
  rintro e w' ⟨rfl, m, hd'⟩
  refine ⟨rfl, ⟨h.m.transIn m (fun b hb hs => absurd (hS b hs).1 (by omega)), ⟨_, hd', ?_⟩, fun k hk => Nat.lt_of_lt_of_le (h.ex k hk) m.size, h.cl.doL ho.i1 ho.i2⟩, fun b cs t hb k => k.mod m (fun hs => (hS _ hs).2 hb), m.size⟩
  rintro k (hk | ⟨hk, _⟩)
  · exact hS k hk
  · have h1 := h.m.size
    exact ⟨by omega, fun e => by have := h.ex k e; omega⟩
theorem Cl.dropL {sp : List (Int × Int)} {l : List CellV} (h : Cl l) : Cl (dropL sp l) := by
  unfold Go.Proofs.YthicagfeaekmoaaGreatDoor.dropL
  split
  · have hs := dropFrom_sub sp l 0
    exact ⟨h.ids.sublist (hs.map _), fun c hc => h.ok c (hs.subset hc), Nat.le_trans hs.length_le h.big⟩
  · exact h
/-- Drop, upon such a document; the spans lie ahead of it or behind it. -/
theorem DocF.drop_ {w wx : World} {E : Nat → Prop} {D : Nat} {L : List CellV} (h : DocF w E wx D L) (sa : Option Addr) (n c : Nat) (sp : List (Int × Int)) (hs : IsSpans wx sa n c sp) (hfar : ∀ b off, sa = some ⟨b, off, none⟩ → 0 < n → b < w.heap.size ∨ E b) :
    Calls Tryz.prog 89 #[.pointer (some ⟨D, 0, none⟩), .slice sa n c] wx fun e w' => e = .returned (.int .i64 (dropE sp L)) ∧ DocN w E wx D (dropL sp L) w' := by
  obtain ⟨S, hd, hS⟩ := h.doc
  refine (drop_any wx S D L sa n c sp hd h.cl.big h.cl.ok hs (fun b off e hn hb => ?_)).mono ?_
  · have h1 := hS b hb
    rcases hfar b off e hn with h2 | h2
    · omega
    · exact h1.2 h2
  rintro e w' ⟨rfl, m, hd'⟩
  refine ⟨rfl, ⟨h.m.transIn m (fun b hb hs => absurd (hS b hs).1 (by omega)), ⟨_, hd', ?_⟩, fun k hk => Nat.lt_of_lt_of_le (h.ex k hk) m.size, h.cl.dropL⟩, fun b cs t hb k => k.mod m (fun hs => (hS _ hs).2 hb), m.size⟩
  rintro k (hk | ⟨hk, _⟩)
  · exact hS k hk
  · have h1 := h.m.size
    exact ⟨by omega, fun e => by have := h.ex k e; omega⟩
theorem Cl.new {l : List CellV} (h : newE l = 0) (hok : ∀ c ∈ l, c.ok) (hl : l.length ≤ 20000) : Cl l := by
  unfold newE at h
  by_cases h1 : l.all cellOk = true
  · rw [if_pos h1] at h
    by_cases h2 : (l.map CellV.id).Nodup
    · exact ⟨h2, hok, hl⟩
    · rw [if_neg h2] at h; omega
  · rw [if_neg h1] at h; omega

end Go.Proofs.YthicagfeaekmoaaGreatDoor

namespace Go.Proofs.YthicagfeaekmoaaGreatDoor
open Go.RowKit Go.Mine

end Go.Proofs.YthicagfeaekmoaaGreatDoor

namespace Go.Proofs.YthicagfeaekmoaaGreatDoor
open Go.RowKit Go.Mine

/-- Blank cells. -/
def blanks (k : Nat) : List CellV := (List.range k).map fun i : Nat => ⟨99, 1, (i : Int), 46, false⟩
theorem blanks_succ (k : Nat) : blanks (k + 1) = blanks k ++ [⟨99, 1, (k : Int), 46, false⟩] := by
  unfold blanks; rw [List.range_succ, List.map_append]; rfl
theorem blanks_len (k : Nat) : (blanks k).length = k := by unfold blanks; simp

end Go.Proofs.YthicagfeaekmoaaGreatDoor

namespace Go.Proofs.YthicagfeaekmoaaGreatDoor
open Go.RowKit Go.Mine
open Classical

def xy : ByteArray := ⟨#[120, 121]⟩
theorem ulen_xy : ulen xy = 2 := by
  have h0 : Lib.decodeGo xy = (120, 1) := by decide
  have h1 : tl xy 1 = ⟨#[121]⟩ := by decide
  have h2 : Lib.decodeGo ⟨#[121]⟩ = (121, 1) := by decide
  have h3 : tl ⟨#[121]⟩ 1 = ⟨#[]⟩ := by decide
  unfold ulen
  rw [runesOf_step (by decide) (by unfold bad1; rw [h0]; decide), h0]
  dsimp only
  rw [h1, runesOf_step (by decide) (by unfold bad1; rw [h2]; decide), h2]
  dsimp only
  rw [h3, runesOf_nil (by decide)]
  rfl
theorem ascii_xy : ascii xy := by unfold ascii xy; decide

/-- alive's operation, by a site. -/
def alOp (s : Int) : OpV := ⟨s, 1, 0, 1, 1, xy, none, 0, 0⟩
theorem alOp_ok (s : Int) (hs : 1 ≤ s ∧ s ≤ 16) (w : World) : (alOp s).ok w [] := by
  refine ⟨?_, ?_, ?_, ?_, ?_, .inr ascii_xy, (by decide : xy.size < 4611686018427387904), ⟨rfl, Nat.le_refl _, Nat.zero_le _, fun x hx => (by cases hx), fun i x hx => by simp at hx⟩⟩ <;> simp [alOp] <;> omega
theorem alOp_ins (s : Int) : insOk (alOp s) 3 = true := by
  have h : xy.size = 2 := by decide
  simp [insOk, alOp, textOk, ulen_xy, inB, h]
theorem alOp_adds (s : Int) : addsOf (alOp s) = 2 := by
  unfold addsOf alOp
  rw [if_pos rfl]
  dsimp only
  rw [ulen_xy]
  rfl

/-- alive's cells, k of them turned. -/
def alC (k : Nat) : List CellV := (List.range 3).map fun i : Nat => ⟨if i < k then 9 else 99, 1, (i : Int), 46, false⟩
theorem alC_ok : ∀ c ∈ alC 3, c.ok := by
  intro c hc
  simp [alC, List.range, List.range.loop] at hc
  rcases hc with rfl | rfl | rfl <;> exact ⟨by dsimp only; omega, by dsimp only; omega, by dsimp only; omega, by dsimp only; omega⟩
theorem alC_new : newE (alC 3) = 0 := by
  unfold newE
  rw [if_pos (by decide), if_pos (by simp [alC, List.range, List.range.loop, CellV.id]), if_pos (by decide)]
theorem alC_put : putV (alC 3) 1 1 1 = .tuple #[.agg #[.int .i64 1, .int .i64 1, .int .i64 1], .int .i64 0] := by
  have h1 : gapBad (alC 3) 1 = false := by decide
  have h2 : gapN (alC 3) 1 = 1 := by decide
  unfold putV
  rw [h1, h2]
  rfl
theorem alC_blanks : alC 0 = blanks 3 := by rfl

end Go.Proofs.YthicagfeaekmoaaGreatDoor

namespace Go.Proofs.YthicagfeaekmoaaGreatDoor
open Go.RowKit Go.Mine

theorem al_mv2 : pointOf 1 (alOp 2).at_ (addsOf (alOp 2)) ((alOp 2).site != 1) = 1 := by rw [alOp_adds]; rfl
theorem al_mv1 : pointOf 1 (alOp 1).at_ (addsOf (alOp 1)) ((alOp 1).site != 1) = 3 := by rw [alOp_adds]; rfl
end Go.Proofs.YthicagfeaekmoaaGreatDoor

namespace Go.Proofs.YthicagfeaekmoaaGreatDoor
open Go.RowKit Go.Mine
open Classical

/-- Spans that a function made. -/
theorem spans_owned {w : World} {B n : Nat} {va : Option Addr} {vc : Nat} {L : List (Int × Int)} (h : w.ownsRow B 49 2 (.slice va n vc) n (flat spCs L)) (hok : spansOk L = true) (hl : L.length ≤ 20000) :
    IsSpans w va n vc L ∧ ∀ b off, va = some ⟨b, off, none⟩ → 0 < n → B ≤ b := by
  have hf := ok_fits L (-1) hok
  have h1 := h.1
  rw [flat_length spCs_len] at h1
  have hn : L.length = n := by omega
  rcases ownsRow_blk h with ⟨hv, h0, _⟩ | ⟨g, cap, more, hv, hg, hb, hnc, hcm, _⟩
  · cases hv
    have hnil : L = [] := List.eq_nil_of_length_eq_zero (by omega)
    subst hnil
    exact ⟨⟨rfl, Nat.le_refl _, by unfold maxLen; omega, (fun x hx => by cases hx), (fun i x hx => by cases hx)⟩, (fun b off e => by cases e)⟩
  · cases hv
    refine ⟨⟨hn, hnc, hcm, fun x hx => ?_, fun i x hx => ?_⟩, fun b off e _ => by cases e; exact hg⟩
    · have := hf x hx
      omega
    · have hr : ∀ (j : Nat) (v : Value), (spCs x)[j]? = some v → w.cell? ⟨g, i * 2 + j, none⟩ = some v := by
        intro j v hj
        obtain ⟨hi, _⟩ := List.getElem?_eq_some_iff.1 hx
        obtain ⟨hj2, _⟩ := List.getElem?_eq_some_iff.1 hj
        have hj3 : j < 2 := hj2
        rw [hb.cell, List.getElem?_append_left (by rw [flat_length spCs_len]; omega), flat_get spCs_len L i j x hx hj3, hj]
      refine ⟨g, 0, rfl, ?_, ?_⟩
      · have := hr 0 _ rfl
        simpa using this
      · have := hr 1 _ rfl
        simpa [Nat.zero_add] using this

end Go.Proofs.YthicagfeaekmoaaGreatDoor

namespace Go.Proofs.YthicagfeaekmoaaGreatDoor
open Go.RowKit Go.Mine

/-- All of them runes. -/
abbrev vR (rs : List Int) : Prop := ∀ r ∈ rs, Lib.validRune r = true
theorem bytesOf_flat (rs : List Int) : bytesOf rs = rs.flatMap Lib.encodeRune := by
  unfold bytesOf
  rw [List.map_flatMap]
  rfl
theorem bytesOf_append (a b : List Int) : bytesOf (a ++ b) = bytesOf a ++ bytesOf b := by simp [bytesOf_flat]
theorem bytesOf_cons (r : Int) (b : List Int) : bytesOf (r :: b) = Lib.encodeRune r ++ bytesOf b := by simp [bytesOf_flat]
theorem enc_pos (r : Int) : 0 < (Lib.encodeRune r).length := by
  unfold Lib.encodeRune Lib.encodeRuneZ
  repeat' split
  all_goals simp
theorem vR_cases {r : Int} (h : Lib.validRune r = true) : ∃ n : Nat, r = n ∧ (n < 128 ∨ (128 ≤ n ∧ n < 2048) ∨ (2048 ≤ n ∧ n < 65536 ∧ (n < 55296 ∨ 57344 ≤ n)) ∨ (65536 ≤ n ∧ n ≤ 1114111)) := by
  unfold Lib.validRune at h
  simp only [decide_eq_true_eq] at h
  exact ⟨r.toNat, by omega, by omega⟩
theorem b8 (n : Nat) (h : n < 256) : (UInt8.ofNat n).toNat = n := by rw [UInt8.toNat_ofNat']; omega
theorem enc_n (n : Nat) : Lib.encodeRune (n : Int) = if n < 128 then [UInt8.ofNat n] else if n < 2048 then [UInt8.ofNat (192 + n / 64), UInt8.ofNat (128 + n % 64)] else if n < 65536 ∧ (n < 55296 ∨ 57344 ≤ n) then [UInt8.ofNat (224 + n / 4096), UInt8.ofNat (128 + n / 64 % 64), UInt8.ofNat (128 + n % 64)]
    else if 65536 ≤ n ∧ n ≤ 1114111 then [UInt8.ofNat (240 + n / 262144), UInt8.ofNat (128 + n / 4096 % 64), UInt8.ofNat (128 + n / 64 % 64), UInt8.ofNat (128 + n % 64)] else [239, 191, 189] := by
  have tb : ∀ (z : Int) (m : Nat), z = m → z.toNat.toUInt8 = UInt8.ofNat m := fun z m h => by subst h; rfl
  unfold Lib.encodeRune
  split
  · rw [Lib.encodeRuneZ_one (by omega) (by omega)]
    simp only [List.map_cons, List.map_nil]
    rw [tb _ n rfl]
  · split
    · rw [Lib.encodeRuneZ_two (by omega) (by omega)]
      simp only [List.map_cons, List.map_nil]
      rw [tb _ (192 + n / 64) (by omega), tb _ (128 + n % 64) (by omega)]
    · split
      · rw [Lib.encodeRuneZ_three (by omega)]
        simp only [List.map_cons, List.map_nil]
        rw [tb _ (224 + n / 4096) (by omega), tb _ (128 + n / 64 % 64) (by omega), tb _ (128 + n % 64) (by omega)]
      · split
        · rw [Lib.encodeRuneZ_four (by omega) (by omega)]
          simp only [List.map_cons, List.map_nil]
          rw [tb _ (240 + n / 262144) (by omega), tb _ (128 + n / 4096 % 64) (by omega), tb _ (128 + n / 64 % 64) (by omega), tb _ (128 + n % 64) (by omega)]
        · unfold Lib.encodeRuneZ
          rw [if_neg (by omega), if_neg (by omega), if_neg (by omega), if_neg (by omega)]
          rfl
theorem dN1 (n m b1 b2 b3 : Nat) (h : m < 128) : Lib.decodeN n m b1 b2 b3 = (m, 1) := by unfold Lib.decodeN; rw [if_pos h]
theorem dN2 (n m b2 b3 : Nat) (h : 128 ≤ m ∧ m < 2048) (hn : 2 ≤ n) : Lib.decodeN n (192 + m / 64) (128 + m % 64) b2 b3 = (m, 2) := by
  unfold Lib.decodeN
  rw [if_neg (by omega), if_pos (by omega), if_pos (by omega)]
  congr 1
  omega
theorem dN3 (n m b3 : Nat) (h : 2048 ≤ m ∧ m < 65536 ∧ (m < 55296 ∨ 57344 ≤ m)) (hn : 3 ≤ n) : Lib.decodeN n (224 + m / 4096) (128 + m / 64 % 64) (128 + m % 64) b3 = (m, 3) := by
  have e : (224 + m / 4096) % 16 * 4096 + (128 + m / 64 % 64) % 64 * 64 + (128 + m % 64) % 64 = m := by omega
  unfold Lib.decodeN
  rw [if_neg (by omega), if_neg (by omega), if_pos (by omega), e, if_pos (by omega)]
theorem dN4 (n m : Nat) (h : 65536 ≤ m ∧ m ≤ 1114111) (hn : 4 ≤ n) : Lib.decodeN n (240 + m / 262144) (128 + m / 4096 % 64) (128 + m / 64 % 64) (128 + m % 64) = (m, 4) := by
  have e : (240 + m / 262144) % 8 * 262144 + (128 + m / 4096 % 64) % 64 * 4096 + (128 + m / 64 % 64) % 64 * 64 + (128 + m % 64) % 64 = m := by omega
  unfold Lib.decodeN
  rw [if_neg (by omega), if_neg (by omega), if_neg (by omega), if_pos (by omega), e, if_pos (by omega)]
/-- What was encoded is decoded. -/
theorem decodeL_enc {r : Int} (h : Lib.validRune r = true) (rest : List UInt8) : Lib.decodeL (Lib.encodeRune r ++ rest) = (r.toNat, (Lib.encodeRune r).length) := by
  obtain ⟨n, rfl, hc⟩ := vR_cases h
  rw [Lib.decodeL_N, enc_n, Int.toNat_natCast]
  rcases hc with h1 | ⟨h0, h1⟩ | ⟨h0, h1, h2⟩ | ⟨h0, h1⟩
  · rw [if_pos h1]
    simp only [List.cons_append, List.nil_append, List.getD_cons_zero]
    rw [b8 n (by omega), dN1 _ _ _ _ _ h1]
    rfl
  · rw [if_neg (by omega), if_pos h1]
    simp only [List.cons_append, List.nil_append, List.getD_cons_zero, List.getD_cons_succ]
    rw [b8 (192 + n / 64) (by omega), b8 (128 + n % 64) (by omega), dN2 _ _ _ _ ⟨h0, h1⟩ (by simp only [List.length_cons]; omega)]
    rfl
  · rw [if_neg (by omega), if_neg (by omega), if_pos ⟨h1, h2⟩]
    simp only [List.cons_append, List.nil_append, List.getD_cons_zero, List.getD_cons_succ]
    rw [b8 (224 + n / 4096) (by omega), b8 (128 + n / 64 % 64) (by omega), b8 (128 + n % 64) (by omega), dN3 _ _ _ ⟨h0, h1, h2⟩ (by simp only [List.length_cons]; omega)]
    rfl
  · rw [if_neg (by omega), if_neg (by omega), if_neg (by omega), if_pos ⟨h0, h1⟩]
    simp only [List.cons_append, List.nil_append, List.getD_cons_zero, List.getD_cons_succ]
    rw [b8 (240 + n / 262144) (by omega), b8 (128 + n / 4096 % 64) (by omega), b8 (128 + n / 64 % 64) (by omega), b8 (128 + n % 64) (by omega), dN4 _ _ ⟨h0, h1⟩ (by simp only [List.length_cons]; omega)]
    rfl
/-- A text's runes. -/
theorem runesFrom_bytes (s : ByteArray) : ∀ (rs : List Int), vR rs → ∀ (bound i : Nat) (acc : Array Value), s.data.toList.drop i = bytesOf rs → rs.length ≤ bound → Conv.runesFrom s bound i acc = acc ++ (r32s rs).toArray
  | [], _, bound, i, acc, hd, _ => by
    have hi : s.size ≤ i := by
      have := List.drop_eq_nil_iff.1 (hd.trans rfl)
      rw [Lib.size_eq]; exact this
    cases bound with
    | zero => simp [Conv.runesFrom, r32s]
    | succ b =>
      unfold Conv.runesFrom
      rw [if_neg (by omega)]
      simp [r32s]
  | r :: rs, hv, bound, i, acc, hd, hb => by
    obtain ⟨b, rfl⟩ : ∃ b, bound = b + 1 := ⟨bound - 1, by simp at hb; omega⟩
    have hr := hv r (List.mem_cons_self ..)
    rw [bytesOf_cons] at hd
    have hi : i < s.size := by
      have h1 := congrArg List.length hd
      have h2 := enc_pos r
      rw [List.length_drop, List.length_append] at h1
      rw [Lib.size_eq]
      omega
    have hdec : Utf8.decode s i = (r.toNat, (Lib.encodeRune r).length) := by
      rw [← Lib.decodeL_drop s i, hd, decodeL_enc hr]
    unfold Conv.runesFrom
    rw [if_pos hi, hdec]
    simp only
    rw [runesFrom_bytes s rs (fun x hx => hv x (List.mem_cons_of_mem _ hx)) b _ _ (by rw [← List.drop_drop, hd, List.drop_left]) (by simpa using hb)]
    obtain ⟨n, rfl, _⟩ := vR_cases hr
    simp [r32s]
theorem bytesOf_len (rs : List Int) : rs.length ≤ (bytesOf rs).length := by
  induction rs with
  | nil => simp
  | cons r rs ih =>
    rw [bytesOf_cons, List.length_append, List.length_cons]
    have := enc_pos r
    omega
theorem runes_str {rs : List Int} (hv : vR rs) : Conv.runesFrom ⟨(bytesOf rs).toArray⟩ (ByteArray.size ⟨(bytesOf rs).toArray⟩) 0 #[] = (r32s rs).toArray := by
  rw [runesFrom_bytes _ rs hv _ 0 #[] (by simp) (by have := bytesOf_len rs; rw [Lib.size_eq]; simpa using this)]
  simp
theorem encode_enc {r : Int} (h : Lib.validRune r = true) : Utf8.encode r = ⟨(Lib.encodeRune r).toArray⟩ := by
  obtain ⟨n, rfl, hc⟩ := vR_cases h
  have hval : Utf8.valid (n : Int) = true := by
    unfold Utf8.valid
    simp
    omega
  rw [enc_n]
  unfold Utf8.encode
  simp only [hval, if_true, Int.toNat_natCast]
  rcases hc with h1 | ⟨h0, h1⟩ | ⟨h0, h1, h2⟩ | ⟨h0, h1⟩
  · rw [if_pos h1, if_pos h1]
  · rw [if_neg (by omega), if_pos h1, if_neg (by omega), if_pos h1]
  · rw [if_neg (by omega), if_neg (by omega), if_pos h1, if_neg (by omega), if_neg (by omega), if_pos ⟨h1, h2⟩]
  · rw [if_neg (by omega), if_neg (by omega), if_neg (by omega), if_neg (by omega), if_neg (by omega), if_neg (by omega), if_pos ⟨h0, h1⟩]
theorem runesBytes_eq : ∀ (rs : List Int) (s : ByteArray), vR rs → rs.foldl (fun r n => r ++ Utf8.encode n) s = s ++ ⟨(bytesOf rs).toArray⟩
  | [], s, _ => by
    simp only [List.foldl_nil]
    apply ByteArray.ext
    simp [bytesOf]
  | r :: rs, s, hv => by
    rw [List.foldl_cons, runesBytes_eq rs _ (fun x hx => hv x (List.mem_cons_of_mem _ hx)), encode_enc (hv r (List.mem_cons_self ..)), bytesOf_cons]
    apply ByteArray.ext
    simp
/-- The bytes of runes. -/
theorem str_runes {rs : List Int} (hv : vR rs) : runesBytes rs = ⟨(bytesOf rs).toArray⟩ := by
  unfold runesBytes
  rw [runesBytes_eq rs _ hv]
  apply ByteArray.ext
  simp
/-- A text is its runes' bytes. -/
theorem runesOf_bytes : ∀ (n : Nat) (t : ByteArray), t.size ≤ n → ∀ rs, runesOf t = some rs → t.data.toList = bytesOf (rs.map fun r : Nat => (r : Int)) ∧ vR (rs.map fun r : Nat => (r : Int))
  | 0, t, h, rs, hr => by
    rw [runesOf_nil (by omega)] at hr
    cases hr
    refine ⟨?_, fun r hr => by cases hr⟩
    have : t.data.toList.length = 0 := by rw [← Lib.size_eq]; omega
    rw [List.eq_nil_of_length_eq_zero this]; rfl
  | n + 1, t, h, rs, hr => by
    by_cases h0 : t.size = 0
    · rw [runesOf_nil h0] at hr
      cases hr
      refine ⟨?_, fun r hr => by cases hr⟩
      have : t.data.toList.length = 0 := by rw [← Lib.size_eq]; omega
      rw [List.eq_nil_of_length_eq_zero this]; rfl
    · by_cases hb : bad1 t
      · rw [runesOf_bad h0 hb] at hr; cases hr
      · rw [runesOf_step h0 hb] at hr
        obtain ⟨rest, hr1, rfl⟩ := Option.map_eq_some_iff.1 hr
        have hp := decodeGo_pos h0
        obtain ⟨i1, i2⟩ := runesOf_bytes n (tl t (Lib.decodeGo t).2) (by rw [tl_size]; omega) rest hr1
        have hg : Lib.decodeGo t = Lib.decodeL t.data.toList := by
          have := Lib.decodeL_drop t 0
          rw [List.drop_zero] at this
          rw [this]
          unfold Lib.decodeGo
          rw [if_neg h0]
        have hne : t.data.toList ≠ [] := fun e => h0 (by rw [Lib.size_eq, e]; rfl)
        have hw1 : ¬ ((Lib.decodeL t.data.toList).1 = 65533 ∧ (Lib.decodeL t.data.toList).2 = 1) := fun e => hb (by unfold bad1; rw [hg]; omega)
        have htl : (tl t (Lib.decodeGo t).2).data.toList = t.data.toList.drop (Lib.decodeGo t).2 := by
          unfold tl
          rw [Lib.extract_data, List.take_of_length_le (by rw [List.length_drop, ← Lib.size_eq]; omega)]
        have hen := Lib.encode_decode _ hne hw1
        rw [← hg] at hen
        rw [htl] at i1
        refine ⟨?_, ?_⟩
        · rw [List.map_cons, bytesOf_cons, hen, ← i1, List.take_append_drop]
        · intro r hr
          rw [List.map_cons] at hr
          rcases List.mem_cons.1 hr with rfl | hr
          · rw [hg, Lib.decodeL_N]
            rw [Lib.decodeL_N] at hw1
            have k0 := (t.data.toList.getD 0 0).toNat_lt
            unfold Lib.validRune
            rw [decide_eq_true_eq]
            rcases Lib.decodeN_shape t.data.toList.length (t.data.toList.getD 0 0).toNat (t.data.toList.getD 1 0).toNat (t.data.toList.getD 2 0).toNat (t.data.toList.getD 3 0).toNat with ⟨c, e⟩ | ⟨c1, c2, c3, cv, e⟩ | ⟨c1, c2, c3, c4, cv, cs, e⟩ | ⟨c1, c2, c3, c4, c5, cv, cw, e⟩ | e
            · rw [e]; dsimp only; omega
            · rw [e]; dsimp only; omega
            · rw [e]; dsimp only; omega
            · rw [e]; dsimp only; omega
            · rw [e] at hw1; exact absurd ⟨rfl, rfl⟩ hw1
          · exact i2 r hr
theorem runesD_bytes {t : ByteArray} {rs : List Nat} (h : runesOf t = some rs) : t = ⟨(bytesOf (rs.map fun r : Nat => (r : Int))).toArray⟩ ∧ vR (rs.map fun r : Nat => (r : Int)) := by
  obtain ⟨h1, h2⟩ := runesOf_bytes t.size t (Nat.le_refl _) rs h
  refine ⟨?_, h2⟩
  apply ByteArray.ext
  rw [← h1]
theorem bytes_app (a b : List Int) : (⟨(bytesOf a).toArray⟩ : ByteArray) ++ ⟨(bytesOf b).toArray⟩ = ⟨(bytesOf (a ++ b)).toArray⟩ := by
  apply ByteArray.ext
  simp [bytesOf_append]
end Go.Proofs.YthicagfeaekmoaaGreatDoor

namespace Go.Proofs.YthicagfeaekmoaaGreatDoor
open Go.RowKit Go.Mine
open Classical

/-- Are there not these cells? -/
def runBad (l : List CellV) (i nn : Int) : Bool := decide (i < 0) || decide ((liveN l : Int) < i) || decide (nn < 0) || decide ((liveN l : Int) - i < nn)
def runP (l : List CellV) (i nn : Int) (j : Nat) : Bool := (l[j]?.map fun c => runB c.gone (seenN l j) i nn).getD false
/-- The places of the run. -/
def runL (l : List CellV) (i nn : Int) : List (Int × Int) := plsOf (runP l i nn) l.length

/-- What cells of a document are, all of them. -/
structure Good (l : List CellV) : Prop where
  cl : Cl l
  ok : ∀ c ∈ l, cellOk c = true
theorem Good.new {l : List CellV} (h : Good l) : newE l = 0 := by
  unfold newE
  rw [if_pos (List.all_eq_true.2 h.ok), if_pos h.cl.ids]
  have := h.cl.big
  split <;> first | rfl | omega
theorem Good.of {l : List CellV} (h : newE l = 0) (hok : ∀ c ∈ l, c.ok) (hl : l.length ≤ 20000) : Good l := by
  refine ⟨Cl.new h hok hl, ?_⟩
  unfold newE at h
  by_cases h1 : l.all cellOk = true
  · exact List.all_eq_true.1 h1
  · rw [if_neg h1] at h; omega
theorem markS_mem (sp : List (Int × Int)) (l : List CellV) (p : Nat) (c : CellV) (h : c ∈ markS sp p l) : ∃ d ∈ l, c = d ∨ c = goneC d := by
  obtain ⟨i, hi⟩ := List.getElem?_of_mem h
  unfold markS at hi
  rw [markP_get] at hi
  obtain ⟨d, hd, e⟩ := Option.map_eq_some_iff.1 hi
  refine ⟨d, List.mem_of_getElem? hd, ?_⟩
  split at e
  · exact .inr e.symm
  · exact .inl e.symm
theorem Good.doL {o : OpV} {sp : List (Int × Int)} {l : List CellV} (h : Good l) (hs : -9223372036854775808 ≤ o.site ∧ o.site ≤ 9223372036854775807) (hq : -9223372036854775808 ≤ o.seq ∧ o.seq ≤ 9223372036854775807) : Good (doL o sp l) := by
  refine ⟨h.cl.doL hs hq, ?_⟩
  by_cases he : doE o sp l = 0
  · obtain ⟨hm, ⟨_, hL⟩ | ⟨_, hins, _, hL⟩⟩ := doE_zero he
    · rw [hL]
      intro c hc
      obtain ⟨d, hd, e | e⟩ := markS_mem sp l 0 c hc
      · rw [e]; exact h.ok _ hd
      · rw [e]; exact h.ok d hd
    · rw [hL]
      obtain ⟨ns, h1, h2, h3, h4, h5, h6, h7, h8, h9⟩ := ins_runes hins
      obtain ⟨_, b2⟩ := runesD_bytes h1
      have hno : nameOk o.site o.seq = true := by
        unfold opMay at hm
        simp only [Bool.and_eq_true] at hm
        exact hm.1.1
      intro c hc
      rw [List.append_assoc] at hc
      rcases List.mem_append.1 hc with hc | hc
      · exact h.ok _ (List.mem_of_mem_take hc)
      · rcases List.mem_append.1 hc with hc | hc
        · rw [h2] at hc
          obtain ⟨i, hi, rfl⟩ := List.mem_mapIdx.1 hc
          unfold cellOk
          simp only [hno, Bool.true_and, Bool.and_eq_true, decide_eq_true_eq]
          exact ⟨⟨by omega, by omega⟩, b2 _ (List.mem_map.2 ⟨_, List.getElem_mem hi, rfl⟩)⟩
        · exact h.ok _ (List.mem_of_mem_drop hc)
  · rw [doL_same he]
    exact h.ok
theorem Good.dropL {sp : List (Int × Int)} {l : List CellV} (h : Good l) : Good (dropL sp l) := by
  refine ⟨h.cl.dropL, ?_⟩
  unfold Go.Proofs.YthicagfeaekmoaaGreatDoor.dropL
  split
  · exact fun c hc => h.ok c ((dropFrom_sub sp l 0).subset hc)
  · exact h.ok
/-- Cells that a function made. -/
theorem cells_owned {w : World} {B n : Nat} {va : Option Addr} {vc : Nat} {L : List CellV} (h : w.ownsRow B 47 5 (.slice va n vc) n (flat CellV.cs L)) (hok : ∀ c ∈ L, c.ok) :
    IsCells w va n vc L ∧ ∀ b off, va = some ⟨b, off, none⟩ → 0 < n → B ≤ b := by
  have h1 := h.1
  rw [flat_length (f := CellV.cs) (k := 5) (fun _ => rfl)] at h1
  have hn : L.length = n := by omega
  rcases ownsRow_blk h with ⟨hv, h0, _⟩ | ⟨g, cap, more, hv, hg, hb, hnc, hcm, _⟩
  · cases hv
    have hnil : L = [] := List.eq_nil_of_length_eq_zero (by omega)
    subst hnil
    exact ⟨⟨rfl, Nat.le_refl _, by unfold maxLen; omega, (fun x hx => by cases hx), (fun i x hx => by cases hx)⟩, (fun b off e => by cases e)⟩
  · cases hv
    exact ⟨blkCells hb hn hnc hcm hok, fun b off e _ => by cases e; exact hg⟩

end Go.Proofs.YthicagfeaekmoaaGreatDoor

namespace Go.Proofs.YthicagfeaekmoaaGreatDoor
open Go.RowKit Go.Mine
open Classical

structure DocP (w : World) (E : Nat → Prop) (wx : World) (D : Nat) (L : List CellV) : Prop where
  f : DocF w E wx D L
  g : Good L
theorem DocP.grown {w wx wy : World} {E : Nat → Prop} {D : Nat} {L : List CellV} (h : DocP w E wx D L) (m : Mod none_ wx wy) : DocP w E wy D L := ⟨h.f.grown m, h.g⟩
theorem DocP.box {w wx wy : World} {E : Nat → Prop} {D : Nat} {L : List CellV} (h : DocP w E wx D L) (m : Mod none_ wx wy) : DocP w (fun k => E k ∨ (wx.heap.size ≤ k ∧ k < wy.heap.size)) wy D L := ⟨h.f.box m, h.g⟩
theorem DocP.less {w wx : World} {E E' : Nat → Prop} {D : Nat} {L : List CellV} (h : DocP w E wx D L) (hE : ∀ k, E' k → E k) : DocP w E' wx D L := ⟨h.f.less hE, h.g⟩
/-- A world on: the cells are L'; nothing that is kept has changed. -/
structure DocQ (w : World) (E : Nat → Prop) (wx : World) (D : Nat) (L' : List CellV) (w' : World) : Prop where
  p : DocP w E w' D L'
  mo : Mod (fun k => ¬ E k) wx w'
theorem DocQ.pre {w wx wy w' : World} {E E' : Nat → Prop} {D : Nat} {L' : List CellV} (m : Mod none_ wx wy) (d : DocQ w E' wy D L' w') (hE : ∀ k, E k → E' k) : DocQ w E wx D L' w' :=
  ⟨d.p.less hE, (m.mono (fun _ _ e => e.elim)).trans (d.mo.mono (fun k _ h e => h (hE k e)))⟩
theorem DocQ.bs {w wx w' : World} {E : Nat → Prop} {D : Nat} {L' : List CellV} (d : DocQ w E wx D L' w') {b : Nat} {cs : List Value} {t : TypeId} (hb : E b) (k : Blk wx b cs t) : Blk w' b cs t := k.mod d.mo (fun h => h hb)
theorem DocP.do_ {w wx : World} {E : Nat → Prop} {D : Nat} {L : List CellV} (h : DocP w E wx D L) (o : OpV) (sp : List (Int × Int)) (ho : o.ok wx sp) (hsz : o.text.size ≤ 1099511627776) (hfar : ∀ b off, o.sa = some ⟨b, off, none⟩ → 0 < o.slen → b < w.heap.size ∨ E b) :
    Calls Tryz.prog 79 #[.pointer (some ⟨D, 0, none⟩), o.v] wx fun e w' => e = .returned (.int .i64 (doE o sp L)) ∧ DocQ w E wx D (doL o sp L) w' := by
  obtain ⟨S, hd, hS⟩ := h.f.doc
  refine (do_any wx S D L o sp hd h.f.cl.big h.f.cl.ok ho hsz (fun b off e hn hb => ?_)).mono ?_
  · have h1 := hS b hb
    rcases hfar b off e hn with h2 | h2
    · omega
    · exact h1.2 h2
  rintro e w' ⟨rfl, m, hd'⟩
  have hg := h.g.doL (sp := sp) ho.i1 ho.i2
  refine ⟨rfl, ⟨⟨h.f.m.transIn m (fun b hb hs => absurd (hS b hs).1 (by omega)), ⟨_, hd', ?_⟩, fun k hk => Nat.lt_of_lt_of_le (h.f.ex k hk) m.size, hg.cl⟩, hg⟩, m.mono (fun k _ hk => (hS k hk).2)⟩
  rintro k (hk | ⟨hk, _⟩)
  · exact hS k hk
  · have h1 := h.f.m.size
    exact ⟨by omega, fun e => by have := h.f.ex k e; omega⟩
theorem DocP.drop_ {w wx : World} {E : Nat → Prop} {D : Nat} {L : List CellV} (h : DocP w E wx D L) (sa : Option Addr) (n c : Nat) (sp : List (Int × Int)) (hs : IsSpans wx sa n c sp) (hfar : ∀ b off, sa = some ⟨b, off, none⟩ → 0 < n → b < w.heap.size ∨ E b) :
    Calls Tryz.prog 89 #[.pointer (some ⟨D, 0, none⟩), .slice sa n c] wx fun e w' => e = .returned (.int .i64 (dropE sp L)) ∧ DocQ w E wx D (dropL sp L) w' := by
  obtain ⟨S, hd, hS⟩ := h.f.doc
  refine (drop_any wx S D L sa n c sp hd h.f.cl.big h.f.cl.ok hs (fun b off e hn hb => ?_)).mono ?_
  · have h1 := hS b hb
    rcases hfar b off e hn with h2 | h2
    · omega
    · exact h1.2 h2
  rintro e w' ⟨rfl, m, hd'⟩
  have hg := h.g.dropL (sp := sp)
  refine ⟨rfl, ⟨⟨h.f.m.transIn m (fun b hb hs => absurd (hS b hs).1 (by omega)), ⟨_, hd', ?_⟩, fun k hk => Nat.lt_of_lt_of_le (h.f.ex k hk) m.size, hg.cl⟩, hg⟩, m.mono (fun k _ hk => (hS k hk).2)⟩
  rintro k (hk | ⟨hk, _⟩)
  · exact hS k hk
  · have h1 := h.f.m.size
    exact ⟨by omega, fun e => by have := h.f.ex k e; omega⟩
theorem DocP.doc {w wx : World} {E : Nat → Prop} {D : Nat} {L : List CellV} (h : DocP w E wx D L) : ∃ S, DocS wx S D L := by
  obtain ⟨S, h1, _⟩ := h.f.doc
  exact ⟨S, h1⟩
/-- Spans in new memory are kept by the box. -/
theorem box_far {wx wy : World} {E : Nat → Prop} {va : Option Addr} {n vc : Nat} {sp : List (Int × Int)} (hs : IsSpans wy va n vc sp) (hB : ∀ b off, va = some ⟨b, off, none⟩ → 0 < n → wx.heap.size ≤ b) {k : Nat} : ∀ b off, va = some ⟨b, off, none⟩ → 0 < n → b < k ∨ (E b ∨ (wx.heap.size ≤ b ∧ b < wy.heap.size)) := by
  intro b off e hn
  refine .inr (.inr ⟨hB b off e hn, ?_⟩)
  have hl : 0 < sp.length := by rw [hs.n]; exact hn
  obtain ⟨b', off', e', hc, _⟩ := hs.cells 0 sp[0] (List.getElem?_eq_getElem hl)
  rw [e] at e'
  cases e'
  exact block_lt_of_cell hc
/-- Gone, of such a document. -/
theorem DocP.gone {w wx : World} {E : Nat → Prop} {D : Nat} {L : List CellV} (h : DocP w E wx D L) : Calls Tryz.prog 50 #[.pointer (some ⟨D, 0, none⟩)] wx fun e w' => (∃ va n vc, e = .returned (.slice va n vc) ∧ IsSpans w' va n vc (goneL L) ∧ ∀ b off, va = some ⟨b, off, none⟩ → 0 < n → wx.heap.size ≤ b) ∧ Mod none_ wx w' := by
  obtain ⟨S, h1⟩ := h.doc
  have hb := h.f.cl.big
  refine (gone_any wx S D L h1 (by omega)).mono ?_
  rintro e w' ⟨⟨va, n, vc, rfl, ho⟩, m⟩
  have hgl : (goneL L).length ≤ 20000 := by
    have := plsOf_len (fun i => (L[i]?.map CellV.gone).getD false) L.length
    unfold goneL
    omega
  exact ⟨⟨va, n, vc, rfl, spans_owned ho (goneL_ok hb) hgl⟩, m⟩
/-- What an act answers, and what it leaves. -/
noncomputable def actE (x : ActV) (L : List CellV) : Int := if x.k % 5 = 3 then dropE x.sp L else if x.k % 5 = 4 then dropE (goneL L) L else doE x.o x.sp L
noncomputable def actL (x : ActV) (L : List CellV) : List CellV := if x.k % 5 = 3 then dropL x.sp L else if x.k % 5 = 4 then dropL (goneL L) L else doL x.o x.sp L
abbrev ActV.v (x : ActV) : Value := .agg #[.int .u8 x.k, .int .i64 x.o.site, .int .i64 x.o.seq, .int .i64 x.o.num, .int .i64 x.o.kind, .int .i64 x.o.at_, .string x.o.text, .slice x.o.sa x.o.slen x.o.scap]
abbrev ActV.cs (x : ActV) : List Value := [.int .u8 x.k, .int .i64 x.o.site, .int .i64 x.o.seq, .int .i64 x.o.num, .int .i64 x.o.kind, .int .i64 x.o.at_, .string x.o.text, .slice x.o.sa x.o.slen x.o.scap]

set_option maxHeartbeats 4000000 in
set_option maxRecDepth 1000000 in
theorem DocP.act {w wx : World} {E : Nat → Prop} {D : Nat} {L : List CellV} (h : DocP w E wx D L) (x : ActV) (hx : x.o.ok w x.sp) (hsz : x.o.text.size ≤ 1099511627776) (hk : 0 ≤ x.k ∧ x.k ≤ 255) :
    Calls Tryz.prog 42 #[.pointer (some ⟨D, 0, none⟩), x.v] wx fun e w' => e = .returned (.int .i64 (actE x L)) ∧ DocQ w E wx D (actL x L) w' := by
  obtain ⟨W0, hW0⟩ : ∃ W0, wx.alloc (.cells x.cs.toArray 84) = W0 := ⟨_, rfl⟩
  obtain ⟨X, hX⟩ : ∃ X, X = wx.heap.size := ⟨_, rfl⟩
  have m0 : Mod none_ wx W0 := by rw [← hW0]; exact (Mod.refl none_ wx).alloc _
  have k0 : Blk W0 X x.cs 84 := by rw [← hW0, hX]; exact Blk.new (w := wx) (cs := x.cs)
  have hB := h.box m0
  have HX := Lib.hid (show E X ∨ (wx.heap.size ≤ X ∧ X < W0.heap.size) from .inr ⟨by omega, k0.lt⟩)
  have d0 := k0.cell 0
  have d1 := k0.cell 1
  have d2 := k0.cell 2
  have d3 := k0.cell 3
  have d4 := k0.cell 4
  have d5 := k0.cell 5
  have d6 := k0.cell 6
  have d7 := k0.cell 7
  simp only [ActV.cs, List.getElem?_cons_zero, List.getElem?_cons_succ] at d0 d1 d2 d3 d4 d5 d6 d7
  obtain ⟨o, ho⟩ : ∃ o, o = x.o := ⟨_, rfl⟩
  obtain ⟨sp, hsp⟩ : ∃ sp, sp = x.sp := ⟨_, rfl⟩
  obtain ⟨r, hr⟩ : ∃ r, r = x.k % 5 := ⟨_, rfl⟩
  have OK := Lib.hid (show o.ok w sp by rw [ho, hsp]; exact hx)
  have HSZ := Lib.hid (show o.text.size ≤ 1099511627776 by rw [ho]; exact hsz)
  have HR := Lib.hid hr
  have HO := Lib.hid ho
  have HSP := Lib.hid hsp
  have HB := Lib.hid hB
  have M0 := Lib.hid m0
  rw [← ho] at d1 d2 d3 d4 d5 d6 d7
  clear h hx hsz m0 k0 hB hr hsp ho
  go_enter Tryz.func42, Tryz.ntmps42
  go_upto_region 1 with fail
  rw [← hX]
  clear hX hW0
  go_upto_region 2 with fail
  rw [← HR.out]
  by_cases h3 : r = 3
  · have hb3 : (r == 3) = true := by simpa using h3
    have HE := Lib.hid (show actE x L = dropE sp L by unfold actE; rw [if_pos (by rw [← HR.out]; exact h3), HSP.out])
    have HL := Lib.hid (show actL x L = dropL sp L by unfold actL; rw [if_pos (by rw [← HR.out]; exact h3), HSP.out])
    have HDR := Lib.hid (HB.out.drop_ o.sa o.slen o.scap sp ((OK.out.sp.grown HB.out.f.m)) (fun b off e hn => by
      have hl : 0 < sp.length := by rw [OK.out.sp.n]; exact hn
      obtain ⟨b', off', e', hc, _⟩ := OK.out.sp.cells 0 sp[0] (List.getElem?_eq_getElem hl)
      rw [e] at e'
      cases e'
      exact .inl (block_lt_of_cell hc)))
    clear h3
    go_wp2_with fail
    refine HDR.out.mono ?_
    rintro e w1 ⟨rfl, hQ⟩
    have HQ := Lib.hid (hQ.pre (E := E) M0.out (fun k hk => .inl hk))
    clear hQ
    go_wp2_with fail
    go_ret
    exact ⟨by rw [HE.out]; rfl, by rw [HL.out]; exact HQ.out⟩
  have hb3 : (r == 3) = false := by simpa using h3
  by_cases h4 : r = 4
  · have hb4 : (r == 4) = true := by simpa using h4
    have HE := Lib.hid (show actE x L = dropE (goneL L) L by unfold actE; rw [if_neg (by rw [← HR.out]; exact h3), if_pos (by rw [← HR.out]; exact h4)])
    have HL := Lib.hid (show actL x L = dropL (goneL L) L by unfold actL; rw [if_neg (by rw [← HR.out]; exact h3), if_pos (by rw [← HR.out]; exact h4)])
    have HG := Lib.hid HB.out.gone
    clear h3 h4
    go_wp2_with fail
    refine HG.out.mono ?_
    rintro e w1 ⟨⟨va, n, vc, rfl, hs, hsb⟩, m1⟩
    have HDR := Lib.hid ((HB.out.box m1).drop_ va n vc (goneL L) hs (box_far hs hsb))
    have M1 := Lib.hid (M0.out.trans m1)
    clear hs hsb m1 HG
    go_wp2_with fail
    refine HDR.out.mono ?_
    rintro e w2 ⟨rfl, hQ⟩
    have HQ := Lib.hid (hQ.pre (E := E) M1.out (fun k hk => .inl (.inl hk)))
    clear hQ
    go_wp2_with fail
    go_ret
    exact ⟨by rw [HE.out]; rfl, by rw [HL.out]; exact HQ.out⟩
  have hb4 : (r == 4) = false := by simpa using h4
  have HE := Lib.hid (show actE x L = doE o sp L by unfold actE; rw [if_neg (by rw [← HR.out]; exact h3), if_neg (by rw [← HR.out]; exact h4), HO.out, HSP.out])
  have HL := Lib.hid (show actL x L = doL o sp L by unfold actL; rw [if_neg (by rw [← HR.out]; exact h3), if_neg (by rw [← HR.out]; exact h4), HO.out, HSP.out])
  have HDO := Lib.hid (HB.out.do_ o sp (OK.out.grown HB.out.f.m) HSZ.out (fun b off e hn => by
    have hl : 0 < sp.length := by rw [OK.out.sp.n]; exact hn
    obtain ⟨b', off', e', hc, _⟩ := OK.out.sp.cells 0 sp[0] (List.getElem?_eq_getElem hl)
    rw [e] at e'
    cases e'
    exact .inl (block_lt_of_cell hc)))
  clear h3 h4
  go_wp2_with fail
  refine HDO.out.mono ?_
  rintro e w1 ⟨rfl, hQ⟩
  have HQ := Lib.hid (hQ.pre (E := E) M0.out (fun k hk => .inl hk))
  clear hQ
  go_wp2_with fail
  go_ret
  exact ⟨by rw [HE.out]; rfl, by rw [HL.out]; exact HQ.out⟩
end Go.Proofs.YthicagfeaekmoaaGreatDoor

namespace Go.Mine
open Go.RowKit Go.ChangeShapes Go.WideShapes Go.Deep

section
variable {H : Type} {enc : TypeId × Value → H} {P : Program} {w : World} {base : Nat} {spare : Nat → Bool} {held : Bool}

/-- What is known of a slice of structs that came in: nil, or a row in which each field of each element reads by its type. -/
theorem slice_of_structs {t e : TypeId} {fs : Array Field} {fuel : Nat} {cs : List Value} {x : DataW H × List MemPlace} (ht : P.underlying t = some (.slice e)) (he : P.underlying e = some (.struct fs))
    (hone : oneCellFields P fs = true) (hC : P.cellsOf e = fs.size) (h : DataW.trod enc P w base spare held fuel t cs = some x) :
    cs = [.slice none 0 0] ∨
    ∃ (a : Addr) (len cap : Nat), cs = [.slice (some a) len cap] ∧ len ≤ cap ∧ cap ≤ maxLen ∧
      ∀ i, i < len → ∀ (j : Nat) (f : Field), fs[j]? = some f → ∃ (v : Value) (y : DataW H × List MemPlace) (n : Nat), w.cell? (a.add (i * fs.size + j)) = some v ∧ DataW.trod enc P w base spare held n f.type [v] = some y := by
  rcases open_slice ht h with ⟨h0, _⟩ | ⟨a, len, cap, m, n, D, Pl, hcs, _, hl, hm, hmm, _, hi⟩
  · exact .inl h0
  refine .inr ⟨a, len, cap, hcs, hl, hm, fun i hil j f hj => ?_⟩
  have him : i < m := by rw [hmm]; split <;> omega
  obtain ⟨cells, hc, hr⟩ := hi i him
  rw [hC] at hc
  obtain ⟨_, hlen, hat⟩ := World.cells?_some hc
  obtain ⟨ys, n', _, _, _, hyl, hf⟩ := DataW.trod_struct he hr
  obtain ⟨ho, hk⟩ := hone_of hone j f hj
  have hjs : j < fs.size := (Array.getElem?_eq_some_iff.1 hj).1
  have hfj := hf j f hj
  rw [ho, hk, List.drop_eq_getElem_cons (by omega)] at hfj
  have hy : ys[j]? = some ys[j] := List.getElem?_eq_getElem (by omega)
  refine ⟨cells[j], ys[j], n', ?_, hfj.trans hy⟩
  rw [← Go.Deep.add_add, hat j hjs]
  exact List.getElem?_eq_getElem _

theorem nat_of_u8 {n : Int} (h : (Lit.int .u8 n).wf = true) : 0 ≤ n ∧ n ≤ 255 := by
  have := bounds_u8 h; omega
end
end Go.Mine

namespace Go.Proofs.YthicagfeaekmoaaGreatDoor
open Go.ChangeShapes Go.WideShapes Go.ChangeAt Go.RowKit Go.Mine Go.Deep

set_option maxRecDepth 100000
section
variable {H : Type} {enc : TypeId × Value → H} {w : World} {base : Nat} {sp : Nat → Bool} {held : Bool}

theorem szOp : Tryz.prog.cellsOf 31 = 7 := by kernel_rfl
theorem szKind : Tryz.prog.cellsOf 5 = 1 := by kernel_rfl
theorem szCell : Tryz.prog.cellsOf 47 = 5 := by kernel_rfl
theorem szName : Tryz.prog.cellsOf 28 = 2 := by kernel_rfl
theorem szInt : Tryz.prog.cellsOf 3 = 1 := by kernel_rfl
theorem szRune : Tryz.prog.cellsOf 21 = 1 := by kernel_rfl
theorem szBool : Tryz.prog.cellsOf 4 = 1 := by kernel_rfl
theorem szString : Tryz.prog.cellsOf 9 = 1 := by kernel_rfl
theorem szSpans : Tryz.prog.cellsOf 29 = 1 := by kernel_rfl

theorem name_of {n : Nat} {a b : Value} {y : DataW H × List MemPlace} (h : DataW.trod enc Tryz.prog w base sp held n 28 [a, b] = some y) :
    ∃ s q : Int, a = .int .i64 s ∧ b = .int .i64 q ∧ (-9223372036854775808 ≤ s ∧ s ≤ 9223372036854775807) ∧ (-9223372036854775808 ≤ q ∧ q ≤ 9223372036854775807) := by
  obtain ⟨ys, m, _, _, _, hyl, hf⟩ := DataW.trod_struct Tryz.underlying28 h
  obtain ⟨y0, y1, rfl⟩ : ∃ y0 y1, ys = [y0, y1] := by
    match ys, (show ys.length = 2 from hyl) with
    | [y0, y1], _ => exact ⟨y0, y1, rfl⟩
  have h0 := hf 0 _ rfl
  have h1 := hf 1 _ rfl
  simp only [List.getElem_toArray, List.getElem_cons_zero, List.getElem_cons_succ, szInt, List.drop_zero, List.drop_succ_cons, List.take_succ_cons, List.take_zero, List.getElem?_cons_zero, List.getElem?_cons_succ] at h0 h1
  obtain ⟨s, e0, _, w0⟩ := DataW.trod_int Tryz.underlying3 h0
  obtain ⟨q, e1, _, w1⟩ := DataW.trod_int Tryz.underlying3 h1
  simp only [List.cons.injEq, and_true] at e0 e1
  exact ⟨s, q, e0, e1, bounds_i64 w0, bounds_i64 w1⟩

theorem cell_of {n : Nat} {cells : List Value} {y : DataW H × List MemPlace} (h : DataW.trod enc Tryz.prog w base sp held n 47 cells = some y) :
    ∃ c : CellV, cells = c.cs ∧ c.ok := by
  obtain ⟨ys, m, _, _, hl, hyl, hf⟩ := DataW.trod_struct Tryz.underlying47 h
  rw [szCell] at hl
  obtain ⟨a, b, c, d, e, rfl⟩ : ∃ a b c d e, cells = [a, b, c, d, e] := by
    match cells, hl with
    | [a, b, c, d, e], _ => exact ⟨a, b, c, d, e, rfl⟩
  obtain ⟨y0, y1, y2, y3, rfl⟩ : ∃ y0 y1 y2 y3, ys = [y0, y1, y2, y3] := by
    match ys, (show ys.length = 4 from hyl) with
    | [y0, y1, y2, y3], _ => exact ⟨y0, y1, y2, y3, rfl⟩
  have h0 := hf 0 _ rfl
  have h1 := hf 1 _ rfl
  have h2 := hf 2 _ rfl
  have h3 := hf 3 _ rfl
  simp only [List.getElem_toArray, List.getElem_cons_zero, List.getElem_cons_succ, szName, szInt, szRune, szBool, List.drop_zero, List.drop_succ_cons, List.take_succ_cons, List.take_zero, List.getElem?_cons_zero, List.getElem?_cons_succ] at h0 h1 h2 h3
  obtain ⟨s, q, rfl, rfl, hs, hq⟩ := name_of h0
  obtain ⟨f, e1, _, w1⟩ := DataW.trod_int Tryz.underlying3 h1
  obtain ⟨r, e2, _, w2⟩ := DataW.trod_int Tryz.underlying21 h2
  obtain ⟨g, e3, _⟩ := DataW.trod_bool Tryz.underlying4 h3
  simp only [List.cons.injEq, and_true] at e1 e2 e3
  subst e1 e2 e3
  exact ⟨⟨s, q, f, r, g⟩, rfl, hs, hq, bounds_i64 w1, bounds_i32 w2⟩

/-- A slice of structs of k cells: what each element's cells read as. -/
theorem slice_elems {t e : TypeId} {k fuel : Nat} {cs : List Value} {x : DataW H × List MemPlace} (ht : Tryz.prog.underlying t = some (.slice e)) (hk : Tryz.prog.cellsOf e = k) (h0k : 0 < k) (h : DataW.trod enc Tryz.prog w base sp held fuel t cs = some x) :
    ∃ (a : Option Addr) (len cap : Nat), cs = [.slice a len cap] ∧ len ≤ cap ∧ cap ≤ maxLen ∧
      ∀ i, i < len → ∃ (b off : Nat) (cells : List Value) (y : DataW H × List MemPlace) (n : Nat), a = some ⟨b, off, none⟩ ∧ cells.length = k ∧ w.rangeAt b (off + i * k) cells ∧ DataW.trod enc Tryz.prog w base sp held n e cells = some y := by
  rcases DataW.trod_slice ht h with ⟨h0, _⟩ | ⟨a, len, cap, elems, rest, n, _, hcs, _, _, hl, hm, hlen, hel, _, _⟩
  · exact ⟨none, 0, 0, h0, Nat.le_refl _, Nat.zero_le _, fun i hi => absurd hi (Nat.not_lt_zero _)⟩
  · rw [hk] at hel
    refine ⟨some a, len, cap, hcs, hl, hm, fun i hi => ?_⟩
    obtain ⟨b, off, spot⟩ := a
    have hspot : spot = none := by
      have h1 := hel 0 (by omega)
      rw [List.getElem?_eq_getElem (by omega)] at h1
      obtain ⟨cells, hc, hr⟩ := Option.bind_eq_some_iff.1 h1
      obtain ⟨_, hlen, hat⟩ := World.cells?_some hc
      have := hat 0 h0k
      rw [List.getElem?_eq_getElem (by omega)] at this
      have := World.cell?_spot this
      simpa [Addr.add] using this
    subst hspot
    have h1 := hel i hi
    rw [List.getElem?_eq_getElem (by omega)] at h1
    obtain ⟨cells, hc, hr⟩ := Option.bind_eq_some_iff.1 h1
    obtain ⟨_, hlen, hat⟩ := World.cells?_some hc
    refine ⟨b, off, cells, _, n, rfl, hlen, fun j v hv => ?_, hr⟩
    have hj : j < k := by have := (List.getElem?_eq_some_iff.1 hv).1; omega
    have := hat j hj
    rw [hv] at this
    simpa only [Addr.add_lit] using this

theorem read_cells {fuel : Nat} {a : Option Addr} {len cap : Nat} {x : DataW H × List MemPlace} (h : DataW.trod enc Tryz.prog w base sp held fuel 22 [.slice a len cap] = some x) : ∃ l, IsCells w a len cap l := by
  obtain ⟨a', len', cap', hcs, hl, hm, hf⟩ := slice_elems Tryz.underlying22 szCell (by decide) h
  simp only [List.cons.injEq, Value.slice.injEq, and_true] at hcs
  obtain ⟨rfl, rfl, rfl⟩ := hcs
  have key : ∀ i, i < len → ∃ c : CellV, c.ok ∧ ∃ b off, a = some ⟨b, off, none⟩ ∧ w.rangeAt b (off + i * 5) c.cs := by
    intro i hi
    obtain ⟨b, off, cells, y, n, e, _, hr, ht⟩ := hf i hi
    obtain ⟨c, rfl, hc⟩ := cell_of ht
    exact ⟨c, hc, b, off, e, hr⟩
  obtain ⟨f, hfk⟩ := Classical.axiomOfChoice (fun i : Fin len => key i.1 i.2)
  refine ⟨List.ofFn f, by simp, hl, hm, ?_, ?_⟩
  · intro y hy
    obtain ⟨i, rfl⟩ := List.mem_ofFn.1 hy
    exact (hfk i).1
  · intro i y hy
    have hi : i < len := by have := (List.getElem?_eq_some_iff.1 hy).1; simpa using this
    have : y = f ⟨i, hi⟩ := by
      rw [List.getElem?_eq_getElem (by simpa using hi)] at hy
      simp at hy; exact hy.symm
    subst this
    exact (hfk ⟨i, hi⟩).2

theorem szSpan : Tryz.prog.cellsOf 49 = 2 := by kernel_rfl
theorem read_spans {fuel : Nat} {a : Option Addr} {len cap : Nat} {x : DataW H × List MemPlace} (h : DataW.trod enc Tryz.prog w base sp held fuel 29 [.slice a len cap] = some x) : ∃ l, IsSpans w a len cap l := by
  obtain ⟨a', len', cap', hcs, hl, hm, hf⟩ := slice_elems Tryz.underlying29 szSpan (by decide) h
  simp only [List.cons.injEq, Value.slice.injEq, and_true] at hcs
  obtain ⟨rfl, rfl, rfl⟩ := hcs
  have key : ∀ i, i < len → ∃ y : Int × Int, ((-9223372036854775808 ≤ y.1 ∧ y.1 ≤ 9223372036854775807) ∧ (-9223372036854775808 ≤ y.2 ∧ y.2 ≤ 9223372036854775807)) ∧ ∃ b off, a = some ⟨b, off, none⟩ ∧ w.cell? ⟨b, off + i * 2, none⟩ = some (.int .i64 y.1) ∧ w.cell? ⟨b, off + i * 2 + 1, none⟩ = some (.int .i64 y.2) := by
    intro i hi
    obtain ⟨b, off, cells, y, n, e, hlen, hr, ht⟩ := hf i hi
    obtain ⟨u, v, rfl⟩ : ∃ u v, cells = [u, v] := by
      match cells, hlen with
      | [u, v], _ => exact ⟨u, v, rfl⟩
    obtain ⟨ys, m, _, _, _, hyl, hg⟩ := DataW.trod_struct Tryz.underlying49 ht
    obtain ⟨y0, y1, rfl⟩ : ∃ y0 y1, ys = [y0, y1] := by
      match ys, (show ys.length = 2 from hyl) with
      | [y0, y1], _ => exact ⟨y0, y1, rfl⟩
    have h0 := hg 0 _ rfl
    have h1 := hg 1 _ rfl
    simp only [List.getElem_toArray, List.getElem_cons_zero, List.getElem_cons_succ, szInt, List.drop_zero, List.drop_succ_cons, List.take_succ_cons, List.take_zero, List.getElem?_cons_zero, List.getElem?_cons_succ] at h0 h1
    obtain ⟨s, e0, _, w0⟩ := DataW.trod_int Tryz.underlying3 h0
    obtain ⟨q, e1, _, w1⟩ := DataW.trod_int Tryz.underlying3 h1
    simp only [List.cons.injEq, and_true] at e0 e1
    subst e0 e1
    exact ⟨(s, q), ⟨bounds_i64 w0, bounds_i64 w1⟩, b, off, e, hr 0 _ rfl, hr 1 _ rfl⟩
  obtain ⟨f, hfk⟩ := Classical.axiomOfChoice (fun i : Fin len => key i.1 i.2)
  refine ⟨List.ofFn f, by simp, hl, hm, ?_, ?_⟩
  · intro y hy
    obtain ⟨i, rfl⟩ := List.mem_ofFn.1 hy
    exact (hfk i).1
  · intro i y hy
    have hi : i < len := by have := (List.getElem?_eq_some_iff.1 hy).1; simpa using this
    have : y = f ⟨i, hi⟩ := by
      rw [List.getElem?_eq_getElem (by simpa using hi)] at hy
      simp at hy; exact hy.symm
    subst this
    exact (hfk ⟨i, hi⟩).2

theorem szAct : Tryz.prog.cellsOf 84 = 8 := by kernel_rfl
theorem op_of {n : Nat} {cells : List Value} {y : DataW H × List MemPlace} (htab : tabsOk w) (h : DataW.trod enc Tryz.prog w base sp held n 31 cells = some y) :
    ∃ (o : OpV) (l : List (Int × Int)), cells = o.cs ∧ o.ok0 w l := by
  obtain ⟨ys, m, _, _, hl, hyl, hf⟩ := DataW.trod_struct Tryz.underlying31 h
  rw [szOp] at hl
  obtain ⟨c0, c1, c2, c3, c4, c5, c6, rfl⟩ : ∃ c0 c1 c2 c3 c4 c5 c6, cells = [c0, c1, c2, c3, c4, c5, c6] := by
    match cells, hl with
    | [c0, c1, c2, c3, c4, c5, c6], _ => exact ⟨c0, c1, c2, c3, c4, c5, c6, rfl⟩
  obtain ⟨y0, y1, y2, y3, y4, y5, rfl⟩ : ∃ y0 y1 y2 y3 y4 y5, ys = [y0, y1, y2, y3, y4, y5] := by
    match ys, (show ys.length = 6 from hyl) with
    | [y0, y1, y2, y3, y4, y5], _ => exact ⟨y0, y1, y2, y3, y4, y5, rfl⟩
  have h0 := hf 0 _ rfl
  have h1 := hf 1 _ rfl
  have h2 := hf 2 _ rfl
  have h3 := hf 3 _ rfl
  have h4 := hf 4 _ rfl
  have h5 := hf 5 _ rfl
  simp only [List.getElem_toArray, List.getElem_cons_zero, List.getElem_cons_succ, szName, szInt, szString, szSpans, List.drop_zero, List.drop_succ_cons, List.take_succ_cons, List.take_zero, List.getElem?_cons_zero, List.getElem?_cons_succ] at h0 h1 h2 h3 h4 h5
  obtain ⟨s, q, rfl, rfl, hs, hq⟩ := name_of h0
  obtain ⟨num, e1, _, w1⟩ := DataW.trod_int Tryz.underlying3 h1
  obtain ⟨kd, e2, _, w2⟩ := DataW.trod_int Tryz.underlying3 h2
  obtain ⟨at_, e3, _, w3⟩ := DataW.trod_int Tryz.underlying3 h3
  obtain ⟨tx, e4, _, w4⟩ := DataW.trod_string Tryz.underlying9 h4
  obtain ⟨a, len, cap, e5, _⟩ := slice_elems Tryz.underlying29 szSpan (by decide) h5
  simp only [List.cons.injEq, and_true] at e1 e2 e3 e4 e5
  subst e1 e2 e3 e4 e5
  obtain ⟨l, hsp⟩ := read_spans h5
  exact ⟨⟨s, q, num, kd, at_, tx, a, len, cap⟩, l, rfl, w4, hsp, fun hsz => { i1 := hs, i2 := hq, i3 := bounds_i64 w1, i4 := bounds_i64 w2, i5 := bounds_i64 w3, tx := .inl htab, sz := hsz, sp := hsp }⟩

theorem read_acts {fuel : Nat} {a : Option Addr} {len cap : Nat} {x : DataW H × List MemPlace} (htab : tabsOk w) (h : DataW.trod enc Tryz.prog w base sp held fuel 77 [.slice a len cap] = some x) : ∃ l, IsActs w a len cap l := by
  obtain ⟨a', len', cap', hcs, hl, hm, hf⟩ := slice_elems Tryz.underlying77 szAct (by decide) h
  simp only [List.cons.injEq, Value.slice.injEq, and_true] at hcs
  obtain ⟨rfl, rfl, rfl⟩ := hcs
  have key : ∀ i, i < len → ∃ c : ActV, (c.o.ok0 w c.sp ∧ 0 ≤ c.k ∧ c.k ≤ 255) ∧ ∃ b off, a = some ⟨b, off, none⟩ ∧ w.cell? ⟨b, off + i * 8, none⟩ = some (.int .u8 c.k) ∧ w.rangeAt b (off + i * 8 + 1) c.o.cs := by
    intro i hi
    obtain ⟨b, off, cells, y, n, e, hlen, hr, ht⟩ := hf i hi
    obtain ⟨u, r, rfl⟩ : ∃ u r, cells = u :: r := by
      match cells, hlen with
      | u :: r, _ => exact ⟨u, r, rfl⟩
    obtain ⟨ys, m, _, _, _, hyl, hg⟩ := DataW.trod_struct Tryz.underlying84 ht
    obtain ⟨y0, y1, rfl⟩ : ∃ y0 y1, ys = [y0, y1] := by
      match ys, (show ys.length = 2 from hyl) with
      | [y0, y1], _ => exact ⟨y0, y1, rfl⟩
    have h0 := hg 0 _ rfl
    have h1 := hg 1 _ rfl
    have hrl : r.length = 7 := by simpa using hlen
    simp only [List.getElem_toArray, List.getElem_cons_zero, List.getElem_cons_succ, szKind, szOp, List.drop_zero, List.drop_succ_cons, List.take_succ_cons, List.take_zero, List.getElem?_cons_zero, List.getElem?_cons_succ] at h0 h1
    rw [List.take_of_length_le (by omega)] at h1
    obtain ⟨kk, e0, _, w0⟩ := DataW.trod_int Tryz.underlying5 h0
    simp only [List.cons.injEq, and_true] at e0
    subst e0
    obtain ⟨o, l, rfl, ho⟩ := op_of htab h1
    refine ⟨⟨kk, o, l⟩, ⟨ho, nat_of_u8 w0⟩, b, off, e, hr 0 _ rfl, fun j v hv => ?_⟩
    have := hr (j + 1) v (by simpa using hv)
    rwa [← Nat.add_assoc, Nat.add_right_comm] at this
  obtain ⟨f, hfk⟩ := Classical.axiomOfChoice (fun i : Fin len => key i.1 i.2)
  refine ⟨List.ofFn f, by simp, hl, hm, ?_, ?_⟩
  · intro y hy
    obtain ⟨i, rfl⟩ := List.mem_ofFn.1 hy
    exact (hfk i).1
  · intro i y hy
    have hi : i < len := by have := (List.getElem?_eq_some_iff.1 hy).1; simpa using this
    have : y = f ⟨i, hi⟩ := by
      rw [List.getElem?_eq_getElem (by simpa using hi)] at hy
      simp at hy; exact hy.symm
    subst this
    exact (hfk ⟨i, hi⟩).2
end
end Go.Proofs.YthicagfeaekmoaaGreatDoor

namespace Go.Proofs.YthicagfeaekmoaaGreatDoor
open Go.RowKit Go.Mine Go.Deep
open Classical

theorem conv_sr (w : World) (rs : List Int) (hv : vR rs) (hl : rs.length ≤ 70368744177664) : (convert 9 145 (.string ⟨(bytesOf rs).toArray⟩)).run Tryz.prog w =
    .ok (.slice (some ⟨w.heap.size, 0, none⟩) rs.length (grownCap w rs.length 0 21)) (w.drew.alloc (.cells ((r32s rs).toArray ++ Array.replicate (grownCap w rs.length 0 21 - rs.length) (.int .i32 0)) 21)) := by
  have h1 := runes_str hv
  have h2 : (r32s rs).toArray.size = rs.length := by simp [r32s]
  have := run_runes_of_string (P := Tryz.prog) w 9 145 21 ⟨(bytesOf rs).toArray⟩ Tryz.underlying9 Tryz.underlying145 Tryz.underlying21 (by rw [h1, h2]; exact hl)
  rw [h1, h2] at this
  exact this
theorem conv_sr2 (w : World) (rs : List Int) (hv : vR rs) (hl : rs.length ≤ 70368744177664) : ∃ cap, rs.length ≤ cap ∧ (convert 9 145 (.string ⟨(bytesOf rs).toArray⟩)).run Tryz.prog w =
    .ok (.slice (some ⟨w.heap.size, 0, none⟩) rs.length cap) (w.drew.alloc (.cells (r32s rs ++ List.replicate (cap - rs.length) (Value.int .i32 0)).toArray 21)) := by
  refine ⟨grownCap w rs.length 0 21, grownCap_ge w rs.length 0 21, ?_⟩
  have e : ∀ n : Nat, (r32s rs).toArray ++ Array.replicate n (Value.int .i32 0) = (r32s rs ++ List.replicate n (Value.int .i32 0)).toArray := fun n => by apply Array.ext'; simp
  rw [conv_sr w rs hv hl, e]
theorem conv_rs (w : World) (b off len cap : Nat) (rs : List Int) (hn : rs.length = len) (hc : ∀ (j : Nat) (x : Int), rs[j]? = some x → w.cell? ⟨b, off + j, none⟩ = some (.int .i32 x)) (hv : vR rs) :
    (convert 145 9 (.slice (some ⟨b, off, none⟩) len cap)).run Tryz.prog w = .ok (.string ⟨(bytesOf rs).toArray⟩) w := by
  rw [run_convert_runes w _ _ 21 ⟨b, off, none⟩ len cap rs (by omega) Tryz.underlying145 Tryz.underlying21 Tryz.underlying9 (fun j hj => ?_), ← hn, List.take_length, str_runes hv]
  rw [Addr.add_lit, hc j rs[j] (List.getElem?_eq_getElem hj)]
  simp [List.getD, hj]

/-- Strings in memory. -/
structure IsStrs (w : World) (a : Option Addr) (len cap : Nat) (l : List ByteArray) : Prop where
  n : l.length = len
  le : len ≤ cap
  big : cap ≤ maxLen
  ok : ∀ s ∈ l, s.size ≤ maxLen
  cells : ∀ (i : Nat) (s : ByteArray), l[i]? = some s → ∃ b off, a = some ⟨b, off, none⟩ ∧ w.cell? ⟨b, off + i, none⟩ = some (.string s)
theorem IsStrs.grown {w w' : World} {a : Option Addr} {len cap : Nat} {l : List ByteArray} (h : IsStrs w a len cap l) (m : Mod none_ w w') : IsStrs w' a len cap l :=
  ⟨h.n, h.le, h.big, h.ok, fun i x hx => by
    obtain ⟨b, off, e, c0⟩ := h.cells i x hx
    exact ⟨b, off, e, m.cell (fun e => e) c0⟩⟩
section
variable {H : Type} {enc : TypeId × Value → H} {w : World} {base : Nat} {sp : Nat → Bool} {held : Bool}
end

/-- What is typed. -/
def tyOp (k : Nat) (p : Int) (t : ByteArray) : OpV := ⟨3, 549755813888 + (k : Int), 0, 1, p, t, none, 0, 0⟩
theorem tyOp_ok {w : World} (k : Nat) (p : Int) (t : ByteArray) (hk : k ≤ 8) (hp : 0 ≤ p ∧ p ≤ 20000) (ht : txtOk w t) (hs : t.size ≤ 900) : (tyOp k p t).ok w [] :=
  { i1 := by unfold tyOp; dsimp only; omega, i2 := by unfold tyOp; dsimp only; omega, i3 := by unfold tyOp; dsimp only; omega, i4 := by unfold tyOp; dsimp only; omega, i5 := by unfold tyOp; dsimp only; omega, tx := ht, sz := Nat.lt_of_le_of_lt hs (by decide),
    sp := ⟨rfl, Nat.le_refl _, Nat.zero_le _, (fun x hx => by cases hx), (fun i x hx => by cases hx)⟩ }

theorem liveR_append (a b : List CellV) : liveR (a ++ b) = liveR a ++ liveR b := by simp [liveR]
theorem liveR_fresh (o : OpV) (rs : List Nat) : liveR (freshC o rs) = rs.map fun r : Nat => (r : Int) := by
  unfold liveR freshC
  rw [List.filter_eq_self.2 (fun c hc => ?_)]
  · apply List.ext_getElem
    · simp
    · intro i h1 h2; simp
  · obtain ⟨i, hi, rfl⟩ := List.mem_mapIdx.1 hc
    rfl
theorem liveR_valid {l : List CellV} (h : newE l = 0) : vR (liveR l) := by
  intro r hr
  unfold liveR at hr
  obtain ⟨c, hc, rfl⟩ := List.mem_map.1 hr
  have hm := (List.mem_filter.1 hc).1
  unfold newE at h
  by_cases h1 : l.all cellOk = true
  · have := List.all_eq_true.1 h1 c hm
    unfold cellOk at this
    simp only [Bool.and_eq_true] at this
    exact this.2
  · rw [if_neg h1] at h; omega
theorem textB_valid {l : List CellV} (h : vR (liveR l)) : textB l = ⟨(bytesOf (liveR l)).toArray⟩ := by
  unfold textB
  rw [if_pos (List.all_eq_true.2 h)]

/-- Behind some of what was typed at place i of l: the document's cells are L, the caret is at p, the runes typed are rs. -/
structure Typ (l : List CellV) (i : Nat) (L : List CellV) (p : Nat) (rs : List Int) : Prop where
  hp : p ≤ L.length
  le : liveR (L.take p) = (liveR l).take i ++ rs
  ri : liveR (L.drop p) = (liveR l).drop i
  va : vR rs
theorem Typ.start {l : List CellV} {i : Int} (h : gapBad l i = false) : Typ l i.toNat l (gapN l i).toNat [] := by
  obtain ⟨h1, h2⟩ := gapN_le h
  have h3 := seen_gapN h
  have hlen : (liveR (l.take (gapN l i).toNat)).length = i.toNat := by
    rw [liveR_len]
    unfold seenN at h3
    omega
  have happ : liveR l = liveR (l.take (gapN l i).toNat) ++ liveR (l.drop (gapN l i).toNat) := by rw [← liveR_append, List.take_append_drop]
  refine ⟨by omega, ?_, ?_, fun r hr => by cases hr⟩
  · rw [List.append_nil, happ, ← hlen, List.take_left]
  · rw [happ, ← hlen, List.drop_left]
theorem Typ.all {l L : List CellV} {i p : Nat} {rs : List Int} (h : Typ l i L p rs) : liveR L = (liveR l).take i ++ rs ++ (liveR l).drop i := by
  rw [← h.le, ← h.ri, ← liveR_append, List.take_append_drop]
theorem Typ.step {l L : List CellV} {i p k : Nat} {rs : List Int} {t : ByteArray} (h : Typ l i L p rs) (he : doE (tyOp k p t) [] L = 0) :
    ∃ ns : List Nat, t = ⟨(bytesOf (ns.map fun r : Nat => (r : Int))).toArray⟩ ∧ addsOf (tyOp k p t) = ns.length ∧ ns.length ≤ 200 ∧ Typ l i (doL (tyOp k p t) [] L) (p + ns.length) (rs ++ ns.map fun r : Nat => (r : Int)) := by
  obtain ⟨hm, hh⟩ := doE_zero he
  rcases hh with ⟨hk, _⟩ | ⟨hk, hins, _, hL⟩
  · exact absurd rfl hk
  obtain ⟨ns, h1, h2, h3, h4, h5, h6, h7, h8, h9⟩ := ins_runes hins
  obtain ⟨b1, b2⟩ := runesD_bytes h1
  rw [h2] at hL
  have hat : (tyOp k p t).at_.toNat = p := by unfold tyOp; simp
  rw [hat] at hL
  have hlt : (L.take p).length = p := by rw [List.length_take]; have := h.hp; omega
  have e1 : (doL (tyOp k p t) [] L).take (p + ns.length) = L.take p ++ freshC (tyOp k p t) ns := by
    rw [hL]
    have : p + ns.length = (L.take p ++ freshC (tyOp k p t) ns).length := by rw [List.length_append, hlt]; simp [freshC]
    rw [this, List.take_left]
  have e2 : (doL (tyOp k p t) [] L).drop (p + ns.length) = L.drop p := by
    rw [hL]
    have : p + ns.length = (L.take p ++ freshC (tyOp k p t) ns).length := by rw [List.length_append, hlt]; simp [freshC]
    rw [this, List.drop_left]
  refine ⟨ns, b1, ?_, h5, ⟨?_, ?_, ?_, ?_⟩⟩
  · unfold addsOf
    rw [if_pos hk, h3]
    omega
  · have := congrArg List.length e2
    have hh := congrArg List.length hL
    simp only [List.length_append, hlt, List.length_drop, freshC, List.length_mapIdx] at hh
    omega
  · rw [e1, liveR_append, h.le, liveR_fresh, List.append_assoc]
  · rw [e2, h.ri]
  · intro r hr
    rcases List.mem_append.1 hr with hr | hr
    · exact h.va r hr
    · exact b2 r hr
theorem Typ.move {p k n : Nat} {t : ByteArray} (ha : addsOf (tyOp k p t) = n) : movP (tyOp k p t) p false = ((p + n : Nat) : Int) := by
  unfold movP
  rw [if_pos (show (tyOp k p t).kind = 1 from rfl), ha]
  unfold pointOf
  rw [if_pos (.inr ⟨rfl, rfl⟩)]
  omega
/-- What is shown then, and the text. -/
theorem Typ.shown {l L : List CellV} {i p : Nat} {rs : List Int} (h : Typ l i L p rs) (hi : i ≤ liveN l) (hb : L.length ≤ 20000) : shownV L 3 p p = .tuple #[.int .i64 ((i : Int) + (rs.length : Int)), .int .i64 ((i : Int) + (rs.length : Int)), .int .i64 0] := by
  have hp := h.hp
  have hm : markOk 3 p p L.length = true := by simp [markOk, inB]; omega
  have b1 : seenBad L p = false := by unfold seenBad; simp; omega
  have hs : (seenN L p : Int) = (i : Int) + (rs.length : Int) := by
    unfold seenN
    have := congrArg List.length h.le
    rw [liveR_len, List.length_append, List.length_take, liveR_len] at this
    omega
  unfold shownV seenM
  rw [hm, b1]
  simp only [if_true, Bool.false_eq_true, if_false, Int.toNat_natCast, hs]
theorem Typ.text {l L : List CellV} {i p : Nat} {rs : List Int} (h : Typ l i L p rs) (hv : vR (liveR l)) : textB L = ⟨(bytesOf ((liveR l).take i) ++ bytesOf rs ++ bytesOf ((liveR l).drop i)).toArray⟩ := by
  have hvL : vR (liveR L) := by
    rw [h.all]
    intro r hr
    rcases List.mem_append.1 hr with hr | hr
    · rcases List.mem_append.1 hr with hr | hr
      · exact hv r (List.mem_of_mem_take hr)
      · exact h.va r hr
    · exact hv r (List.mem_of_mem_drop hr)
  rw [textB_valid hvL, h.all, bytesOf_append, bytesOf_append]
end Go.Proofs.YthicagfeaekmoaaGreatDoor

namespace Go.Proofs.YthicagfeaekmoaaGreatDoor
open Go.RowKit Go.Mine Go.Deep
open Classical

theorem Typ.stepO {l L : List CellV} {i p : Nat} {rs : List Int} {o : OpV} (h : Typ l i L p rs) (hk : o.kind = 1) (hat : o.at_ = (p : Int)) (he : doE o [] L = 0) :
    ∃ ns : List Nat, o.text = ⟨(bytesOf (ns.map fun r : Nat => (r : Int))).toArray⟩ ∧ ns.length ≤ 200 ∧ Typ l i (doL o [] L) (p + ns.length) (rs ++ ns.map fun r : Nat => (r : Int)) := by
  obtain ⟨hm, hh⟩ := doE_zero he
  rcases hh with ⟨hk', _⟩ | ⟨_, hins, _, hL⟩
  · exact absurd hk hk'
  obtain ⟨ns, h1, h2, h3, h4, h5, h6, h7, h8, h9⟩ := ins_runes hins
  obtain ⟨b1, b2⟩ := runesD_bytes h1
  rw [h2, hat, Int.toNat_natCast] at hL
  have hlt : (L.take p).length = p := by rw [List.length_take]; have := h.hp; omega
  have e1 : (Go.Proofs.YthicagfeaekmoaaGreatDoor.doL o [] L).take (p + ns.length) = L.take p ++ freshC o ns := by
    rw [hL]
    have : p + ns.length = (L.take p ++ freshC o ns).length := by rw [List.length_append, hlt]; simp [freshC]
    rw [this, List.take_left]
  have e2 : (Go.Proofs.YthicagfeaekmoaaGreatDoor.doL o [] L).drop (p + ns.length) = L.drop p := by
    rw [hL]
    have : p + ns.length = (L.take p ++ freshC o ns).length := by rw [List.length_append, hlt]; simp [freshC]
    rw [this, List.drop_left]
  refine ⟨ns, b1, h5, ⟨?_, ?_, ?_, ?_⟩⟩
  · have hh := congrArg List.length hL
    simp only [List.length_append, hlt, List.length_drop, freshC, List.length_mapIdx] at hh
    omega
  · rw [e1, liveR_append, h.le, liveR_fresh, List.append_assoc]
  · rw [e2, h.ri]
  · intro r hr
    rcases List.mem_append.1 hr with hr | hr
    · exact h.va r hr
    · exact b2 r hr

theorem liveR_cons (c : CellV) (r : List CellV) : liveR (c :: r) = (if c.gone then [] else [c.r]) ++ liveR r := by
  unfold liveR
  cases h : c.gone <;> simp [h]
theorem seenN_cons (c : CellV) (r : List CellV) (j : Nat) : seenN (c :: r) (j + 1) = (if c.gone then 0 else 1) + seenN r j := by
  unfold seenN
  rw [List.take_succ_cons, liveN_cons]
/-- The runes of what is left live where a run of live cells goes (k live ones stand ahead of the list). -/
theorem mark_run (i n : Nat) : ∀ (l : List CellV) (k : Nat), liveR (markP (fun j => (l[j]?.map fun c => runB c.gone (k + seenN l j) i n).getD false) l) = (liveR l).take (i - k) ++ (liveR l).drop (i + n - k)
  | [], k => by simp [markP, liveR]
  | c :: r, k => by
    have ih := mark_run i n r (k + if c.gone then 0 else 1)
    have hm : markP (fun j => ((c :: r)[j]?.map fun d => runB d.gone (k + seenN (c :: r) j) i n).getD false) (c :: r) = (if runB c.gone k i n then goneC c else c) :: markP (fun j => (r[j]?.map fun d => runB d.gone ((k + if c.gone then 0 else 1) + seenN r j) i n).getD false) r := by
      have h0 : seenN (c :: r) 0 = 0 := by simp [seenN, liveN]
      unfold markP
      rw [List.mapIdx_cons]
      simp only [List.getElem?_cons_zero, List.getElem?_cons_succ, Option.map_some, Option.getD_some, h0, Nat.add_zero, seenN_cons, Nat.add_assoc]
    rw [hm, liveR_cons, ih, liveR_cons]
    cases hg : c.gone
    · have hgn : (goneC c).gone = true := rfl
      simp only [Bool.false_eq_true, if_false, List.singleton_append]
      by_cases h1 : k < i
      · have hr : runB false k i n = false := by unfold runB; simp; omega
        rw [hr]
        simp only [Bool.false_eq_true, if_false, hg]
        rw [show i - k = (i - (k + 1)) + 1 by omega, List.take_succ_cons, show i + n - k = (i + n - (k + 1)) + 1 by omega, List.drop_succ_cons]
        rfl
      · by_cases h2 : k < i + n
        · have hr : runB false k i n = true := by unfold runB; simp; omega
          rw [hr]
          simp only [if_true, hgn]
          rw [show i - k = 0 by omega, show i - (k + 1) = 0 by omega, show i + n - k = (i + n - (k + 1)) + 1 by omega, List.drop_succ_cons]
          rfl
        · have hr : runB false k i n = false := by unfold runB; simp; omega
          rw [hr]
          simp only [Bool.false_eq_true, if_false, hg]
          rw [show i - k = 0 by omega, show i - (k + 1) = 0 by omega, show i + n - k = 0 by omega, show i + n - (k + 1) = 0 by omega]
          rfl
    · have hr : runB true k i n = false := by unfold runB; simp
      rw [hr]
      simp only [Bool.false_eq_true, if_false, if_true, hg, List.nil_append, Nat.add_zero]
theorem runL_ok {l : List CellV} {i n : Int} (h : l.length ≤ 20000) : spansOk (runL l i n) = true := (plsOf_ok _ _ h).1
theorem runL_last {l : List CellV} {i n : Int} : lastLe (runL l i n) l.length = true := by
  unfold lastLe
  cases h : (runL l i n).getLast? with
  | none => rfl
  | some x =>
    have := plsOf_in _ _ x (List.mem_of_getLast? h)
    simp only [decide_eq_true_eq]
    omega
theorem runL_len {l : List CellV} {i n : Int} (h : l.length ≤ 20000) : (runL l i n).length ≤ 20000 := by
  have := plsOf_len (runP l i n) l.length
  unfold runL
  omega
/-- What is left of the text where a run goes. -/
theorem run_mark {l : List CellV} {i n : Nat} (h : l.length ≤ 20000) : liveR (markS (runL l i n) 0 l) = (liveR l).take i ++ (liveR l).drop (i + n) := by
  have hp := (plsOf_ok (runP l i n) l.length h).2
  have e : markS (runL l i n) 0 l = markP (fun j => (l[j]?.map fun c => runB c.gone (0 + seenN l j) i n).getD false) l := by
    unfold markS
    refine markP_congr (fun j hj => ?_)
    rw [Nat.zero_add]
    unfold runL
    rw [hp, decide_eq_true hj, Bool.true_and]
    unfold runP
    simp only [Nat.zero_add]
  rw [e, mark_run i n l 0]
  rfl
/-- The deletion of a run. -/
def edDel (a : Option Addr) (n c : Nat) : OpV := ⟨16, 549755813888, 0, 2, 0, ⟨#[]⟩, a, n, c⟩
/-- The insertion at a gap. -/
def edIns (p : Int) : OpV := ⟨16, 549755813888, 0, 1, p, xy, none, 0, 0⟩
theorem edDel_ok {w : World} {a : Option Addr} {n c : Nat} {sp : List (Int × Int)} (h : IsSpans w a n c sp) : (edDel a n c).ok w sp :=
  { i1 := by unfold edDel; dsimp only; omega, i2 := by unfold edDel; dsimp only; omega, i3 := by unfold edDel; dsimp only; omega, i4 := by unfold edDel; dsimp only; omega, i5 := by unfold edDel; dsimp only; omega, tx := .inr (fun i hi => absurd (show i < 0 from hi) (by omega)), sz := (by decide : (0 : Nat) < 4611686018427387904), sp := h }
theorem edIns_ok {w : World} {p : Int} (hp : 0 ≤ p ∧ p ≤ 20000) : (edIns p).ok w [] :=
  { i1 := by unfold edIns; dsimp only; omega, i2 := by unfold edIns; dsimp only; omega, i3 := by unfold edIns; dsimp only; omega, i4 := by unfold edIns; dsimp only; omega, i5 := by unfold edIns; dsimp only; omega, tx := .inr ascii_xy, sz := (by decide : xy.size < 4611686018427387904), sp := ⟨rfl, Nat.le_refl _, Nat.zero_le _, (fun x hx => by cases hx), (fun i x hx => by cases hx)⟩ }
theorem edDel_do {l : List CellV} {i n : Int} (h : l.length ≤ 20000) (a : Option Addr) (m c : Nat) : doE (edDel a m c) (runL l i n) l = 0 ∧ doL (edDel a m c) (runL l i n) l = markS (runL l i n) 0 l := by
  have hm : opMay (edDel a m c) (runL l i n) l.length = true := by
    unfold opMay
    rw [if_neg (show ¬ (edDel a m c).kind = 1 by show ¬ (2 : Int) = 1; decide), if_pos (show (edDel a m c).kind = 2 from rfl)]
    have hd : delOk (edDel a m c) l.length (runL l i n) = true := by
      simp [delOk, edDel, runL_ok h, runL_last]
    rw [hd]
    rfl
  constructor
  · unfold doE
    rw [if_pos hm, if_pos (show (edDel a m c).kind = 2 from rfl)]
  · unfold doL
    rw [if_pos hm, if_pos (show (edDel a m c).kind = 2 from rfl)]
/-- Why the insertion may be refused. -/
theorem edIns_no {l : List CellV} {p : Nat} (hl : l.length ≤ 20000) (hp : p ≤ l.length) (h : ¬ doE (edIns p) [] l = 0) : doE (edIns p) [] l = 15 ∨ 19998 < (l.length : Int) := by
  by_cases hb : 19998 < (l.length : Int)
  · exact .inr hb
  left
  have hs : xy.size = 2 := by decide
  have hm : opMay (edIns p) [] l.length = true := by
    unfold opMay
    rw [if_pos (show (edIns p).kind = 1 from rfl)]
    have hi : insOk (edIns p) l.length = true := by
      simp [insOk, edIns, textOk, ulen_xy, inB, hs]
      omega
    rw [hi]
    rfl
  unfold doE at h ⊢
  rw [if_pos hm, if_neg (show ¬ (edIns p).kind = 2 by show ¬ (1 : Int) = 2; decide)] at h ⊢
  by_cases hn : (edIns (p : Int)).name ∈ l.map CellV.name
  · rw [if_pos hn]
  · rw [if_neg hn] at h
    exact absurd rfl h
theorem liveR_good {l : List CellV} (h : Good l) : vR (liveR l) := liveR_valid h.new
theorem IsSpans.mod {T : Nat → Prop} {w w' : World} {a : Option Addr} {len cap : Nat} {l : List (Int × Int)} (h : IsSpans w a len cap l) (m : Mod T w w') (hT : ∀ b off, a = some ⟨b, off, none⟩ → 0 < len → ¬ T b) : IsSpans w' a len cap l :=
  ⟨h.n, h.le, h.big, h.ok, fun i x hx => by
    obtain ⟨b, off, e, c0, c1⟩ := h.cells i x hx
    have hi := (List.getElem?_eq_some_iff.1 hx).1
    have hp : 0 < len := by rw [← h.n]; omega
    exact ⟨b, off, e, m.cell (hT b off e hp) c0, m.cell (hT b off e hp) c1⟩⟩
theorem IsSpans.lt {w : World} {a : Option Addr} {len cap : Nat} {l : List (Int × Int)} (h : IsSpans w a len cap l) : ∀ b off, a = some ⟨b, off, none⟩ → 0 < len → b < w.heap.size := by
  intro b off e hn
  have hl : 0 < l.length := by rw [h.n]; exact hn
  obtain ⟨b', off', e', hc, _⟩ := h.cells 0 l[0] (List.getElem?_eq_getElem hl)
  rw [e] at e'
  cases e'
  exact block_lt_of_cell hc
theorem act_cell {w : World} {b o : Nat} {x : ActV} (h0 : w.cell? ⟨b, o, none⟩ = some (.int .u8 x.k)) (h1 : w.rangeAt b (o + 1) x.o.cs) : w.rangeAt b o x.cs := by
  intro j v hj
  match j, hj with
  | 0, hj => cases hj; exact h0
  | j + 1, hj =>
    have := h1 j v hj
    rw [← this]
    congr 1
    congr 1
    omega
end Go.Proofs.YthicagfeaekmoaaGreatDoor

namespace Go.Proofs.YthicagfeaekmoaaGreatDoor
open Go.RowKit Go.Mine
open Classical

theorem drop_live (sp : List (Int × Int)) : ∀ (l : List CellV) (p : Nat), hitFrom sp p l = false → liveR (dropFrom sp p l) = liveR l
  | [], _, _ => rfl
  | c :: r, p, h => by
    rw [hitFrom, Bool.or_eq_false_iff] at h
    have ih := drop_live sp r (p + 1) h.2
    rw [dropFrom]
    split
    · rename_i hp
      have hg : c.gone = true := by
        have h1 := h.1
        rw [hp] at h1
        simpa using h1
      rw [ih, liveR_cons, hg]
      rfl
    · rw [liveR_cons, ih, ← liveR_cons]
theorem dropL_live (sp : List (Int × Int)) (l : List CellV) : liveR (dropL sp l) = liveR l := by
  unfold dropL
  split
  · rename_i h
    refine drop_live sp l 0 ?_
    unfold dropE at h
    by_cases h1 : spansOk sp = true
    · rw [if_pos h1] at h
      split at h
      · omega
      · split at h
        · omega
        · rename_i h2
          simpa using h2
    · rw [if_neg h1] at h; omega
  · rfl
theorem textB_congr {l m : List CellV} (h : liveR l = liveR m) : textB l = textB m := by unfold textB; rw [h]
theorem lives_gone {l : List CellV} : goneL (lives l) = [] := by
  have key : ∀ n, plsOf (fun i => ((lives l)[i]?.map CellV.gone).getD false) n = [] := by
    intro n
    induction n with
    | zero => rfl
    | succ n ih =>
      have hf : ((lives l)[n]?.map CellV.gone).getD false = false := by
        cases h : (lives l)[n]? with
        | none => rfl
        | some c =>
          have := (List.mem_filter.1 (List.mem_of_getElem? h)).2
          simpa using this
      rw [plsOf, hf]
      simpa using ih
  exact key _
theorem lives_all (l : List CellV) : liveN (lives l) = (lives l).length := by
  unfold liveN lives
  rw [List.filter_filter]
  simp
theorem lives_text (l : List CellV) : liveR (lives l) = liveR l := by
  unfold liveR lives
  rw [List.filter_filter]
  simp
theorem DocP.text {w wx : World} {E : Nat → Prop} {D : Nat} {L : List CellV} (h : DocP w E wx D L) : Calls Tryz.prog 46 #[.pointer (some ⟨D, 0, none⟩)] wx fun e w' => e = .returned (.string (textB L)) ∧ Mod none_ wx w' := by
  obtain ⟨S, h1⟩ := h.doc
  obtain ⟨v, MB, bl, hv, _, hl, _⟩ := h1.ex
  have hb := h.f.cl.big
  have := text_cells wx D MB v bl hv (by rw [hl]; exact h.f.cl.ok) (by rw [hl]; omega)
  rw [hl] at this
  exact this
theorem DocP.cells {w wx : World} {E : Nat → Prop} {D : Nat} {L : List CellV} (h : DocP w E wx D L) : Calls Tryz.prog 48 #[.pointer (some ⟨D, 0, none⟩)] wx fun e w' => (∃ va vc, e = .returned (.slice va L.length vc) ∧ IsCells w' va L.length vc L) ∧ Mod none_ wx w' := by
  obtain ⟨S, h1⟩ := h.doc
  obtain ⟨v, MB, bl, hv, _, hl, _⟩ := h1.ex
  have hb := h.f.cl.big
  have := cells_any wx D MB v bl hv (by rw [hl]; exact hb)
  rw [hl] at this
  refine this.mono ?_
  rintro e w' ⟨⟨va, vc, rfl, ho⟩, m⟩
  exact ⟨⟨va, vc, rfl, (cells_owned ho h.f.cl.ok).1⟩, m⟩
theorem DocP.size {w wx : World} {E : Nat → Prop} {D : Nat} {L : List CellV} (h : DocP w E wx D L) : Calls Tryz.prog 43 #[.pointer (some ⟨D, 0, none⟩)] wx fun e w' => e = .returned (.int .i64 (L.length : Int)) ∧ Mod none_ wx w' := by
  have hb := h.f.cl.big
  exact size_any wx 0 D L h.f.is (by omega)
theorem DocP.live {w wx : World} {E : Nat → Prop} {D : Nat} {L : List CellV} (h : DocP w E wx D L) : Calls Tryz.prog 44 #[.pointer (some ⟨D, 0, none⟩)] wx fun e w' => e = .returned (.int .i64 (liveN L : Int)) ∧ Mod none_ wx w' := by
  have hb := h.f.cl.big
  exact live_any wx 0 D L h.f.is (by omega)
end Go.Proofs.YthicagfeaekmoaaGreatDoor

namespace Go.Proofs.YthicagfeaekmoaaGreatDoor
open Go.RowKit Go.Mine
open Classical

def abc : ByteArray := ⟨#[97, 98, 99]⟩
theorem runesOf_abc : runesOf abc = some [97, 98, 99] := by
  have h0 : Lib.decodeGo abc = (97, 1) := by decide
  have h1 : tl abc 1 = ⟨#[98, 99]⟩ := by decide
  have h2 : Lib.decodeGo ⟨#[98, 99]⟩ = (98, 1) := by decide
  have h3 : tl ⟨#[98, 99]⟩ 1 = ⟨#[99]⟩ := by decide
  have h4 : Lib.decodeGo ⟨#[99]⟩ = (99, 1) := by decide
  have h5 : tl ⟨#[99]⟩ 1 = ⟨#[]⟩ := by decide
  rw [runesOf_step (by decide) (by unfold bad1; rw [h0]; decide), h0]
  dsimp only
  rw [h1, runesOf_step (by decide) (by unfold bad1; rw [h2]; decide), h2]
  dsimp only
  rw [h3, runesOf_step (by decide) (by unfold bad1; rw [h4]; decide), h4]
  dsimp only
  rw [h5, runesOf_nil (by decide)]
  rfl
theorem ulen_abc : ulen abc = 3 := by rw [ulen_some runesOf_abc]; rfl
theorem ascii_abc : ascii abc := by unfold ascii abc; decide
def alv1 : OpV := ⟨1, 1, 0, 1, 0, abc, none, 0, 0⟩
def alv2 (b : Nat) : OpV := ⟨1, 2, 0, 2, 0, ⟨#[]⟩, some ⟨b, 0, none⟩, 1, 1⟩
def alvL : List CellV := [⟨1, 1, 0, 97, false⟩, ⟨1, 1, 1, 98, false⟩, ⟨1, 1, 2, 99, false⟩]
def alvM : List CellV := [⟨1, 1, 0, 97, false⟩, ⟨1, 1, 1, 98, true⟩, ⟨1, 1, 2, 99, false⟩]
theorem alv1_ok (w : World) : alv1.ok w [] := by
  refine ⟨?_, ?_, ?_, ?_, ?_, .inr ascii_abc, (by decide : abc.size < 4611686018427387904), ⟨rfl, Nat.le_refl _, Nat.zero_le _, (fun x hx => by cases hx), (fun i x hx => by cases hx)⟩⟩ <;> simp [alv1]
theorem alv1_may : opMay alv1 [] 0 = true := by
  have h : abc.size = 3 := by decide
  simp [opMay, insOk, alv1, textOk, ulen_abc, inB, h, nameOk]
theorem alv1_do : doE alv1 [] [] = 0 ∧ doL alv1 [] [] = alvL := by
  have hm : opMay alv1 [] (([] : List CellV).length : Int) = true := alv1_may
  have hr : runesD alv1.text = [97, 98, 99] := by unfold runesD alv1; dsimp only; rw [runesOf_abc]; rfl
  constructor
  · unfold doE
    rw [if_pos hm, if_neg (by decide), if_neg (by simp)]
  · unfold doL
    rw [if_pos hm, if_neg (by decide), if_neg (by simp), hr]
    rfl
theorem alv2_may (b : Nat) : opMay (alv2 b) [(1, 1)] 3 = true := by
  simp [opMay, delOk, alv2, spansOk, spansFrom, lastLe, inB, nameOk]
theorem alv2_do (b : Nat) : doE (alv2 b) [(1, 1)] alvL = 0 ∧ doL (alv2 b) [(1, 1)] alvL = alvM := by
  have hm : opMay (alv2 b) [(1, 1)] (alvL.length : Int) = true := alv2_may b
  constructor
  · unfold doE
    rw [if_pos hm, if_pos (show (alv2 b).kind = 2 from rfl)]
  · unfold doL
    rw [if_pos hm, if_pos (show (alv2 b).kind = 2 from rfl)]
    rfl
theorem alvM_text : textB alvM = ⟨#[97, 99]⟩ := by
  have h : liveR alvM = [97, 99] := by decide
  unfold textB
  rw [h, if_pos (by decide)]
  decide
theorem alvM_gap : gapV alvM 1 = .tuple #[.int .i64 2, .int .i64 0] := by
  have h1 : liveN alvM = 2 := by decide
  have h2 : gapPos alvM 1 = 2 := by decide
  unfold gapV
  rw [h1, if_neg (by decide), if_neg (by decide)]
  have e : (1 : Int).toNat = 1 := rfl
  rw [e, h2]
  rfl

set_option maxHeartbeats 4000000 in
set_option maxRecDepth 1000000 in
theorem alive12_any (w : World) : Calls Tryz.prog 35 #[] w fun e w' => e = .returned (.bool true) ∧ Mod none_ w w' := by
  have HN := Lib.hid (new_any w none 0 0 [] ⟨rfl, Nat.le_refl _, Nat.zero_le _, (fun x hx => by cases hx), (fun i x hx => by cases hx)⟩ (by omega))
  go_enter Tryz.func35, Tryz.ntmps35
  go_wp2_with fail
  refine HN.out.mono ?_
  rintro e w1 ⟨m1, _, hgood⟩
  have hne : newE [] = 0 := by
    unfold newE
    simp
  obtain ⟨D, rfl, hdoc⟩ := hgood hne
  have hP : DocP w none_ w1 D [] := ⟨⟨m1, ⟨_, hdoc.s, fun k hk => ⟨hk, fun e => e⟩⟩, fun k hk => hk.elim, Cl.new hne (fun c hc => by cases hc) (by decide)⟩, Good.of hne (fun c hc => by cases hc) (by decide)⟩
  have P1 := Lib.hid hP
  have HD1 := hP.do_ alv1 [] (alv1_ok w1) (by decide) (fun b off e => by cases e)
  rw [alv1_do.1, alv1_do.2] at HD1
  have HD1 := Lib.hid HD1
  clear hP hgood hdoc m1 HN hne
  go_wp2_with fail
  refine HD1.out.mono ?_
  rintro e w2 ⟨rfl, hQ⟩
  have P2 := Lib.hid hQ.p
  have kS := Blk.new (w := w2) (cs := [.int .i64 1, .int .i64 1]) (t := 49)
  have mS := (Mod.refl none_ w2).alloc (.cells #[.int .i64 1, .int .i64 1] 49)
  have hB := hQ.p.box mS
  have hsp : IsSpans (w2.alloc (.cells #[.int .i64 1, .int .i64 1] 49)) (some ⟨w2.heap.size, 0, none⟩) 1 1 [(1, 1)] :=
    ⟨rfl, Nat.le_refl _, by unfold maxLen; omega, (fun x hx => by rw [List.mem_singleton.1 hx]; dsimp only; omega), (fun i x hx => by
      match i, hx with
      | 0, hx =>
        cases hx
        exact ⟨w2.heap.size, 0, rfl, kS.cell 0, kS.cell 1⟩)⟩
  have HD2 := hB.do_ (alv2 w2.heap.size) [(1, 1)] (by
    refine ⟨?_, ?_, ?_, ?_, ?_, .inr (fun i hi => absurd (show i < 0 from hi) (by omega)), (by decide : (0 : Nat) < 4611686018427387904), hsp⟩ <;> simp [alv2]) (by show (0 : Nat) ≤ _; omega) (box_far hsp (fun b off e _ => by cases e; exact Nat.le_refl _))
  rw [(alv2_do w2.heap.size).1, (alv2_do w2.heap.size).2] at HD2
  have HD2 := Lib.hid HD2
  clear hQ kS mS hB hsp HD1 P1
  go_wp2_with fail
  refine HD2.out.mono ?_
  rintro e w3 ⟨rfl, hQ⟩
  have P3 := Lib.hid hQ.p
  have HG := gap_any w3 0 D alvM 1 hQ.p.f.is (by decide)
  rw [alvM_gap] at HG
  have HG := Lib.hid HG
  clear hQ HD2
  go_wp2_with fail
  refine HG.out.mono ?_
  rintro e w4 ⟨rfl, m4⟩
  have P4 := Lib.hid (P3.out.grown m4)
  have HT : RowKit.Hid (Calls Tryz.prog 46 #[.pointer (some ⟨D, 0, none⟩)] w4 fun e w' => e = .returned (.string ⟨#[97, 99]⟩) ∧ Mod none_ w4 w') := by
    obtain ⟨S, h1⟩ := P4.out.doc
    obtain ⟨v, MB, bl, hv, _, hl, _⟩ := h1.ex
    have := text_cells w4 D MB v bl hv (by rw [hl]; exact P4.out.f.cl.ok) (by rw [hl]; decide)
    rw [hl, alvM_text] at this
    exact Lib.hid this
  clear m4 HG P3 P2
  go_wp2_with fail
  refine HT.out.mono ?_
  rintro e w5 ⟨rfl, m5⟩
  have P5 := Lib.hid (P4.out.grown m5)
  clear m5 HT
  go_wp2_with fail
  refine (size_any w5 0 D alvM P5.out.f.is (by decide)).mono ?_
  rintro e w6 ⟨rfl, m6⟩
  have P6 := Lib.hid (P5.out.grown m6)
  have HL := live_any w6 0 D alvM (P5.out.grown m6).f.is (by decide)
  rw [show liveN alvM = 2 from by decide] at HL
  have HL := Lib.hid HL
  have hl3 : ((alvM.length : Nat) : Int) = 3 := rfl
  clear m6
  go_wp2_with fail
  refine HL.out.mono ?_
  rintro e w7 ⟨rfl, m7⟩
  have P7 := Lib.hid (P6.out.grown m7).f.m
  clear m7
  go_wp2_with fail
  go_ret
  exact ⟨rfl, P7.out⟩
end Go.Proofs.YthicagfeaekmoaaGreatDoor

namespace Go.Mine
open Go.Lib

/-- What the first byte says: how many bytes, and what it holds. -/
def lead (b : Nat) : Option (Nat × Nat) :=
  if b < 128 then some (1, b) else if b < 192 then none else if b < 224 then some (2, b - 192) else if b < 240 then some (3, b - 224) else if b < 248 then some (4, b - 240) else none
/-- What the bytes up to the k-th hold. -/
def accR (t : ByteArray) (x0 : Nat) : Nat → Nat
  | 0 => x0
  | k + 1 => 64 * accR t x0 k + bt t (k + 1) - 128
def contB (b : Nat) : Prop := 128 ≤ b ∧ b ≤ 191
/-- A number that is a rune. -/
def isR (n : Nat) : Prop := n ≤ 1114111 ∧ (n < 55296 ∨ 57343 < n)
instance (n : Nat) : Decidable (isR n) := by unfold isR; infer_instance

theorem lead_some {b n x0 : Nat} (h : lead b = some (n, x0)) : (n = 1 ∧ x0 = b ∧ b < 128) ∨ (n = 2 ∧ x0 = b - 192 ∧ 192 ≤ b ∧ b < 224) ∨ (n = 3 ∧ x0 = b - 224 ∧ 224 ≤ b ∧ b < 240) ∨ (n = 4 ∧ x0 = b - 240 ∧ 240 ≤ b ∧ b < 248) := by
  unfold lead at h
  repeat' split at h
  all_goals first
    | (cases h; fail)
    | (simp only [Option.some.injEq, Prod.mk.injEq] at h; omega)
    | simp at h
theorem lead_none {b : Nat} (h : lead b = none) : (128 ≤ b ∧ b < 192) ∨ 248 ≤ b := by
  unfold lead at h
  repeat' split at h
  all_goals first
    | omega
    | simp at h
theorem firstR_none {t : ByteArray} (h : t.size ≠ 0) (hl : lead (bt t 0) = none) : firstR t = (0, 0) := firstR0 h (lead_none hl)
theorem firstR_short {t : ByteArray} (h : t.size ≠ 0) {n x0 : Nat} (hl : lead (bt t 0) = some (n, x0)) (hs : t.size < n) : firstR t = (0, 0) := by
  rcases lead_some hl with ⟨hn', hx', h0⟩ | ⟨hn', hx', h0⟩ | ⟨hn', hx', h0⟩ | ⟨hn', hx', h0⟩ <;> clear hl <;> subst hn'
  · omega
  · rw [firstR2 h h0, if_neg (fun e => by omega)]
  · rw [firstR3 h h0, if_neg (fun e => by omega)]
  · rw [firstR4 h h0, if_neg (fun e => by omega)]
theorem firstR_cont {t : ByteArray} (h : t.size ≠ 0) {n x0 j : Nat} (hl : lead (bt t 0) = some (n, x0)) (h1 : 1 ≤ j) (hj : j < n) (hc : ¬ contB (bt t j)) : firstR t = (0, 0) := by
  unfold contB at hc
  rcases lead_some hl with ⟨hn', hx', h0⟩ | ⟨hn', hx', h0⟩ | ⟨hn', hx', h0⟩ | ⟨hn', hx', h0⟩ <;> clear hl <;> subst hn'
  · omega
  · obtain rfl : j = 1 := by omega
    rw [firstR2 h h0, if_neg (fun e => hc e.2.1)]
  · rcases (show j = 1 ∨ j = 2 by omega) with rfl | rfl
    · rw [firstR3 h h0, if_neg (fun e => hc e.2.1)]
    · rw [firstR3 h h0, if_neg (fun e => hc e.2.2.1)]
  · rcases (show j = 1 ∨ j = 2 ∨ j = 3 by omega) with rfl | rfl | rfl
    · rw [firstR4 h h0, if_neg (fun e => hc e.2.1)]
    · rw [firstR4 h h0, if_neg (fun e => hc e.2.2.1)]
    · rw [firstR4 h h0, if_neg (fun e => hc e.2.2.2.1)]
theorem accR_lt (t : ByteArray) (x0 : Nat) (h : x0 < 128) (k : Nat) (hk : k ≤ 3) : accR t x0 k < 100000000 := by
  have h1 := bt_lt t 1
  have h2 := bt_lt t 2
  have h3 := bt_lt t 3
  have e0 : accR t x0 0 = x0 := rfl
  have e1 : accR t x0 1 = 64 * x0 + bt t 1 - 128 := rfl
  have e2 : accR t x0 2 = 64 * accR t x0 1 + bt t 2 - 128 := rfl
  have e3 : accR t x0 3 = 64 * accR t x0 2 + bt t 3 - 128 := rfl
  generalize hg1 : accR t x0 1 = a1 at e1 e2
  generalize hg2 : accR t x0 2 = a2 at e2 e3
  have hk4 : k = 0 ∨ k = 1 ∨ k = 2 ∨ k = 3 := by omega
  rcases hk4 with e | e | e | e <;> rw [e]
  · rw [e0]; omega
  · rw [hg1]; omega
  · rw [hg2]; omega
  · rw [e3]; omega
theorem two_bytes (n b0 b1 : Nat) (h0 : 192 ≤ b0 ∧ b0 < 224) (hn : 2 ≤ n) (c1 : 128 ≤ b1 ∧ b1 ≤ 191) :
    (if 2 ≤ n ∧ (128 ≤ b1 ∧ b1 ≤ 191) ∧ 128 ≤ 64 * (b0 - 192) + b1 - 128 then (64 * (b0 - 192) + b1 - 128, 2) else (0, 0)) = if isR (64 * (b0 - 192) + b1 - 128) ∧ encR (64 * (b0 - 192) + b1 - 128) = [b0, b1] then (64 * (b0 - 192) + b1 - 128, 2) else (0, 0) := by
  generalize hx : 64 * (b0 - 192) + b1 - 128 = x
  by_cases hv : 128 ≤ x
  · rw [if_pos ⟨hn, c1, hv⟩, if_pos]
    refine ⟨by unfold isR; omega, ?_⟩
    unfold encR
    rw [if_neg (by omega), if_pos (by omega)]
    simp only [List.cons.injEq, and_true]
    omega
  · rw [if_neg (fun e => hv e.2.2), if_neg]
    rintro ⟨_, he⟩
    unfold encR at he
    rw [if_pos (by omega)] at he
    simp at he
theorem three_bytes (n b0 b1 b2 : Nat) (h0 : 224 ≤ b0 ∧ b0 < 240) (hn : 3 ≤ n) (c1 : 128 ≤ b1 ∧ b1 ≤ 191) (c2 : 128 ≤ b2 ∧ b2 ≤ 191) (x : Nat) (hx : 64 * (64 * (b0 - 224) + b1 - 128) + b2 - 128 = x) :
    (if 3 ≤ n ∧ (128 ≤ b1 ∧ b1 ≤ 191) ∧ (128 ≤ b2 ∧ b2 ≤ 191) ∧ 2048 ≤ x ∧ (x < 55296 ∨ 57343 < x) then (x, 3) else (0, 0)) = if isR x ∧ encR x = [b0, b1, b2] then (x, 3) else (0, 0) := by
  by_cases hv : 2048 ≤ x ∧ (x < 55296 ∨ 57343 < x)
  · rw [if_pos ⟨hn, c1, c2, hv⟩, if_pos]
    refine ⟨by unfold isR; omega, ?_⟩
    unfold encR
    rw [if_neg (by omega), if_neg (by omega), if_pos (by omega)]
    simp only [List.cons.injEq, and_true]
    omega
  · rw [if_neg (fun e => hv e.2.2.2), if_neg]
    rintro ⟨hr, he⟩
    unfold isR at hr
    have hx2 : x < 2048 := by omega
    unfold encR at he
    by_cases h1 : x < 128
    · rw [if_pos h1] at he
      simp at he
    · rw [if_neg h1, if_pos hx2] at he
      simp at he
theorem four_bytes (n b0 b1 b2 b3 : Nat) (h0 : 240 ≤ b0 ∧ b0 < 248) (hn : 4 ≤ n) (c1 : 128 ≤ b1 ∧ b1 ≤ 191) (c2 : 128 ≤ b2 ∧ b2 ≤ 191) (c3 : 128 ≤ b3 ∧ b3 ≤ 191) (x : Nat) (hx : 64 * (64 * (64 * (b0 - 240) + b1 - 128) + b2 - 128) + b3 - 128 = x) :
    (if 4 ≤ n ∧ (128 ≤ b1 ∧ b1 ≤ 191) ∧ (128 ≤ b2 ∧ b2 ≤ 191) ∧ (128 ≤ b3 ∧ b3 ≤ 191) ∧ 65536 ≤ x ∧ x ≤ 1114111 then (x, 4) else (0, 0)) = if isR x ∧ encR x = [b0, b1, b2, b3] then (x, 4) else (0, 0) := by
  by_cases hv : 65536 ≤ x ∧ x ≤ 1114111
  · rw [if_pos ⟨hn, c1, c2, c3, hv⟩, if_pos]
    refine ⟨by unfold isR; omega, ?_⟩
    unfold encR
    rw [if_neg (by omega), if_neg (by omega), if_neg (by omega)]
    simp only [List.cons.injEq, and_true]
    omega
  · rw [if_neg (fun e => hv e.2.2.2.2), if_neg]
    rintro ⟨hr, he⟩
    unfold isR at hr
    have hx2 : x < 65536 := by omega
    unfold encR at he
    by_cases h1 : x < 128
    · rw [if_pos h1] at he
      simp at he
    · by_cases h2 : x < 2048
      · rw [if_neg h1, if_pos h2] at he
        simp at he
      · rw [if_neg h1, if_neg h2, if_pos hx2] at he
        simp at he
/-- All bytes are of the form: the rune is right just if its own bytes are these. -/
theorem firstR_all {t : ByteArray} (h : t.size ≠ 0) {n x0 : Nat} (hl : lead (bt t 0) = some (n, x0)) (hn : n ≤ t.size) (hc : ∀ j, 1 ≤ j → j < n → contB (bt t j)) :
    firstR t = if isR (accR t x0 (n - 1)) ∧ encR (accR t x0 (n - 1)) = (List.range n).map (bt t) then (accR t x0 (n - 1), n) else (0, 0) := by
  have r1 : (List.range 1).map (bt t) = [bt t 0] := rfl
  have r2 : (List.range 2).map (bt t) = [bt t 0, bt t 1] := rfl
  have r3 : (List.range 3).map (bt t) = [bt t 0, bt t 1, bt t 2] := rfl
  have r4 : (List.range 4).map (bt t) = [bt t 0, bt t 1, bt t 2, bt t 3] := rfl
  have hc1 : 1 < n → contB (bt t 1) := fun e => hc 1 (Nat.le_refl _) e
  have hc2 : 2 < n → contB (bt t 2) := fun e => hc 2 (by decide) e
  have hc3 : 3 < n → contB (bt t 3) := fun e => hc 3 (by decide) e
  rcases lead_some hl with ⟨hn', hx', h0⟩ | ⟨hn', hx', h0⟩ | ⟨hn', hx', h0⟩ | ⟨hn', hx', h0⟩ <;> clear hl <;> subst hn'
  · have e1 : accR t x0 (1 - 1) = bt t 0 := hx'
    have e2 : isR (bt t 0) := ⟨Nat.le_trans (Nat.le_of_lt h0) (by decide), .inl (Nat.lt_of_lt_of_le h0 (by decide))⟩
    have e3 : encR (bt t 0) = (List.range 1).map (bt t) := by
      rw [r1]
      unfold encR
      rw [if_pos h0]
    rw [firstR1 h h0, e1, if_pos ⟨e2, e3⟩]
  · have e1 : accR t x0 (2 - 1) = 64 * (bt t 0 - 192) + bt t 1 - 128 := by rw [← hx']; rfl
    rw [firstR2 h h0, r2, e1]
    exact two_bytes _ _ _ h0 hn (hc1 (by decide))
  · have e1 : 64 * (64 * (bt t 0 - 224) + bt t 1 - 128) + bt t 2 - 128 = accR t x0 (3 - 1) := by rw [← hx']; rfl
    rw [firstR3 h h0, r3, e1]
    exact three_bytes _ _ _ _ h0 hn (hc1 (by decide)) (hc2 (by decide)) _ e1
  · have e1 : 64 * (64 * (64 * (bt t 0 - 240) + bt t 1 - 128) + bt t 2 - 128) + bt t 3 - 128 = accR t x0 (4 - 1) := by rw [← hx']; rfl
    rw [firstR4 h h0, r4, e1]
    exact four_bytes _ _ _ _ _ h0 hn (hc1 (by decide)) (hc2 (by decide)) (hc3 (by decide)) _ e1
end Go.Mine

namespace Go.Proofs.YthicagfeaekmoaaGreatDoor
open Go.RowKit Go.Mine

theorem vR_bools (r : Int) : Lib.validRune r = (decide (0 ≤ r) && decide (r ≤ 1114111) && (decide (r < 55296) || decide (57343 < r))) := by
  unfold Lib.validRune
  rw [Bool.eq_iff_iff]
  simp only [decide_eq_true_eq, Bool.and_eq_true, Bool.or_eq_true]
  omega

set_option maxHeartbeats 1000000 in
set_option maxRecDepth 1000000 in
theorem ris_any (r : Int) (w : World) : Calls Tryz.prog 85 #[.int .i32 r] w fun e w' => e = .returned (.bool (Lib.validRune r)) ∧ w' = w := by
  rw [vR_bools]
  go_enter Tryz.func85, Tryz.ntmps85
  cases h0 : decide (0 ≤ r)
  · go_wp2_with fail
    go_ret
    exact ⟨rfl, rfl⟩
  · cases h1 : decide (r ≤ 1114111)
    · go_wp2_with fail
      go_ret
      exact ⟨rfl, rfl⟩
    · cases h2 : decide (r < 55296)
      · cases h3 : decide (57343 < r)
        · go_wp2_with fail
          go_ret
          exact ⟨rfl, rfl⟩
        · go_wp2_with fail
          go_ret
          exact ⟨rfl, rfl⟩
      · go_wp2_with fail
        go_ret
        exact ⟨rfl, rfl⟩

/-- Bytes in memory. -/
abbrev encCs (r : Nat) : List Value := (encR r).map fun x : Nat => Value.int .u8 (x : Int)
def BytesTo (w : World) (r : Nat) (e : Ending) (w' : World) : Prop := (∃ g, e = .returned (.slice (some ⟨g, 0, none⟩) (encR r).length (encR r).length) ∧ w.heap.size ≤ g ∧ Blk w' g (encCs r) 5) ∧ Mod none_ w w'

theorem BytesTo.mk {w : World} {r : Nat} (cs : List Value) (n : Nat) (h : encCs r = cs) (hn : cs.length = n) : BytesTo w r (.returned (.slice (some ⟨w.heap.size, 0, none⟩) n n)) (w.alloc (.cells cs.toArray 5)) := by
  have hl : (encR r).length = n := by rw [← hn, ← h, List.length_map]
  refine ⟨⟨w.heap.size, by rw [hl], Nat.le_refl _, ?_⟩, (Mod.refl none_ w).alloc _⟩
  rw [h]
  exact Blk.new

set_option maxHeartbeats 1000000 in
set_option maxRecDepth 1000000 in
theorem rbytes_any (r : Nat) (w : World) (h : r ≤ 1114111) : Calls Tryz.prog 136 #[.int .i32 (r : Int)] w (BytesTo w r) := by
  have hi : IntKind.i64.wrap (r : Int) = r := by rw [IntKind.wrap_i64]; omega
  go_enter Tryz.func136, Tryz.ntmps136
  by_cases h0 : (r : Int) < 128
  · have hd0 : decide ((r : Int) < 128) = true := by simpa using h0
    have HF := Lib.hid (show BytesTo w r (.returned (.slice (some ⟨w.heap.size, 0, none⟩) 1 1)) (w.alloc (.cells [Value.int .u8 (r : Int)].toArray 5)) from
      BytesTo.mk _ 1 (by unfold encCs encR; rw [if_pos (by omega)]; rfl) rfl)
    go_wp2_with fail
    go_ret
    exact HF.out
  · have hd0 : decide ((r : Int) < 128) = false := by simpa using h0
    by_cases h1 : (r : Int) < 2048
    · have hd1 : decide ((r : Int) < 2048) = true := by simpa using h1
      have HF := Lib.hid (show BytesTo w r (.returned (.slice (some ⟨w.heap.size, 0, none⟩) 2 2)) (w.alloc (.cells [Value.int .u8 (192 + (r : Int) / 64), .int .u8 (128 + (r : Int) % 64)].toArray 5)) from
        BytesTo.mk _ 2 (by unfold encCs encR; rw [if_neg (by omega), if_pos (by omega)]; simp) rfl)
      go_wp2_with fail
      go_ret
      exact HF.out
    · have hd1 : decide ((r : Int) < 2048) = false := by simpa using h1
      by_cases h2 : (r : Int) < 65536
      · have hd2 : decide ((r : Int) < 65536) = true := by simpa using h2
        have HF := Lib.hid (show BytesTo w r (.returned (.slice (some ⟨w.heap.size, 0, none⟩) 3 3)) (w.alloc (.cells [Value.int .u8 (224 + (r : Int) / 4096), .int .u8 (128 + (r : Int) / 64 % 64), .int .u8 (128 + (r : Int) % 64)].toArray 5)) from
          BytesTo.mk _ 3 (by unfold encCs encR; rw [if_neg (by omega), if_neg (by omega), if_pos (by omega)]; simp) rfl)
        go_wp2_with fail
        go_ret
        exact HF.out
      · have hd2 : decide ((r : Int) < 65536) = false := by simpa using h2
        have HF := Lib.hid (show BytesTo w r (.returned (.slice (some ⟨w.heap.size, 0, none⟩) 4 4)) (w.alloc (.cells [Value.int .u8 (240 + (r : Int) / 262144), .int .u8 (128 + (r : Int) / 4096 % 64), .int .u8 (128 + (r : Int) / 64 % 64), .int .u8 (128 + (r : Int) % 64)].toArray 5)) from
          BytesTo.mk _ 4 (by unfold encCs encR; rw [if_neg (by omega), if_neg (by omega), if_neg (by omega)]; simp) rfl)
        go_wp2_with fail
        go_ret
        exact HF.out
end Go.Proofs.YthicagfeaekmoaaGreatDoor

namespace Go.Proofs.YthicagfeaekmoaaGreatDoor
open Go.RowKit Go.Mine

theorem bt_eq (s : ByteArray) (i : Nat) (h : i < s.size) : (s[i]'h).toNat = bt s i := by
  unfold bt
  have e : s.get! i = s.data[i]! := rfl
  rw [e, getElem!_def]
  have hs : i < s.data.size := h
  rw [Array.getElem?_eq_getElem hs]
  rfl
theorem ba_inj {a b : ByteArray} (h : a.toList = b.toList) : a = b := by
  rw [ByteArray.toList_eq, ByteArray.toList_eq] at h
  exact ByteArray.ext (Array.ext' h)
theorem isR_valid (x : Nat) : isR x ↔ Lib.validRune (x : Int) = true := by
  unfold isR Lib.validRune
  rw [decide_eq_true_eq]
  omega
theorem encR_u8 (x : Nat) (h : isR x) : ∀ y ∈ encR x, y < 256 := by
  intro y hy
  unfold isR at h
  unfold encR at hy
  repeat' split at hy
  all_goals simp only [List.mem_cons, List.not_mem_nil, or_false] at hy
  all_goals omega
theorem encCs_at (x : Nat) (h : ∀ y ∈ encR x, y < 256) (j : Nat) (hj : j < ((encR x).map UInt8.ofNat).length) : (encCs x)[j]? = some (.int .u8 ((((encR x).map UInt8.ofNat)[j]'hj).toNat : Int)) := by
  have hj' : j < (encR x).length := by simpa using hj
  have := h _ (List.getElem_mem hj')
  unfold encCs
  rw [List.getElem?_map, List.getElem?_eq_getElem hj', List.getElem_map]
  simp only [Option.map_some, Option.some.injEq, Value.int.injEq, true_and]
  rw [UInt8.toNat_ofNat']
  omega
theorem bytes_eq (s : ByteArray) (n : Nat) (hn : n ≤ s.size) (l : List Nat) (h : ∀ y ∈ l, y < 256) : (⟨(l.map UInt8.ofNat).toArray⟩ : ByteArray) = s.extract 0 n ↔ l = (List.range n).map (bt s) := by
  rw [extract_bytes s n hn]
  constructor
  · intro e
    have e2 : l.map UInt8.ofNat = (List.range n).map fun i => s.get! i := by simpa using e
    apply List.ext_getElem?
    intro i
    have e3 := congrArg (fun z : List UInt8 => z[i]?) e2
    simp only [List.getElem?_map] at e3 ⊢
    cases hx : l[i]? with
    | none =>
      rw [hx] at e3
      cases hr : (List.range n)[i]? with
      | none => rfl
      | some j => rw [hr] at e3; cases e3
    | some x =>
      rw [hx] at e3
      cases hr : (List.range n)[i]? with
      | none => rw [hr] at e3; cases e3
      | some j =>
        rw [hr] at e3
        simp only [Option.map_some, Option.some.injEq] at e3 ⊢
        unfold bt
        rw [← e3, UInt8.toNat_ofNat']
        have := h x (List.mem_of_getElem? hx)
        omega
  · rintro rfl
    have e2 : ((List.range n).map (bt s)).map UInt8.ofNat = (List.range n).map fun i => s.get! i := by
      rw [List.map_map]
      apply List.map_congr_left
      intro i _
      simp [bt]
    rw [e2]

set_option maxHeartbeats 8000000 in
set_option maxRecDepth 1000000 in
theorem rfirst_any (s : ByteArray) (w : World) (h0 : s.size ≠ 0) (hsz : s.size < 4611686018427387904) :
    Calls Tryz.prog 149 #[.string s] w fun e w' => e = .returned (.tuple #[.int .i32 ((firstR s).1 : Int), .int .i64 ((firstR s).2 : Int)]) ∧ Mod none_ w w' := by
  obtain ⟨R, hR⟩ : ∃ R, R = firstR s := ⟨_, rfl⟩
  rw [← hR]
  have HR := Lib.hid hR
  clear hR
  have hpos : 0 < s.size := by omega
  have H0 := Lib.hid h0
  obtain ⟨b, hb⟩ : ∃ b, (s[0]'hpos).toNat = b := ⟨_, rfl⟩
  have HB := Lib.hid (show bt s 0 = b by rw [← bt_eq s 0 hpos, hb])
  have hb256 : b < 256 := by rw [← HB.out]; exact bt_lt s 0
  cases hl : lead b with
  | none =>
    have HE := Lib.hid (show R = (0, 0) by rw [HR.out, firstR_none h0 (by rw [HB.out]; exact hl)])
    have hbb : (128 ≤ b ∧ b < 192) ∨ 248 ≤ b := lead_none hl
    clear hl
    go_enter Tryz.func149, Tryz.ntmps149
    rcases hbb with hbb | hbb
    · have d1 : decide (192 ≤ (b : Int)) = false := by simp; omega
      have d2 : decide (224 ≤ (b : Int)) = false := by simp; omega
      have d3 : decide (240 ≤ (b : Int)) = false := by simp; omega
      have d4 : decide (128 ≤ (b : Int)) = true := by simp; omega
      go_wp2_with fail
      go_ret2
      exact ⟨by rw [HE.out]; rfl, Mod.refl _ _⟩
    · have d1 : decide (192 ≤ (b : Int)) = true := by simp; omega
      have d2 : decide (224 ≤ (b : Int)) = true := by simp; omega
      have d3 : decide (240 ≤ (b : Int)) = true := by simp; omega
      have d4 : decide (128 ≤ (b : Int)) = true := by simp; omega
      have d5 : decide ((b : Int) < 224) = false := by simp; omega
      have d6 : decide ((b : Int) < 240) = false := by simp; omega
      have d7 : decide ((b : Int) < 248) = false := by simp; omega
      go_wp2_with fail
      go_ret2
      exact ⟨by rw [HE.out]; rfl, Mod.refl _ _⟩
  | some p =>
    obtain ⟨n, x0⟩ := p
    have hcs := lead_some hl
    have HL := Lib.hid (show lead (bt s 0) = some (n, x0) by rw [HB.out]; exact hl)
    clear hl
    go_enter Tryz.func149, Tryz.ntmps149
    rcases hcs with ⟨hn, hx, hb0⟩ | hcs
    · have hL := HL.out
      subst hn
      have HXA := Lib.hid (show R = if isR b ∧ encR b = (List.range 1).map (bt s) then (b, 1) else (0, 0) by
        have := firstR_all h0 hL (by omega) (fun j h1 h2 => by omega)
        rw [HR.out, this]
        show (if isR x0 ∧ encR x0 = (List.range 1).map (bt s) then (x0, 1) else (0, 0)) = _
        rw [hx])
      clear hL hx HL
      have d1 : decide (192 ≤ (b : Int)) = false := by simp; omega
      have d2 : decide (224 ≤ (b : Int)) = false := by simp; omega
      have d3 : decide (240 ≤ (b : Int)) = false := by simp; omega
      have d4 : decide (128 ≤ (b : Int)) = false := by simp; omega
      have d5 : decide ((s.size : Int) < 1) = false := by simp; omega
      have hn4 : 1 ≤ s.size := by omega
      have hX : b < 100000000 := by omega
      obtain ⟨XX, hXX⟩ : ∃ XX, b = XX := ⟨_, rfl⟩
      subst hXX
      obtain ⟨XX, hXX⟩ : ∃ XX, XX = b := ⟨_, rfl⟩
      go_wp2_with fail
      go_loopg [4, 6] 0 (fun g s4 s6 wx => g = 0 ∧ s4 = .int .i64 b ∧ s6 = .int .i64 1 ∧ wx = w)
      case atStart => exact ⟨rfl, rfl, rfl, rfl⟩
      case round =>
        obtain ⟨rfl, rfl, rfl, rfl⟩ := hrel
        go_upto_region 22 with fail
        rw [← hXX]
        rw [← hXX] at HXA hX
        clear hXX hb hb0 d1 d2 d3 d4 d5 HB hb256
        obtain ⟨WW, rfl⟩ : ∃ WW, WW = wr := ⟨_, rfl⟩
        have hbn : ¬ ((s.size : Int) < 1) := by omega
        have hw32 : IntKind.i32.wrap (XX : Int) = XX := by rw [IntKind.wrap_i32]; omega
        cases hv : Lib.validRune (XX : Int)
        · have HE := Lib.hid (show R = (0, 0) by rw [HXA.out, if_neg (fun e => by have := (isR_valid XX).1 e.1; rw [hv] at this; cases this)])
          clear HXA
          refine wp_region_held_drew (S := fun w' => Mine.Mod none_ WW w') (by kernel_rfl) (Mine.Mod.drew (Mine.Mod.refl none_ WW)) (fun hS => ?_)
          refine wpAnyH_take (i := 0) (v := .int .i64 (XX : Int)) rfl (by kernel_rfl) (by kernel_rfl) (by kernel_rfl) (fun _ _ _ h => h) (Or.inl ⟨by kernel_rfl, ?_⟩) hS ?_
          · rintro w' _; go_simp
          try simp only [Act.put, List.setIfInBounds_toArray]
          refine wpAnyH_take (i := 1) (v := .int .i32 (XX : Int)) rfl (by kernel_rfl) (by kernel_rfl) (by kernel_rfl) (fun _ _ _ h => h) (Or.inl ⟨by kernel_rfl, ?_⟩) hS ?_
          · rintro w' _; go_simp
          try simp only [Act.put]
          refine wpAnyH_ready (rs := [2]) (by kernel_rfl) (by simp) (AllReadyH.cons rfl (fun K hK => ?_) <| AllReadyH.nil)
          go_simp
          refine (ris_any (XX : Int) _).mono ?_
          rintro e w1 ⟨rfl, rfl⟩
          rw [hv]
          refine hK.out _ _ hS (fun hS => ?_)
          clear hK K
          try simp only [Act.put, List.setIfInBounds_toArray, List.set_cons_zero, List.set_cons_succ]
          refine wpAnyH_take (i := 3) (v := .bool true) rfl (by kernel_rfl) (by kernel_rfl) (by kernel_rfl) (fun _ _ _ h => h) (Or.inl ⟨by kernel_rfl, ?_⟩) hS ?_
          · rintro w' _; go_simp
          try simp only [Act.put, List.setIfInBounds_toArray]
          refine wpAnyH_take (i := 4) (v := .bool true) rfl (by kernel_rfl) (by kernel_rfl) (by kernel_rfl) (fun _ _ _ h => h) (Or.inl ⟨by kernel_rfl, ?_⟩) hS ?_
          · rintro w' _; go_simp
          try simp only [Act.put]
          refine wpAnyH_take (i := 5) (v := undef) rfl (by kernel_rfl) (by kernel_rfl) (by kernel_rfl) (fun _ _ _ h => h) (Or.inr ⟨by kernel_rfl, rfl⟩) hS ?_
          try simp only [Act.put]
          refine wpAnyH_take (i := 6) (v := undef) rfl (by kernel_rfl) (by kernel_rfl) (by kernel_rfl) (fun _ _ _ h => h) (Or.inr ⟨by kernel_rfl, rfl⟩) hS ?_
          try simp only [Act.put]
          refine wpAnyH_take (i := 7) (v := undef) rfl (by kernel_rfl) (by kernel_rfl) (by kernel_rfl) (fun _ _ _ h => h) (Or.inr ⟨by kernel_rfl, rfl⟩) hS ?_
          try simp only [Act.put]
          refine wpAnyH_take (i := 8) (v := undef) rfl (by kernel_rfl) (by kernel_rfl) (by kernel_rfl) (fun _ _ _ h => h) (Or.inr ⟨by kernel_rfl, rfl⟩) hS ?_
          try simp only [Act.put]
          refine wpAnyH_take (i := 9) (v := undef) rfl (by kernel_rfl) (by kernel_rfl) (by kernel_rfl) (fun _ _ _ h => h) (Or.inr ⟨by kernel_rfl, rfl⟩) hS ?_
          try simp only [Act.put]
          refine wpAnyH_take (i := 10) (v := undef) rfl (by kernel_rfl) (by kernel_rfl) (by kernel_rfl) (fun _ _ _ h => h) (Or.inr ⟨by kernel_rfl, rfl⟩) hS ?_
          try simp only [Act.put]
          refine wpAnyH_take (i := 11) (v := undef) rfl (by kernel_rfl) (by kernel_rfl) (by kernel_rfl) (fun _ _ _ h => h) (Or.inr ⟨by kernel_rfl, rfl⟩) hS ?_
          try simp only [Act.put]
          refine wpAnyH_take (i := 12) (v := undef) rfl (by kernel_rfl) (by kernel_rfl) (by kernel_rfl) (fun _ _ _ h => h) (Or.inr ⟨by kernel_rfl, rfl⟩) hS ?_
          try simp only [Act.put]
          refine wpAnyH_take (i := 13) (v := .bool true) rfl (by kernel_rfl) (by kernel_rfl) (by kernel_rfl) (fun _ _ _ h => h) (Or.inl ⟨by kernel_rfl, ?_⟩) hS ?_
          · rintro w' _; go_simp
          try simp only [Act.put]
          refine wpAnyH_done (by kernel_rfl) ?_ _
          try simp only [List.getElem_toArray, List.getElem_cons_succ, List.getElem_cons_zero]
          try simp only [List.setIfInBounds_toArray, List.set_cons_zero, List.set_cons_succ]
          have MF := Lib.hid hS
          clear hS
          go_wp2_with fail
          go_ret2
          exact ⟨by rw [HE.out]; rfl, MF.out⟩
        · have hXr : isR XX := (isR_valid XX).2 hv
          have HB8 := Lib.hid (encR_u8 XX hXr)
          obtain ⟨A, hA⟩ : ∃ A : ByteArray, A = ⟨((encR XX).map UInt8.ofNat).toArray⟩ := ⟨_, rfl⟩
          have HAE := Lib.hid (show A = s.extract 0 1 ↔ encR XX = (List.range 1).map (bt s) from by rw [hA]; exact bytes_eq s 1 hn4 _ (fun x hx => HB8.out x hx))
          have HA := Lib.hid hA
          have hX2 : XX ≤ 1114111 := hXr.1
          clear hA
          refine wp_region_held_drew (S := fun w' => Mine.Mod none_ WW w') (by kernel_rfl) (Mine.Mod.drew (Mine.Mod.refl none_ WW)) (fun hS => ?_)
          refine wpAnyH_take (i := 0) (v := .int .i64 (XX : Int)) rfl (by kernel_rfl) (by kernel_rfl) (by kernel_rfl) (fun _ _ _ h => h) (Or.inl ⟨by kernel_rfl, ?_⟩) hS ?_
          · rintro w' _; go_simp
          try simp only [Act.put, List.setIfInBounds_toArray]
          refine wpAnyH_take (i := 1) (v := .int .i32 (XX : Int)) rfl (by kernel_rfl) (by kernel_rfl) (by kernel_rfl) (fun _ _ _ h => h) (Or.inl ⟨by kernel_rfl, ?_⟩) hS ?_
          · rintro w' _; go_simp
          try simp only [Act.put]
          refine wpAnyH_ready (rs := [2]) (by kernel_rfl) (by simp) (AllReadyH.cons rfl (fun K hK => ?_) <| AllReadyH.nil)
          go_simp
          refine (ris_any (XX : Int) _).mono ?_
          rintro e w1 ⟨rfl, rfl⟩
          rw [hv]
          refine hK.out _ _ hS (fun hS => ?_)
          clear hK K
          try simp only [Act.put, List.setIfInBounds_toArray, List.set_cons_zero, List.set_cons_succ]
          refine wpAnyH_take (i := 3) (v := .bool false) rfl (by kernel_rfl) (by kernel_rfl) (by kernel_rfl) (fun _ _ _ h => h) (Or.inl ⟨by kernel_rfl, ?_⟩) hS ?_
          · rintro w' _; go_simp
          try simp only [Act.put, List.setIfInBounds_toArray]
          refine wpAnyH_take (i := 4) (v := .bool false) rfl (by kernel_rfl) (by kernel_rfl) (by kernel_rfl) (fun _ _ _ h => h) (Or.inl ⟨by kernel_rfl, ?_⟩) hS ?_
          · rintro w' _; go_simp
          try simp only [Act.put]
          refine wpAnyH_take (i := 5) (v := .int .i64 (XX : Int)) rfl (by kernel_rfl) (by kernel_rfl) (by kernel_rfl) (fun _ _ _ h => h) (Or.inl ⟨by kernel_rfl, ?_⟩) hS ?_
          · rintro w' _; go_simp
          try simp only [Act.put]
          refine wpAnyH_take (i := 6) (v := .int .i32 (XX : Int)) rfl (by kernel_rfl) (by kernel_rfl) (by kernel_rfl) (fun _ _ _ h => h) (Or.inl ⟨by kernel_rfl, ?_⟩) hS ?_
          · rintro w' _; go_simp
          try simp only [Act.put]
          refine wpAnyH_take (i := 9) (v := .string s) rfl (by kernel_rfl) (by kernel_rfl) (by kernel_rfl) (fun _ _ _ h => h) (Or.inl ⟨by kernel_rfl, ?_⟩) hS ?_
          · rintro w' _; go_simp
          try simp only [Act.put]
          refine wpAnyH_take (i := 10) (v := .int .i64 (1 : Int)) rfl (by kernel_rfl) (by kernel_rfl) (by kernel_rfl) (fun _ _ _ h => h) (Or.inl ⟨by kernel_rfl, ?_⟩) hS ?_
          · rintro w' _; go_simp
          try simp only [Act.put]
          refine wpAnyH_take (i := 11) (v := .string (s.extract 0 1)) rfl (by kernel_rfl) (by kernel_rfl) (by kernel_rfl) (fun _ _ _ h => h) (Or.inl ⟨by kernel_rfl, ?_⟩) hS ?_
          · rintro w' _; go_simp <;> (intro h; exact absurd h hbn)
          try simp only [Act.put]
          refine wpAnyH_ready (rs := [7]) (by kernel_rfl) (by simp) (AllReadyH.cons rfl (fun K hK => ?_) <| AllReadyH.nil)
          rw [if_pos (by kernel_rfl)]
          go_simp
          refine (rbytes_any XX _ hX2).mono ?_
          rintro e w2 ⟨⟨g, rfl, hgw, kg⟩, m2⟩
          have hcv : (convert 189 9 (.slice (some ⟨g, 0, none⟩) (encR XX).length (encR XX).length)).run Tryz.prog w2 = .ok (.string A) w2 := by
            have hl : ((encR XX).map UInt8.ofNat).length = (encR XX).length := List.length_map ..
            rw [HA.out, ← hl]
            refine run_convert_bytes_back w2 _ _ _ ⟨g, 0, none⟩ _ ((encR XX).map UInt8.ofNat) Tryz.underlying189 Tryz.underlying5 Tryz.underlying9 (fun j hj => ?_)
            have ea : (⟨g, 0, none⟩ : Addr).add j = ⟨g, j, none⟩ := by rw [Addr.add_lit, Nat.zero_add]
            rw [ea, kg.cell]
            exact encCs_at XX HB8.out j hj
          have HCV := Lib.hid hcv
          clear hcv kg hgw
          obtain ⟨nb, hnb⟩ : ∃ nb, nb = (encR XX).length := ⟨_, rfl⟩
          rw [← hnb] at HCV ⊢
          clear hnb
          refine hK.out _ _ (hS.trans m2) (fun hS => ?_)
          clear hK K m2
          try simp only [Act.put, List.setIfInBounds_toArray, List.set_cons_zero, List.set_cons_succ]
          have hcv := HCV.out
          refine wpAnyH_ready (rs := [8]) (by kernel_rfl) (by simp) (AllReadyH.cons rfl (fun K hK => ?_) <| AllReadyH.nil)
          rw [if_pos (by kernel_rfl)]
          go_simp
          refine hK.out _ _ hS (fun hS => ?_)
          clear hK K hcv HCV
          try simp only [Act.put, List.setIfInBounds_toArray, List.set_cons_zero, List.set_cons_succ]
          have MF := Lib.hid hS
          by_cases hq : A = s.extract 0 1
          · have HE := Lib.hid (show R = (XX, 1) by rw [HXA.out, if_pos ⟨hXr, HAE.out.1 hq⟩])
            have hqb : A.toList = (s.extract 0 1).toList := by rw [hq]
            clear HXA HAE HA hq
            refine wpAnyH_take (i := 12) (v := .bool false) rfl (by kernel_rfl) (by kernel_rfl) (by kernel_rfl) (fun _ _ _ h => h) (Or.inl ⟨by kernel_rfl, ?_⟩) hS ?_
            · rintro w' _; go_simp
            try simp only [Act.put, List.setIfInBounds_toArray]
            refine wpAnyH_take (i := 13) (v := .bool false) rfl (by kernel_rfl) (by kernel_rfl) (by kernel_rfl) (fun _ _ _ h => h) (Or.inl ⟨by kernel_rfl, ?_⟩) hS ?_
            · rintro w' _; go_simp
            try simp only [Act.put]
            refine wpAnyH_done (by kernel_rfl) ?_ _
            try simp only [List.getElem_toArray, List.getElem_cons_succ, List.getElem_cons_zero]
            try simp only [List.setIfInBounds_toArray, List.set_cons_zero, List.set_cons_succ]
            clear hS
            go_wp2_with fail
            go_ret2
            exact ⟨by rw [HE.out]; rfl, MF.out⟩
          · have HE := Lib.hid (show R = (0, 0) by rw [HXA.out, if_neg (fun e => hq (HAE.out.2 e.2))])
            have hqb : ¬ A.toList = (s.extract 0 1).toList := fun e => hq (ba_inj e)
            clear HXA HAE HA hq
            refine wpAnyH_take (i := 12) (v := .bool true) rfl (by kernel_rfl) (by kernel_rfl) (by kernel_rfl) (fun _ _ _ h => h) (Or.inl ⟨by kernel_rfl, ?_⟩) hS ?_
            · rintro w' _; go_simp
            try simp only [Act.put, List.setIfInBounds_toArray]
            refine wpAnyH_take (i := 13) (v := .bool true) rfl (by kernel_rfl) (by kernel_rfl) (by kernel_rfl) (fun _ _ _ h => h) (Or.inl ⟨by kernel_rfl, ?_⟩) hS ?_
            · rintro w' _; go_simp
            try simp only [Act.put]
            refine wpAnyH_done (by kernel_rfl) ?_ _
            try simp only [List.getElem_toArray, List.getElem_cons_succ, List.getElem_cons_zero]
            try simp only [List.setIfInBounds_toArray, List.set_cons_zero, List.set_cons_succ]
            clear hS
            go_wp2_with fail
            go_ret2
            exact ⟨by rw [HE.out]; rfl, MF.out⟩
    · have hng : 2 ≤ n ∧ n ≤ 4 := by omega
      have hx128 : x0 < 128 := by omega
      have HN1 := Lib.hid hng
      by_cases hn4 : s.size < n
      · have HE := Lib.hid (show R = (0, 0) by rw [HR.out, firstR_short h0 HL.out hn4])
        clear HL hng
        rcases hcs with ⟨hn, hx, hb0⟩ | ⟨hn, hx, hb0⟩ | ⟨hn, hx, hb0⟩
        · have d1 : decide (192 ≤ (b : Int)) = true := by simp; omega
          have d2 : decide ((b : Int) < 224) = true := by simp; omega
          have d5 : decide ((s.size : Int) < 2) = true := by simp; omega
          clear hn hx
          go_wp2_with fail
          go_ret2
          exact ⟨by rw [HE.out]; rfl, Mod.refl _ _⟩
        · have d1 : decide (192 ≤ (b : Int)) = true := by simp; omega
          have d2 : decide ((b : Int) < 224) = false := by simp; omega
          have d3 : decide (224 ≤ (b : Int)) = true := by simp; omega
          have d4 : decide ((b : Int) < 240) = true := by simp; omega
          have d5 : decide ((s.size : Int) < 3) = true := by simp; omega
          clear hn hx
          go_wp2_with fail
          go_ret2
          exact ⟨by rw [HE.out]; rfl, Mod.refl _ _⟩
        · have d1 : decide (192 ≤ (b : Int)) = true := by simp; omega
          have d2 : decide ((b : Int) < 224) = false := by simp; omega
          have d3 : decide (224 ≤ (b : Int)) = true := by simp; omega
          have d4 : decide ((b : Int) < 240) = false := by simp; omega
          have d6 : decide (240 ≤ (b : Int)) = true := by simp; omega
          have d7 : decide ((b : Int) < 248) = true := by simp; omega
          have d5 : decide ((s.size : Int) < 4) = true := by simp; omega
          clear hn hx
          go_wp2_with fail
          go_ret2
          exact ⟨by rw [HE.out]; rfl, Mod.refl _ _⟩
      · have hn4 : n ≤ s.size := by omega
        have HX0 : RowKit.Hid ((x0 : Int) = if n = 2 then (b : Int) - 192 else if n = 3 then (b : Int) - 224 else (b : Int) - 240) := Lib.hid (by
          rcases hcs with ⟨hn, hx, hb0⟩ | ⟨hn, hx, hb0⟩ | ⟨hn, hx, hb0⟩
          · rw [if_pos hn]; omega
          · rw [if_neg (by omega), if_pos hn]; omega
          · rw [if_neg (by omega), if_neg (by omega)]; omega)
        have hcn : n = 2 ∧ 192 ≤ b ∧ b < 224 ∨ n = 3 ∧ 224 ≤ b ∧ b < 240 ∨ n = 4 ∧ 240 ≤ b ∧ b < 248 := by omega
        clear hcs hng
        rcases hcn with ⟨hn, hb0⟩ | ⟨hn, hb0⟩ | ⟨hn, hb0⟩
        · have d1 : decide (192 ≤ (b : Int)) = true := by simp; omega
          have d2 : decide ((b : Int) < 224) = true := by simp; omega
          have HXE := Lib.hid (show (b : Int) - 192 = x0 by rw [HX0.out, if_pos hn])
          have HNE := Lib.hid (show (2 : Int) = n by omega)
          clear hn HX0
          go_upto_region 14 with fail
          rw [HXE.out, HNE.out]
          clear HXE HNE d1 d2 hb hb0 HB hb256
          have d5 : decide ((s.size : Int) < (n : Int)) = false := by simp; omega
          go_wp2_with fail
          have hn1 : 1 ≤ n := by have := HN1.out; omega
          go_loopg [4, 6] (n - 1) (fun g s4 s6 wx => ∃ k : Nat, g = n - (k + 1) ∧ s4 = .int .i64 (accR s x0 k) ∧ s6 = .int .i64 ((k : Int) + 1) ∧ k + 1 ≤ n ∧ wx = w ∧ RowKit.Hid (∀ j, 1 ≤ j → j < k + 1 → contB (bt s j)))
          case atStart => exact ⟨0, rfl, rfl, rfl, by omega, rfl, Lib.hid (fun j h1 h2 => by omega)⟩
          case round =>
            obtain ⟨k, rfl, rfl, rfl, hk, rfl, hct⟩ := hrel
            have hak := accR_lt s x0 hx128 k (by have := HN1.out; omega)
            by_cases hlk : k + 1 < n
            · have hlt : k + 1 < s.size := by omega
              obtain ⟨c, hc⟩ : ∃ c, (s[k + 1]'hlt).toNat = c := ⟨_, rfl⟩
              have HC := Lib.hid (show bt s (k + 1) = c by rw [← bt_eq s (k + 1) hlt, hc])
              have hc256 : c < 256 := by rw [← HC.out]; exact bt_lt s (k + 1)
              have d6 : decide ((k : Int) + 1 < (n : Int)) = true := by simp; omega
              by_cases hc1 : c < 128
              · have HE := Lib.hid (show R = (0, 0) by rw [HR.out, firstR_cont H0.out HL.out (j := k + 1) (by omega) hlk (by rw [HC.out]; unfold contB; omega)])
                have e1 : decide ((c : Int) < 128) = true := by simp; omega
                clear HL
                go_wp2_with fail
                go_ret2
                exact ⟨by rw [HE.out]; rfl, Mod.refl _ _⟩
              · by_cases hc2 : 191 < c
                · have HE := Lib.hid (show R = (0, 0) by rw [HR.out, firstR_cont H0.out HL.out (j := k + 1) (by omega) hlk (by rw [HC.out]; unfold contB; omega)])
                  have e1 : decide ((c : Int) < 128) = false := by simp; omega
                  have e2 : decide (191 < (c : Int)) = true := by simp; omega
                  clear HL
                  go_wp2_with fail
                  go_ret2
                  exact ⟨by rw [HE.out]; rfl, Mod.refl _ _⟩
                · have e1 : decide ((c : Int) < 128) = false := by simp; omega
                  have e2 : decide (191 < (c : Int)) = false := by simp; omega
                  have HCT := Lib.hid (show ∀ j, 1 ≤ j → j < k + 1 + 1 → contB (bt s j) from fun j h1 h2 => by
                    by_cases hj : j = k + 1
                    · subst hj; rw [HC.out]; unfold contB; omega
                    · exact hct.out j h1 (by omega))
                  have HAC := Lib.hid (show ((accR s x0 (k + 1) : Nat) : Int) = 64 * (accR s x0 k : Int) + (c : Int) - 128 by
                    have : accR s x0 (k + 1) = 64 * accR s x0 k + bt s (k + 1) - 128 := rfl
                    rw [this, HC.out]; omega)
                  clear hct
                  go_wp2_with fail
                  go_roundg (n - (k + 1 + 1))
                  all_goals first
                    | omega
                    | exact ⟨k + 1, rfl, by rw [HAC.out], by go_num, by omega, rfl, HCT⟩
            · obtain rfl : n = k + 1 := by omega
              have HXA := Lib.hid (show R = if isR (accR s x0 k) ∧ encR (accR s x0 k) = (List.range (k + 1)).map (bt s) then (accR s x0 k, k + 1) else (0, 0) by
                rw [HR.out, firstR_all H0.out HL.out hn4 hct.out]; rfl)
              clear hct hlk HL
              go_upto_region 22 with fail
              obtain ⟨XX, hXX⟩ : ∃ XX, XX = accR s x0 k := ⟨_, rfl⟩
              rw [← hXX]
              rw [← hXX] at HXA hak
              have hX := hak
              clear hXX hak d5
              obtain ⟨WW, rfl⟩ : ∃ WW, WW = wr := ⟨_, rfl⟩
              have hbn : ¬ ((0 ≤ (k : Int) + 1 → (s.size : Int) < (k : Int) + 1)) := by omega
              have hw32 : IntKind.i32.wrap (XX : Int) = XX := by rw [IntKind.wrap_i32]; omega
              cases hv : Lib.validRune (XX : Int)
              · have HE := Lib.hid (show R = (0, 0) by rw [HXA.out, if_neg (fun e => by have := (isR_valid XX).1 e.1; rw [hv] at this; cases this)])
                clear HXA
                refine wp_region_held_drew (S := fun w' => Mine.Mod none_ WW w') (by kernel_rfl) (Mine.Mod.drew (Mine.Mod.refl none_ WW)) (fun hS => ?_)
                refine wpAnyH_take (i := 0) (v := .int .i64 (XX : Int)) rfl (by kernel_rfl) (by kernel_rfl) (by kernel_rfl) (fun _ _ _ h => h) (Or.inl ⟨by kernel_rfl, ?_⟩) hS ?_
                · rintro w' _; go_simp
                try simp only [Act.put, List.setIfInBounds_toArray]
                refine wpAnyH_take (i := 1) (v := .int .i32 (XX : Int)) rfl (by kernel_rfl) (by kernel_rfl) (by kernel_rfl) (fun _ _ _ h => h) (Or.inl ⟨by kernel_rfl, ?_⟩) hS ?_
                · rintro w' _; go_simp
                try simp only [Act.put]
                refine wpAnyH_ready (rs := [2]) (by kernel_rfl) (by simp) (AllReadyH.cons rfl (fun K hK => ?_) <| AllReadyH.nil)
                go_simp
                refine (ris_any (XX : Int) _).mono ?_
                rintro e w1 ⟨rfl, rfl⟩
                rw [hv]
                refine hK.out _ _ hS (fun hS => ?_)
                clear hK K
                try simp only [Act.put, List.setIfInBounds_toArray, List.set_cons_zero, List.set_cons_succ]
                refine wpAnyH_take (i := 3) (v := .bool true) rfl (by kernel_rfl) (by kernel_rfl) (by kernel_rfl) (fun _ _ _ h => h) (Or.inl ⟨by kernel_rfl, ?_⟩) hS ?_
                · rintro w' _; go_simp
                try simp only [Act.put, List.setIfInBounds_toArray]
                refine wpAnyH_take (i := 4) (v := .bool true) rfl (by kernel_rfl) (by kernel_rfl) (by kernel_rfl) (fun _ _ _ h => h) (Or.inl ⟨by kernel_rfl, ?_⟩) hS ?_
                · rintro w' _; go_simp
                try simp only [Act.put]
                refine wpAnyH_take (i := 5) (v := undef) rfl (by kernel_rfl) (by kernel_rfl) (by kernel_rfl) (fun _ _ _ h => h) (Or.inr ⟨by kernel_rfl, rfl⟩) hS ?_
                try simp only [Act.put]
                refine wpAnyH_take (i := 6) (v := undef) rfl (by kernel_rfl) (by kernel_rfl) (by kernel_rfl) (fun _ _ _ h => h) (Or.inr ⟨by kernel_rfl, rfl⟩) hS ?_
                try simp only [Act.put]
                refine wpAnyH_take (i := 7) (v := undef) rfl (by kernel_rfl) (by kernel_rfl) (by kernel_rfl) (fun _ _ _ h => h) (Or.inr ⟨by kernel_rfl, rfl⟩) hS ?_
                try simp only [Act.put]
                refine wpAnyH_take (i := 8) (v := undef) rfl (by kernel_rfl) (by kernel_rfl) (by kernel_rfl) (fun _ _ _ h => h) (Or.inr ⟨by kernel_rfl, rfl⟩) hS ?_
                try simp only [Act.put]
                refine wpAnyH_take (i := 9) (v := undef) rfl (by kernel_rfl) (by kernel_rfl) (by kernel_rfl) (fun _ _ _ h => h) (Or.inr ⟨by kernel_rfl, rfl⟩) hS ?_
                try simp only [Act.put]
                refine wpAnyH_take (i := 10) (v := undef) rfl (by kernel_rfl) (by kernel_rfl) (by kernel_rfl) (fun _ _ _ h => h) (Or.inr ⟨by kernel_rfl, rfl⟩) hS ?_
                try simp only [Act.put]
                refine wpAnyH_take (i := 11) (v := undef) rfl (by kernel_rfl) (by kernel_rfl) (by kernel_rfl) (fun _ _ _ h => h) (Or.inr ⟨by kernel_rfl, rfl⟩) hS ?_
                try simp only [Act.put]
                refine wpAnyH_take (i := 12) (v := undef) rfl (by kernel_rfl) (by kernel_rfl) (by kernel_rfl) (fun _ _ _ h => h) (Or.inr ⟨by kernel_rfl, rfl⟩) hS ?_
                try simp only [Act.put]
                refine wpAnyH_take (i := 13) (v := .bool true) rfl (by kernel_rfl) (by kernel_rfl) (by kernel_rfl) (fun _ _ _ h => h) (Or.inl ⟨by kernel_rfl, ?_⟩) hS ?_
                · rintro w' _; go_simp
                try simp only [Act.put]
                refine wpAnyH_done (by kernel_rfl) ?_ _
                try simp only [List.getElem_toArray, List.getElem_cons_succ, List.getElem_cons_zero]
                try simp only [List.setIfInBounds_toArray, List.set_cons_zero, List.set_cons_succ]
                have MF := Lib.hid hS
                clear hS
                go_wp2_with fail
                go_ret2
                exact ⟨by rw [HE.out]; rfl, MF.out⟩
              · have hXr : isR XX := (isR_valid XX).2 hv
                have HB8 := Lib.hid (encR_u8 XX hXr)
                obtain ⟨A, hA⟩ : ∃ A : ByteArray, A = ⟨((encR XX).map UInt8.ofNat).toArray⟩ := ⟨_, rfl⟩
                have HAE := Lib.hid (show A = s.extract 0 (k + 1) ↔ encR XX = (List.range (k + 1)).map (bt s) from by rw [hA]; exact bytes_eq s (k + 1) hn4 _ (fun x hx => HB8.out x hx))
                have HA := Lib.hid hA
                have hX2 : XX ≤ 1114111 := hXr.1
                clear hA
                refine wp_region_held_drew (S := fun w' => Mine.Mod none_ WW w') (by kernel_rfl) (Mine.Mod.drew (Mine.Mod.refl none_ WW)) (fun hS => ?_)
                refine wpAnyH_take (i := 0) (v := .int .i64 (XX : Int)) rfl (by kernel_rfl) (by kernel_rfl) (by kernel_rfl) (fun _ _ _ h => h) (Or.inl ⟨by kernel_rfl, ?_⟩) hS ?_
                · rintro w' _; go_simp
                try simp only [Act.put, List.setIfInBounds_toArray]
                refine wpAnyH_take (i := 1) (v := .int .i32 (XX : Int)) rfl (by kernel_rfl) (by kernel_rfl) (by kernel_rfl) (fun _ _ _ h => h) (Or.inl ⟨by kernel_rfl, ?_⟩) hS ?_
                · rintro w' _; go_simp
                try simp only [Act.put]
                refine wpAnyH_ready (rs := [2]) (by kernel_rfl) (by simp) (AllReadyH.cons rfl (fun K hK => ?_) <| AllReadyH.nil)
                go_simp
                refine (ris_any (XX : Int) _).mono ?_
                rintro e w1 ⟨rfl, rfl⟩
                rw [hv]
                refine hK.out _ _ hS (fun hS => ?_)
                clear hK K
                try simp only [Act.put, List.setIfInBounds_toArray, List.set_cons_zero, List.set_cons_succ]
                refine wpAnyH_take (i := 3) (v := .bool false) rfl (by kernel_rfl) (by kernel_rfl) (by kernel_rfl) (fun _ _ _ h => h) (Or.inl ⟨by kernel_rfl, ?_⟩) hS ?_
                · rintro w' _; go_simp
                try simp only [Act.put, List.setIfInBounds_toArray]
                refine wpAnyH_take (i := 4) (v := .bool false) rfl (by kernel_rfl) (by kernel_rfl) (by kernel_rfl) (fun _ _ _ h => h) (Or.inl ⟨by kernel_rfl, ?_⟩) hS ?_
                · rintro w' _; go_simp
                try simp only [Act.put]
                refine wpAnyH_take (i := 5) (v := .int .i64 (XX : Int)) rfl (by kernel_rfl) (by kernel_rfl) (by kernel_rfl) (fun _ _ _ h => h) (Or.inl ⟨by kernel_rfl, ?_⟩) hS ?_
                · rintro w' _; go_simp
                try simp only [Act.put]
                refine wpAnyH_take (i := 6) (v := .int .i32 (XX : Int)) rfl (by kernel_rfl) (by kernel_rfl) (by kernel_rfl) (fun _ _ _ h => h) (Or.inl ⟨by kernel_rfl, ?_⟩) hS ?_
                · rintro w' _; go_simp
                try simp only [Act.put]
                refine wpAnyH_take (i := 9) (v := .string s) rfl (by kernel_rfl) (by kernel_rfl) (by kernel_rfl) (fun _ _ _ h => h) (Or.inl ⟨by kernel_rfl, ?_⟩) hS ?_
                · rintro w' _; go_simp
                try simp only [Act.put]
                refine wpAnyH_take (i := 10) (v := .int .i64 ((k : Int) + 1)) rfl (by kernel_rfl) (by kernel_rfl) (by kernel_rfl) (fun _ _ _ h => h) (Or.inl ⟨by kernel_rfl, ?_⟩) hS ?_
                · rintro w' _; go_simp
                try simp only [Act.put]
                refine wpAnyH_take (i := 11) (v := .string (s.extract 0 (k + 1))) rfl (by kernel_rfl) (by kernel_rfl) (by kernel_rfl) (fun _ _ _ h => h) (Or.inl ⟨by kernel_rfl, ?_⟩) hS ?_
                · rintro w' _; go_simp <;> (intro h; exact absurd h hbn)
                try simp only [Act.put]
                refine wpAnyH_ready (rs := [7]) (by kernel_rfl) (by simp) (AllReadyH.cons rfl (fun K hK => ?_) <| AllReadyH.nil)
                rw [if_pos (by kernel_rfl)]
                go_simp
                refine (rbytes_any XX _ hX2).mono ?_
                rintro e w2 ⟨⟨g, rfl, hgw, kg⟩, m2⟩
                have hcv : (convert 189 9 (.slice (some ⟨g, 0, none⟩) (encR XX).length (encR XX).length)).run Tryz.prog w2 = .ok (.string A) w2 := by
                  have hl : ((encR XX).map UInt8.ofNat).length = (encR XX).length := List.length_map ..
                  rw [HA.out, ← hl]
                  refine run_convert_bytes_back w2 _ _ _ ⟨g, 0, none⟩ _ ((encR XX).map UInt8.ofNat) Tryz.underlying189 Tryz.underlying5 Tryz.underlying9 (fun j hj => ?_)
                  have ea : (⟨g, 0, none⟩ : Addr).add j = ⟨g, j, none⟩ := by rw [Addr.add_lit, Nat.zero_add]
                  rw [ea, kg.cell]
                  exact encCs_at XX HB8.out j hj
                have HCV := Lib.hid hcv
                clear hcv kg hgw
                obtain ⟨nb, hnb⟩ : ∃ nb, nb = (encR XX).length := ⟨_, rfl⟩
                rw [← hnb] at HCV ⊢
                clear hnb
                refine hK.out _ _ (hS.trans m2) (fun hS => ?_)
                clear hK K m2
                try simp only [Act.put, List.setIfInBounds_toArray, List.set_cons_zero, List.set_cons_succ]
                have hcv := HCV.out
                refine wpAnyH_ready (rs := [8]) (by kernel_rfl) (by simp) (AllReadyH.cons rfl (fun K hK => ?_) <| AllReadyH.nil)
                rw [if_pos (by kernel_rfl)]
                go_simp
                refine hK.out _ _ hS (fun hS => ?_)
                clear hK K hcv HCV
                try simp only [Act.put, List.setIfInBounds_toArray, List.set_cons_zero, List.set_cons_succ]
                have MF := Lib.hid hS
                by_cases hq : A = s.extract 0 (k + 1)
                · have HE := Lib.hid (show R = (XX, k + 1) by rw [HXA.out, if_pos ⟨hXr, HAE.out.1 hq⟩])
                  have hqb : A.toList = (s.extract 0 (k + 1)).toList := by rw [hq]
                  clear HXA HAE HA hq
                  refine wpAnyH_take (i := 12) (v := .bool false) rfl (by kernel_rfl) (by kernel_rfl) (by kernel_rfl) (fun _ _ _ h => h) (Or.inl ⟨by kernel_rfl, ?_⟩) hS ?_
                  · rintro w' _; go_simp
                  try simp only [Act.put, List.setIfInBounds_toArray]
                  refine wpAnyH_take (i := 13) (v := .bool false) rfl (by kernel_rfl) (by kernel_rfl) (by kernel_rfl) (fun _ _ _ h => h) (Or.inl ⟨by kernel_rfl, ?_⟩) hS ?_
                  · rintro w' _; go_simp
                  try simp only [Act.put]
                  refine wpAnyH_done (by kernel_rfl) ?_ _
                  try simp only [List.getElem_toArray, List.getElem_cons_succ, List.getElem_cons_zero]
                  try simp only [List.setIfInBounds_toArray, List.set_cons_zero, List.set_cons_succ]
                  clear hS
                  go_wp2_with fail
                  go_ret2
                  exact ⟨by rw [HE.out]; rfl, MF.out⟩
                · have HE := Lib.hid (show R = (0, 0) by rw [HXA.out, if_neg (fun e => hq (HAE.out.2 e.2))])
                  have hqb : ¬ A.toList = (s.extract 0 (k + 1)).toList := fun e => hq (ba_inj e)
                  clear HXA HAE HA hq
                  refine wpAnyH_take (i := 12) (v := .bool true) rfl (by kernel_rfl) (by kernel_rfl) (by kernel_rfl) (fun _ _ _ h => h) (Or.inl ⟨by kernel_rfl, ?_⟩) hS ?_
                  · rintro w' _; go_simp
                  try simp only [Act.put, List.setIfInBounds_toArray]
                  refine wpAnyH_take (i := 13) (v := .bool true) rfl (by kernel_rfl) (by kernel_rfl) (by kernel_rfl) (fun _ _ _ h => h) (Or.inl ⟨by kernel_rfl, ?_⟩) hS ?_
                  · rintro w' _; go_simp
                  try simp only [Act.put]
                  refine wpAnyH_done (by kernel_rfl) ?_ _
                  try simp only [List.getElem_toArray, List.getElem_cons_succ, List.getElem_cons_zero]
                  try simp only [List.setIfInBounds_toArray, List.set_cons_zero, List.set_cons_succ]
                  clear hS
                  go_wp2_with fail
                  go_ret2
                  exact ⟨by rw [HE.out]; rfl, MF.out⟩
        · have d1 : decide (192 ≤ (b : Int)) = true := by simp; omega
          have d2 : decide ((b : Int) < 224) = false := by simp; omega
          have d3 : decide (224 ≤ (b : Int)) = true := by simp; omega
          have d4 : decide ((b : Int) < 240) = true := by simp; omega
          have HXE := Lib.hid (show (b : Int) - 224 = x0 by rw [HX0.out, if_neg (by omega), if_pos hn])
          have HNE := Lib.hid (show (3 : Int) = n by omega)
          clear hn HX0
          go_upto_region 14 with fail
          rw [HXE.out, HNE.out]
          clear HXE HNE d1 d2 d3 d4 hb hb0 HB hb256
          have d5 : decide ((s.size : Int) < (n : Int)) = false := by simp; omega
          go_wp2_with fail
          have hn1 : 1 ≤ n := by have := HN1.out; omega
          go_loopg [4, 6] (n - 1) (fun g s4 s6 wx => ∃ k : Nat, g = n - (k + 1) ∧ s4 = .int .i64 (accR s x0 k) ∧ s6 = .int .i64 ((k : Int) + 1) ∧ k + 1 ≤ n ∧ wx = w ∧ RowKit.Hid (∀ j, 1 ≤ j → j < k + 1 → contB (bt s j)))
          case atStart => exact ⟨0, rfl, rfl, rfl, by omega, rfl, Lib.hid (fun j h1 h2 => by omega)⟩
          case round =>
            obtain ⟨k, rfl, rfl, rfl, hk, rfl, hct⟩ := hrel
            have hak := accR_lt s x0 hx128 k (by have := HN1.out; omega)
            by_cases hlk : k + 1 < n
            · have hlt : k + 1 < s.size := by omega
              obtain ⟨c, hc⟩ : ∃ c, (s[k + 1]'hlt).toNat = c := ⟨_, rfl⟩
              have HC := Lib.hid (show bt s (k + 1) = c by rw [← bt_eq s (k + 1) hlt, hc])
              have hc256 : c < 256 := by rw [← HC.out]; exact bt_lt s (k + 1)
              have d6 : decide ((k : Int) + 1 < (n : Int)) = true := by simp; omega
              by_cases hc1 : c < 128
              · have HE := Lib.hid (show R = (0, 0) by rw [HR.out, firstR_cont H0.out HL.out (j := k + 1) (by omega) hlk (by rw [HC.out]; unfold contB; omega)])
                have e1 : decide ((c : Int) < 128) = true := by simp; omega
                clear HL
                go_wp2_with fail
                go_ret2
                exact ⟨by rw [HE.out]; rfl, Mod.refl _ _⟩
              · by_cases hc2 : 191 < c
                · have HE := Lib.hid (show R = (0, 0) by rw [HR.out, firstR_cont H0.out HL.out (j := k + 1) (by omega) hlk (by rw [HC.out]; unfold contB; omega)])
                  have e1 : decide ((c : Int) < 128) = false := by simp; omega
                  have e2 : decide (191 < (c : Int)) = true := by simp; omega
                  clear HL
                  go_wp2_with fail
                  go_ret2
                  exact ⟨by rw [HE.out]; rfl, Mod.refl _ _⟩
                · have e1 : decide ((c : Int) < 128) = false := by simp; omega
                  have e2 : decide (191 < (c : Int)) = false := by simp; omega
                  have HCT := Lib.hid (show ∀ j, 1 ≤ j → j < k + 1 + 1 → contB (bt s j) from fun j h1 h2 => by
                    by_cases hj : j = k + 1
                    · subst hj; rw [HC.out]; unfold contB; omega
                    · exact hct.out j h1 (by omega))
                  have HAC := Lib.hid (show ((accR s x0 (k + 1) : Nat) : Int) = 64 * (accR s x0 k : Int) + (c : Int) - 128 by
                    have : accR s x0 (k + 1) = 64 * accR s x0 k + bt s (k + 1) - 128 := rfl
                    rw [this, HC.out]; omega)
                  clear hct
                  go_wp2_with fail
                  go_roundg (n - (k + 1 + 1))
                  all_goals first
                    | omega
                    | exact ⟨k + 1, rfl, by rw [HAC.out], by go_num, by omega, rfl, HCT⟩
            · obtain rfl : n = k + 1 := by omega
              have HXA := Lib.hid (show R = if isR (accR s x0 k) ∧ encR (accR s x0 k) = (List.range (k + 1)).map (bt s) then (accR s x0 k, k + 1) else (0, 0) by
                rw [HR.out, firstR_all H0.out HL.out hn4 hct.out]; rfl)
              clear hct hlk HL
              go_upto_region 22 with fail
              obtain ⟨XX, hXX⟩ : ∃ XX, XX = accR s x0 k := ⟨_, rfl⟩
              rw [← hXX]
              rw [← hXX] at HXA hak
              have hX := hak
              clear hXX hak d5
              obtain ⟨WW, rfl⟩ : ∃ WW, WW = wr := ⟨_, rfl⟩
              have hbn : ¬ ((0 ≤ (k : Int) + 1 → (s.size : Int) < (k : Int) + 1)) := by omega
              have hw32 : IntKind.i32.wrap (XX : Int) = XX := by rw [IntKind.wrap_i32]; omega
              cases hv : Lib.validRune (XX : Int)
              · have HE := Lib.hid (show R = (0, 0) by rw [HXA.out, if_neg (fun e => by have := (isR_valid XX).1 e.1; rw [hv] at this; cases this)])
                clear HXA
                refine wp_region_held_drew (S := fun w' => Mine.Mod none_ WW w') (by kernel_rfl) (Mine.Mod.drew (Mine.Mod.refl none_ WW)) (fun hS => ?_)
                refine wpAnyH_take (i := 0) (v := .int .i64 (XX : Int)) rfl (by kernel_rfl) (by kernel_rfl) (by kernel_rfl) (fun _ _ _ h => h) (Or.inl ⟨by kernel_rfl, ?_⟩) hS ?_
                · rintro w' _; go_simp
                try simp only [Act.put, List.setIfInBounds_toArray]
                refine wpAnyH_take (i := 1) (v := .int .i32 (XX : Int)) rfl (by kernel_rfl) (by kernel_rfl) (by kernel_rfl) (fun _ _ _ h => h) (Or.inl ⟨by kernel_rfl, ?_⟩) hS ?_
                · rintro w' _; go_simp
                try simp only [Act.put]
                refine wpAnyH_ready (rs := [2]) (by kernel_rfl) (by simp) (AllReadyH.cons rfl (fun K hK => ?_) <| AllReadyH.nil)
                go_simp
                refine (ris_any (XX : Int) _).mono ?_
                rintro e w1 ⟨rfl, rfl⟩
                rw [hv]
                refine hK.out _ _ hS (fun hS => ?_)
                clear hK K
                try simp only [Act.put, List.setIfInBounds_toArray, List.set_cons_zero, List.set_cons_succ]
                refine wpAnyH_take (i := 3) (v := .bool true) rfl (by kernel_rfl) (by kernel_rfl) (by kernel_rfl) (fun _ _ _ h => h) (Or.inl ⟨by kernel_rfl, ?_⟩) hS ?_
                · rintro w' _; go_simp
                try simp only [Act.put, List.setIfInBounds_toArray]
                refine wpAnyH_take (i := 4) (v := .bool true) rfl (by kernel_rfl) (by kernel_rfl) (by kernel_rfl) (fun _ _ _ h => h) (Or.inl ⟨by kernel_rfl, ?_⟩) hS ?_
                · rintro w' _; go_simp
                try simp only [Act.put]
                refine wpAnyH_take (i := 5) (v := undef) rfl (by kernel_rfl) (by kernel_rfl) (by kernel_rfl) (fun _ _ _ h => h) (Or.inr ⟨by kernel_rfl, rfl⟩) hS ?_
                try simp only [Act.put]
                refine wpAnyH_take (i := 6) (v := undef) rfl (by kernel_rfl) (by kernel_rfl) (by kernel_rfl) (fun _ _ _ h => h) (Or.inr ⟨by kernel_rfl, rfl⟩) hS ?_
                try simp only [Act.put]
                refine wpAnyH_take (i := 7) (v := undef) rfl (by kernel_rfl) (by kernel_rfl) (by kernel_rfl) (fun _ _ _ h => h) (Or.inr ⟨by kernel_rfl, rfl⟩) hS ?_
                try simp only [Act.put]
                refine wpAnyH_take (i := 8) (v := undef) rfl (by kernel_rfl) (by kernel_rfl) (by kernel_rfl) (fun _ _ _ h => h) (Or.inr ⟨by kernel_rfl, rfl⟩) hS ?_
                try simp only [Act.put]
                refine wpAnyH_take (i := 9) (v := undef) rfl (by kernel_rfl) (by kernel_rfl) (by kernel_rfl) (fun _ _ _ h => h) (Or.inr ⟨by kernel_rfl, rfl⟩) hS ?_
                try simp only [Act.put]
                refine wpAnyH_take (i := 10) (v := undef) rfl (by kernel_rfl) (by kernel_rfl) (by kernel_rfl) (fun _ _ _ h => h) (Or.inr ⟨by kernel_rfl, rfl⟩) hS ?_
                try simp only [Act.put]
                refine wpAnyH_take (i := 11) (v := undef) rfl (by kernel_rfl) (by kernel_rfl) (by kernel_rfl) (fun _ _ _ h => h) (Or.inr ⟨by kernel_rfl, rfl⟩) hS ?_
                try simp only [Act.put]
                refine wpAnyH_take (i := 12) (v := undef) rfl (by kernel_rfl) (by kernel_rfl) (by kernel_rfl) (fun _ _ _ h => h) (Or.inr ⟨by kernel_rfl, rfl⟩) hS ?_
                try simp only [Act.put]
                refine wpAnyH_take (i := 13) (v := .bool true) rfl (by kernel_rfl) (by kernel_rfl) (by kernel_rfl) (fun _ _ _ h => h) (Or.inl ⟨by kernel_rfl, ?_⟩) hS ?_
                · rintro w' _; go_simp
                try simp only [Act.put]
                refine wpAnyH_done (by kernel_rfl) ?_ _
                try simp only [List.getElem_toArray, List.getElem_cons_succ, List.getElem_cons_zero]
                try simp only [List.setIfInBounds_toArray, List.set_cons_zero, List.set_cons_succ]
                have MF := Lib.hid hS
                clear hS
                go_wp2_with fail
                go_ret2
                exact ⟨by rw [HE.out]; rfl, MF.out⟩
              · have hXr : isR XX := (isR_valid XX).2 hv
                have HB8 := Lib.hid (encR_u8 XX hXr)
                obtain ⟨A, hA⟩ : ∃ A : ByteArray, A = ⟨((encR XX).map UInt8.ofNat).toArray⟩ := ⟨_, rfl⟩
                have HAE := Lib.hid (show A = s.extract 0 (k + 1) ↔ encR XX = (List.range (k + 1)).map (bt s) from by rw [hA]; exact bytes_eq s (k + 1) hn4 _ (fun x hx => HB8.out x hx))
                have HA := Lib.hid hA
                have hX2 : XX ≤ 1114111 := hXr.1
                clear hA
                refine wp_region_held_drew (S := fun w' => Mine.Mod none_ WW w') (by kernel_rfl) (Mine.Mod.drew (Mine.Mod.refl none_ WW)) (fun hS => ?_)
                refine wpAnyH_take (i := 0) (v := .int .i64 (XX : Int)) rfl (by kernel_rfl) (by kernel_rfl) (by kernel_rfl) (fun _ _ _ h => h) (Or.inl ⟨by kernel_rfl, ?_⟩) hS ?_
                · rintro w' _; go_simp
                try simp only [Act.put, List.setIfInBounds_toArray]
                refine wpAnyH_take (i := 1) (v := .int .i32 (XX : Int)) rfl (by kernel_rfl) (by kernel_rfl) (by kernel_rfl) (fun _ _ _ h => h) (Or.inl ⟨by kernel_rfl, ?_⟩) hS ?_
                · rintro w' _; go_simp
                try simp only [Act.put]
                refine wpAnyH_ready (rs := [2]) (by kernel_rfl) (by simp) (AllReadyH.cons rfl (fun K hK => ?_) <| AllReadyH.nil)
                go_simp
                refine (ris_any (XX : Int) _).mono ?_
                rintro e w1 ⟨rfl, rfl⟩
                rw [hv]
                refine hK.out _ _ hS (fun hS => ?_)
                clear hK K
                try simp only [Act.put, List.setIfInBounds_toArray, List.set_cons_zero, List.set_cons_succ]
                refine wpAnyH_take (i := 3) (v := .bool false) rfl (by kernel_rfl) (by kernel_rfl) (by kernel_rfl) (fun _ _ _ h => h) (Or.inl ⟨by kernel_rfl, ?_⟩) hS ?_
                · rintro w' _; go_simp
                try simp only [Act.put, List.setIfInBounds_toArray]
                refine wpAnyH_take (i := 4) (v := .bool false) rfl (by kernel_rfl) (by kernel_rfl) (by kernel_rfl) (fun _ _ _ h => h) (Or.inl ⟨by kernel_rfl, ?_⟩) hS ?_
                · rintro w' _; go_simp
                try simp only [Act.put]
                refine wpAnyH_take (i := 5) (v := .int .i64 (XX : Int)) rfl (by kernel_rfl) (by kernel_rfl) (by kernel_rfl) (fun _ _ _ h => h) (Or.inl ⟨by kernel_rfl, ?_⟩) hS ?_
                · rintro w' _; go_simp
                try simp only [Act.put]
                refine wpAnyH_take (i := 6) (v := .int .i32 (XX : Int)) rfl (by kernel_rfl) (by kernel_rfl) (by kernel_rfl) (fun _ _ _ h => h) (Or.inl ⟨by kernel_rfl, ?_⟩) hS ?_
                · rintro w' _; go_simp
                try simp only [Act.put]
                refine wpAnyH_take (i := 9) (v := .string s) rfl (by kernel_rfl) (by kernel_rfl) (by kernel_rfl) (fun _ _ _ h => h) (Or.inl ⟨by kernel_rfl, ?_⟩) hS ?_
                · rintro w' _; go_simp
                try simp only [Act.put]
                refine wpAnyH_take (i := 10) (v := .int .i64 ((k : Int) + 1)) rfl (by kernel_rfl) (by kernel_rfl) (by kernel_rfl) (fun _ _ _ h => h) (Or.inl ⟨by kernel_rfl, ?_⟩) hS ?_
                · rintro w' _; go_simp
                try simp only [Act.put]
                refine wpAnyH_take (i := 11) (v := .string (s.extract 0 (k + 1))) rfl (by kernel_rfl) (by kernel_rfl) (by kernel_rfl) (fun _ _ _ h => h) (Or.inl ⟨by kernel_rfl, ?_⟩) hS ?_
                · rintro w' _; go_simp <;> (intro h; exact absurd h hbn)
                try simp only [Act.put]
                refine wpAnyH_ready (rs := [7]) (by kernel_rfl) (by simp) (AllReadyH.cons rfl (fun K hK => ?_) <| AllReadyH.nil)
                rw [if_pos (by kernel_rfl)]
                go_simp
                refine (rbytes_any XX _ hX2).mono ?_
                rintro e w2 ⟨⟨g, rfl, hgw, kg⟩, m2⟩
                have hcv : (convert 189 9 (.slice (some ⟨g, 0, none⟩) (encR XX).length (encR XX).length)).run Tryz.prog w2 = .ok (.string A) w2 := by
                  have hl : ((encR XX).map UInt8.ofNat).length = (encR XX).length := List.length_map ..
                  rw [HA.out, ← hl]
                  refine run_convert_bytes_back w2 _ _ _ ⟨g, 0, none⟩ _ ((encR XX).map UInt8.ofNat) Tryz.underlying189 Tryz.underlying5 Tryz.underlying9 (fun j hj => ?_)
                  have ea : (⟨g, 0, none⟩ : Addr).add j = ⟨g, j, none⟩ := by rw [Addr.add_lit, Nat.zero_add]
                  rw [ea, kg.cell]
                  exact encCs_at XX HB8.out j hj
                have HCV := Lib.hid hcv
                clear hcv kg hgw
                obtain ⟨nb, hnb⟩ : ∃ nb, nb = (encR XX).length := ⟨_, rfl⟩
                rw [← hnb] at HCV ⊢
                clear hnb
                refine hK.out _ _ (hS.trans m2) (fun hS => ?_)
                clear hK K m2
                try simp only [Act.put, List.setIfInBounds_toArray, List.set_cons_zero, List.set_cons_succ]
                have hcv := HCV.out
                refine wpAnyH_ready (rs := [8]) (by kernel_rfl) (by simp) (AllReadyH.cons rfl (fun K hK => ?_) <| AllReadyH.nil)
                rw [if_pos (by kernel_rfl)]
                go_simp
                refine hK.out _ _ hS (fun hS => ?_)
                clear hK K hcv HCV
                try simp only [Act.put, List.setIfInBounds_toArray, List.set_cons_zero, List.set_cons_succ]
                have MF := Lib.hid hS
                by_cases hq : A = s.extract 0 (k + 1)
                · have HE := Lib.hid (show R = (XX, k + 1) by rw [HXA.out, if_pos ⟨hXr, HAE.out.1 hq⟩])
                  have hqb : A.toList = (s.extract 0 (k + 1)).toList := by rw [hq]
                  clear HXA HAE HA hq
                  refine wpAnyH_take (i := 12) (v := .bool false) rfl (by kernel_rfl) (by kernel_rfl) (by kernel_rfl) (fun _ _ _ h => h) (Or.inl ⟨by kernel_rfl, ?_⟩) hS ?_
                  · rintro w' _; go_simp
                  try simp only [Act.put, List.setIfInBounds_toArray]
                  refine wpAnyH_take (i := 13) (v := .bool false) rfl (by kernel_rfl) (by kernel_rfl) (by kernel_rfl) (fun _ _ _ h => h) (Or.inl ⟨by kernel_rfl, ?_⟩) hS ?_
                  · rintro w' _; go_simp
                  try simp only [Act.put]
                  refine wpAnyH_done (by kernel_rfl) ?_ _
                  try simp only [List.getElem_toArray, List.getElem_cons_succ, List.getElem_cons_zero]
                  try simp only [List.setIfInBounds_toArray, List.set_cons_zero, List.set_cons_succ]
                  clear hS
                  go_wp2_with fail
                  go_ret2
                  exact ⟨by rw [HE.out]; rfl, MF.out⟩
                · have HE := Lib.hid (show R = (0, 0) by rw [HXA.out, if_neg (fun e => hq (HAE.out.2 e.2))])
                  have hqb : ¬ A.toList = (s.extract 0 (k + 1)).toList := fun e => hq (ba_inj e)
                  clear HXA HAE HA hq
                  refine wpAnyH_take (i := 12) (v := .bool true) rfl (by kernel_rfl) (by kernel_rfl) (by kernel_rfl) (fun _ _ _ h => h) (Or.inl ⟨by kernel_rfl, ?_⟩) hS ?_
                  · rintro w' _; go_simp
                  try simp only [Act.put, List.setIfInBounds_toArray]
                  refine wpAnyH_take (i := 13) (v := .bool true) rfl (by kernel_rfl) (by kernel_rfl) (by kernel_rfl) (fun _ _ _ h => h) (Or.inl ⟨by kernel_rfl, ?_⟩) hS ?_
                  · rintro w' _; go_simp
                  try simp only [Act.put]
                  refine wpAnyH_done (by kernel_rfl) ?_ _
                  try simp only [List.getElem_toArray, List.getElem_cons_succ, List.getElem_cons_zero]
                  try simp only [List.setIfInBounds_toArray, List.set_cons_zero, List.set_cons_succ]
                  clear hS
                  go_wp2_with fail
                  go_ret2
                  exact ⟨by rw [HE.out]; rfl, MF.out⟩
        · have d1 : decide (192 ≤ (b : Int)) = true := by simp; omega
          have d2 : decide ((b : Int) < 224) = false := by simp; omega
          have d3 : decide (224 ≤ (b : Int)) = true := by simp; omega
          have d4 : decide ((b : Int) < 240) = false := by simp; omega
          have d6 : decide (240 ≤ (b : Int)) = true := by simp; omega
          have d7 : decide ((b : Int) < 248) = true := by simp; omega
          have HXE := Lib.hid (show (b : Int) - 240 = x0 by rw [HX0.out, if_neg (by omega), if_neg (by omega)])
          have HNE := Lib.hid (show (4 : Int) = n by omega)
          clear hn HX0
          go_upto_region 14 with fail
          rw [HXE.out, HNE.out]
          clear HXE HNE d1 d2 d3 d4 d6 d7 hb hb0 HB hb256
          have d5 : decide ((s.size : Int) < (n : Int)) = false := by simp; omega
          go_wp2_with fail
          have hn1 : 1 ≤ n := by have := HN1.out; omega
          go_loopg [4, 6] (n - 1) (fun g s4 s6 wx => ∃ k : Nat, g = n - (k + 1) ∧ s4 = .int .i64 (accR s x0 k) ∧ s6 = .int .i64 ((k : Int) + 1) ∧ k + 1 ≤ n ∧ wx = w ∧ RowKit.Hid (∀ j, 1 ≤ j → j < k + 1 → contB (bt s j)))
          case atStart => exact ⟨0, rfl, rfl, rfl, by omega, rfl, Lib.hid (fun j h1 h2 => by omega)⟩
          case round =>
            obtain ⟨k, rfl, rfl, rfl, hk, rfl, hct⟩ := hrel
            have hak := accR_lt s x0 hx128 k (by have := HN1.out; omega)
            by_cases hlk : k + 1 < n
            · have hlt : k + 1 < s.size := by omega
              obtain ⟨c, hc⟩ : ∃ c, (s[k + 1]'hlt).toNat = c := ⟨_, rfl⟩
              have HC := Lib.hid (show bt s (k + 1) = c by rw [← bt_eq s (k + 1) hlt, hc])
              have hc256 : c < 256 := by rw [← HC.out]; exact bt_lt s (k + 1)
              have d6 : decide ((k : Int) + 1 < (n : Int)) = true := by simp; omega
              by_cases hc1 : c < 128
              · have HE := Lib.hid (show R = (0, 0) by rw [HR.out, firstR_cont H0.out HL.out (j := k + 1) (by omega) hlk (by rw [HC.out]; unfold contB; omega)])
                have e1 : decide ((c : Int) < 128) = true := by simp; omega
                clear HL
                go_wp2_with fail
                go_ret2
                exact ⟨by rw [HE.out]; rfl, Mod.refl _ _⟩
              · by_cases hc2 : 191 < c
                · have HE := Lib.hid (show R = (0, 0) by rw [HR.out, firstR_cont H0.out HL.out (j := k + 1) (by omega) hlk (by rw [HC.out]; unfold contB; omega)])
                  have e1 : decide ((c : Int) < 128) = false := by simp; omega
                  have e2 : decide (191 < (c : Int)) = true := by simp; omega
                  clear HL
                  go_wp2_with fail
                  go_ret2
                  exact ⟨by rw [HE.out]; rfl, Mod.refl _ _⟩
                · have e1 : decide ((c : Int) < 128) = false := by simp; omega
                  have e2 : decide (191 < (c : Int)) = false := by simp; omega
                  have HCT := Lib.hid (show ∀ j, 1 ≤ j → j < k + 1 + 1 → contB (bt s j) from fun j h1 h2 => by
                    by_cases hj : j = k + 1
                    · subst hj; rw [HC.out]; unfold contB; omega
                    · exact hct.out j h1 (by omega))
                  have HAC := Lib.hid (show ((accR s x0 (k + 1) : Nat) : Int) = 64 * (accR s x0 k : Int) + (c : Int) - 128 by
                    have : accR s x0 (k + 1) = 64 * accR s x0 k + bt s (k + 1) - 128 := rfl
                    rw [this, HC.out]; omega)
                  clear hct
                  go_wp2_with fail
                  go_roundg (n - (k + 1 + 1))
                  all_goals first
                    | omega
                    | exact ⟨k + 1, rfl, by rw [HAC.out], by go_num, by omega, rfl, HCT⟩
            · obtain rfl : n = k + 1 := by omega
              have HXA := Lib.hid (show R = if isR (accR s x0 k) ∧ encR (accR s x0 k) = (List.range (k + 1)).map (bt s) then (accR s x0 k, k + 1) else (0, 0) by
                rw [HR.out, firstR_all H0.out HL.out hn4 hct.out]; rfl)
              clear hct hlk HL
              go_upto_region 22 with fail
              obtain ⟨XX, hXX⟩ : ∃ XX, XX = accR s x0 k := ⟨_, rfl⟩
              rw [← hXX]
              rw [← hXX] at HXA hak
              have hX := hak
              clear hXX hak d5
              obtain ⟨WW, rfl⟩ : ∃ WW, WW = wr := ⟨_, rfl⟩
              have hbn : ¬ ((0 ≤ (k : Int) + 1 → (s.size : Int) < (k : Int) + 1)) := by omega
              have hw32 : IntKind.i32.wrap (XX : Int) = XX := by rw [IntKind.wrap_i32]; omega
              cases hv : Lib.validRune (XX : Int)
              · have HE := Lib.hid (show R = (0, 0) by rw [HXA.out, if_neg (fun e => by have := (isR_valid XX).1 e.1; rw [hv] at this; cases this)])
                clear HXA
                refine wp_region_held_drew (S := fun w' => Mine.Mod none_ WW w') (by kernel_rfl) (Mine.Mod.drew (Mine.Mod.refl none_ WW)) (fun hS => ?_)
                refine wpAnyH_take (i := 0) (v := .int .i64 (XX : Int)) rfl (by kernel_rfl) (by kernel_rfl) (by kernel_rfl) (fun _ _ _ h => h) (Or.inl ⟨by kernel_rfl, ?_⟩) hS ?_
                · rintro w' _; go_simp
                try simp only [Act.put, List.setIfInBounds_toArray]
                refine wpAnyH_take (i := 1) (v := .int .i32 (XX : Int)) rfl (by kernel_rfl) (by kernel_rfl) (by kernel_rfl) (fun _ _ _ h => h) (Or.inl ⟨by kernel_rfl, ?_⟩) hS ?_
                · rintro w' _; go_simp
                try simp only [Act.put]
                refine wpAnyH_ready (rs := [2]) (by kernel_rfl) (by simp) (AllReadyH.cons rfl (fun K hK => ?_) <| AllReadyH.nil)
                go_simp
                refine (ris_any (XX : Int) _).mono ?_
                rintro e w1 ⟨rfl, rfl⟩
                rw [hv]
                refine hK.out _ _ hS (fun hS => ?_)
                clear hK K
                try simp only [Act.put, List.setIfInBounds_toArray, List.set_cons_zero, List.set_cons_succ]
                refine wpAnyH_take (i := 3) (v := .bool true) rfl (by kernel_rfl) (by kernel_rfl) (by kernel_rfl) (fun _ _ _ h => h) (Or.inl ⟨by kernel_rfl, ?_⟩) hS ?_
                · rintro w' _; go_simp
                try simp only [Act.put, List.setIfInBounds_toArray]
                refine wpAnyH_take (i := 4) (v := .bool true) rfl (by kernel_rfl) (by kernel_rfl) (by kernel_rfl) (fun _ _ _ h => h) (Or.inl ⟨by kernel_rfl, ?_⟩) hS ?_
                · rintro w' _; go_simp
                try simp only [Act.put]
                refine wpAnyH_take (i := 5) (v := undef) rfl (by kernel_rfl) (by kernel_rfl) (by kernel_rfl) (fun _ _ _ h => h) (Or.inr ⟨by kernel_rfl, rfl⟩) hS ?_
                try simp only [Act.put]
                refine wpAnyH_take (i := 6) (v := undef) rfl (by kernel_rfl) (by kernel_rfl) (by kernel_rfl) (fun _ _ _ h => h) (Or.inr ⟨by kernel_rfl, rfl⟩) hS ?_
                try simp only [Act.put]
                refine wpAnyH_take (i := 7) (v := undef) rfl (by kernel_rfl) (by kernel_rfl) (by kernel_rfl) (fun _ _ _ h => h) (Or.inr ⟨by kernel_rfl, rfl⟩) hS ?_
                try simp only [Act.put]
                refine wpAnyH_take (i := 8) (v := undef) rfl (by kernel_rfl) (by kernel_rfl) (by kernel_rfl) (fun _ _ _ h => h) (Or.inr ⟨by kernel_rfl, rfl⟩) hS ?_
                try simp only [Act.put]
                refine wpAnyH_take (i := 9) (v := undef) rfl (by kernel_rfl) (by kernel_rfl) (by kernel_rfl) (fun _ _ _ h => h) (Or.inr ⟨by kernel_rfl, rfl⟩) hS ?_
                try simp only [Act.put]
                refine wpAnyH_take (i := 10) (v := undef) rfl (by kernel_rfl) (by kernel_rfl) (by kernel_rfl) (fun _ _ _ h => h) (Or.inr ⟨by kernel_rfl, rfl⟩) hS ?_
                try simp only [Act.put]
                refine wpAnyH_take (i := 11) (v := undef) rfl (by kernel_rfl) (by kernel_rfl) (by kernel_rfl) (fun _ _ _ h => h) (Or.inr ⟨by kernel_rfl, rfl⟩) hS ?_
                try simp only [Act.put]
                refine wpAnyH_take (i := 12) (v := undef) rfl (by kernel_rfl) (by kernel_rfl) (by kernel_rfl) (fun _ _ _ h => h) (Or.inr ⟨by kernel_rfl, rfl⟩) hS ?_
                try simp only [Act.put]
                refine wpAnyH_take (i := 13) (v := .bool true) rfl (by kernel_rfl) (by kernel_rfl) (by kernel_rfl) (fun _ _ _ h => h) (Or.inl ⟨by kernel_rfl, ?_⟩) hS ?_
                · rintro w' _; go_simp
                try simp only [Act.put]
                refine wpAnyH_done (by kernel_rfl) ?_ _
                try simp only [List.getElem_toArray, List.getElem_cons_succ, List.getElem_cons_zero]
                try simp only [List.setIfInBounds_toArray, List.set_cons_zero, List.set_cons_succ]
                have MF := Lib.hid hS
                clear hS
                go_wp2_with fail
                go_ret2
                exact ⟨by rw [HE.out]; rfl, MF.out⟩
              · have hXr : isR XX := (isR_valid XX).2 hv
                have HB8 := Lib.hid (encR_u8 XX hXr)
                obtain ⟨A, hA⟩ : ∃ A : ByteArray, A = ⟨((encR XX).map UInt8.ofNat).toArray⟩ := ⟨_, rfl⟩
                have HAE := Lib.hid (show A = s.extract 0 (k + 1) ↔ encR XX = (List.range (k + 1)).map (bt s) from by rw [hA]; exact bytes_eq s (k + 1) hn4 _ (fun x hx => HB8.out x hx))
                have HA := Lib.hid hA
                have hX2 : XX ≤ 1114111 := hXr.1
                clear hA
                refine wp_region_held_drew (S := fun w' => Mine.Mod none_ WW w') (by kernel_rfl) (Mine.Mod.drew (Mine.Mod.refl none_ WW)) (fun hS => ?_)
                refine wpAnyH_take (i := 0) (v := .int .i64 (XX : Int)) rfl (by kernel_rfl) (by kernel_rfl) (by kernel_rfl) (fun _ _ _ h => h) (Or.inl ⟨by kernel_rfl, ?_⟩) hS ?_
                · rintro w' _; go_simp
                try simp only [Act.put, List.setIfInBounds_toArray]
                refine wpAnyH_take (i := 1) (v := .int .i32 (XX : Int)) rfl (by kernel_rfl) (by kernel_rfl) (by kernel_rfl) (fun _ _ _ h => h) (Or.inl ⟨by kernel_rfl, ?_⟩) hS ?_
                · rintro w' _; go_simp
                try simp only [Act.put]
                refine wpAnyH_ready (rs := [2]) (by kernel_rfl) (by simp) (AllReadyH.cons rfl (fun K hK => ?_) <| AllReadyH.nil)
                go_simp
                refine (ris_any (XX : Int) _).mono ?_
                rintro e w1 ⟨rfl, rfl⟩
                rw [hv]
                refine hK.out _ _ hS (fun hS => ?_)
                clear hK K
                try simp only [Act.put, List.setIfInBounds_toArray, List.set_cons_zero, List.set_cons_succ]
                refine wpAnyH_take (i := 3) (v := .bool false) rfl (by kernel_rfl) (by kernel_rfl) (by kernel_rfl) (fun _ _ _ h => h) (Or.inl ⟨by kernel_rfl, ?_⟩) hS ?_
                · rintro w' _; go_simp
                try simp only [Act.put, List.setIfInBounds_toArray]
                refine wpAnyH_take (i := 4) (v := .bool false) rfl (by kernel_rfl) (by kernel_rfl) (by kernel_rfl) (fun _ _ _ h => h) (Or.inl ⟨by kernel_rfl, ?_⟩) hS ?_
                · rintro w' _; go_simp
                try simp only [Act.put]
                refine wpAnyH_take (i := 5) (v := .int .i64 (XX : Int)) rfl (by kernel_rfl) (by kernel_rfl) (by kernel_rfl) (fun _ _ _ h => h) (Or.inl ⟨by kernel_rfl, ?_⟩) hS ?_
                · rintro w' _; go_simp
                try simp only [Act.put]
                refine wpAnyH_take (i := 6) (v := .int .i32 (XX : Int)) rfl (by kernel_rfl) (by kernel_rfl) (by kernel_rfl) (fun _ _ _ h => h) (Or.inl ⟨by kernel_rfl, ?_⟩) hS ?_
                · rintro w' _; go_simp
                try simp only [Act.put]
                refine wpAnyH_take (i := 9) (v := .string s) rfl (by kernel_rfl) (by kernel_rfl) (by kernel_rfl) (fun _ _ _ h => h) (Or.inl ⟨by kernel_rfl, ?_⟩) hS ?_
                · rintro w' _; go_simp
                try simp only [Act.put]
                refine wpAnyH_take (i := 10) (v := .int .i64 ((k : Int) + 1)) rfl (by kernel_rfl) (by kernel_rfl) (by kernel_rfl) (fun _ _ _ h => h) (Or.inl ⟨by kernel_rfl, ?_⟩) hS ?_
                · rintro w' _; go_simp
                try simp only [Act.put]
                refine wpAnyH_take (i := 11) (v := .string (s.extract 0 (k + 1))) rfl (by kernel_rfl) (by kernel_rfl) (by kernel_rfl) (fun _ _ _ h => h) (Or.inl ⟨by kernel_rfl, ?_⟩) hS ?_
                · rintro w' _; go_simp <;> (intro h; exact absurd h hbn)
                try simp only [Act.put]
                refine wpAnyH_ready (rs := [7]) (by kernel_rfl) (by simp) (AllReadyH.cons rfl (fun K hK => ?_) <| AllReadyH.nil)
                rw [if_pos (by kernel_rfl)]
                go_simp
                refine (rbytes_any XX _ hX2).mono ?_
                rintro e w2 ⟨⟨g, rfl, hgw, kg⟩, m2⟩
                have hcv : (convert 189 9 (.slice (some ⟨g, 0, none⟩) (encR XX).length (encR XX).length)).run Tryz.prog w2 = .ok (.string A) w2 := by
                  have hl : ((encR XX).map UInt8.ofNat).length = (encR XX).length := List.length_map ..
                  rw [HA.out, ← hl]
                  refine run_convert_bytes_back w2 _ _ _ ⟨g, 0, none⟩ _ ((encR XX).map UInt8.ofNat) Tryz.underlying189 Tryz.underlying5 Tryz.underlying9 (fun j hj => ?_)
                  have ea : (⟨g, 0, none⟩ : Addr).add j = ⟨g, j, none⟩ := by rw [Addr.add_lit, Nat.zero_add]
                  rw [ea, kg.cell]
                  exact encCs_at XX HB8.out j hj
                have HCV := Lib.hid hcv
                clear hcv kg hgw
                obtain ⟨nb, hnb⟩ : ∃ nb, nb = (encR XX).length := ⟨_, rfl⟩
                rw [← hnb] at HCV ⊢
                clear hnb
                refine hK.out _ _ (hS.trans m2) (fun hS => ?_)
                clear hK K m2
                try simp only [Act.put, List.setIfInBounds_toArray, List.set_cons_zero, List.set_cons_succ]
                have hcv := HCV.out
                refine wpAnyH_ready (rs := [8]) (by kernel_rfl) (by simp) (AllReadyH.cons rfl (fun K hK => ?_) <| AllReadyH.nil)
                rw [if_pos (by kernel_rfl)]
                go_simp
                refine hK.out _ _ hS (fun hS => ?_)
                clear hK K hcv HCV
                try simp only [Act.put, List.setIfInBounds_toArray, List.set_cons_zero, List.set_cons_succ]
                have MF := Lib.hid hS
                by_cases hq : A = s.extract 0 (k + 1)
                · have HE := Lib.hid (show R = (XX, k + 1) by rw [HXA.out, if_pos ⟨hXr, HAE.out.1 hq⟩])
                  have hqb : A.toList = (s.extract 0 (k + 1)).toList := by rw [hq]
                  clear HXA HAE HA hq
                  refine wpAnyH_take (i := 12) (v := .bool false) rfl (by kernel_rfl) (by kernel_rfl) (by kernel_rfl) (fun _ _ _ h => h) (Or.inl ⟨by kernel_rfl, ?_⟩) hS ?_
                  · rintro w' _; go_simp
                  try simp only [Act.put, List.setIfInBounds_toArray]
                  refine wpAnyH_take (i := 13) (v := .bool false) rfl (by kernel_rfl) (by kernel_rfl) (by kernel_rfl) (fun _ _ _ h => h) (Or.inl ⟨by kernel_rfl, ?_⟩) hS ?_
                  · rintro w' _; go_simp
                  try simp only [Act.put]
                  refine wpAnyH_done (by kernel_rfl) ?_ _
                  try simp only [List.getElem_toArray, List.getElem_cons_succ, List.getElem_cons_zero]
                  try simp only [List.setIfInBounds_toArray, List.set_cons_zero, List.set_cons_succ]
                  clear hS
                  go_wp2_with fail
                  go_ret2
                  exact ⟨by rw [HE.out]; rfl, MF.out⟩
                · have HE := Lib.hid (show R = (0, 0) by rw [HXA.out, if_neg (fun e => hq (HAE.out.2 e.2))])
                  have hqb : ¬ A.toList = (s.extract 0 (k + 1)).toList := fun e => hq (ba_inj e)
                  clear HXA HAE HA hq
                  refine wpAnyH_take (i := 12) (v := .bool true) rfl (by kernel_rfl) (by kernel_rfl) (by kernel_rfl) (fun _ _ _ h => h) (Or.inl ⟨by kernel_rfl, ?_⟩) hS ?_
                  · rintro w' _; go_simp
                  try simp only [Act.put, List.setIfInBounds_toArray]
                  refine wpAnyH_take (i := 13) (v := .bool true) rfl (by kernel_rfl) (by kernel_rfl) (by kernel_rfl) (fun _ _ _ h => h) (Or.inl ⟨by kernel_rfl, ?_⟩) hS ?_
                  · rintro w' _; go_simp
                  try simp only [Act.put]
                  refine wpAnyH_done (by kernel_rfl) ?_ _
                  try simp only [List.getElem_toArray, List.getElem_cons_succ, List.getElem_cons_zero]
                  try simp only [List.setIfInBounds_toArray, List.set_cons_zero, List.set_cons_succ]
                  clear hS
                  go_wp2_with fail
                  go_ret2
                  exact ⟨by rw [HE.out]; rfl, MF.out⟩
end Go.Proofs.YthicagfeaekmoaaGreatDoor

namespace Go.Proofs.YthicagfeaekmoaaGreatDoor
open Go.RowKit Go.Shelf Go.Mine

/-- What the document's Split leaves. -/
def RSplitTo (w : World) (R : Option (List Nat)) (e : Ending) (w' : World) : Prop := Mine.Mod none_ w w' ∧ (R = none → e = .returned (.tuple #[.slice none 0 0, .bool false])) ∧ ∀ rs, R = some rs → ∃ v, e = .returned (.tuple #[v, .bool true]) ∧ w'.ownsRow w.heap.size 21 1 v rs.length (runeCs rs)
theorem firstR_bad {t : ByteArray} (hb : bad1 t) : firstR t = (0, 0) := by unfold firstR; rw [if_pos hb]
theorem firstR_ok {t : ByteArray} (hb : ¬ bad1 t) : firstR t = Lib.decodeGo t := by unfold firstR; rw [if_neg hb]
theorem tl_zero (s : ByteArray) : tl s 0 = s := by unfold tl; simp

set_option maxHeartbeats 4000000 in
set_option maxRecDepth 1000000 in
theorem rsplit_any (s : ByteArray) (w : World) (hsz : s.size ≤ 1099511627776) :
    Calls Tryz.prog 121 #[.string s] w (RSplitTo w (runesOf s)) := by
  obtain ⟨i0, hi0, hz0, hz1, hz2⟩ := info_parts infoI32
  have HI0 := Lib.hid hi0
  have HZ0 := Lib.hid hz0
  have HZ1 := Lib.hid hz1
  have HZ2 := Lib.hid hz2
  obtain ⟨R, hR⟩ : ∃ R, R = runesOf s := ⟨_, rfl⟩
  rw [← hR]
  have HS := Lib.hid (show R = (runesOf (tl s 0)).map ([] ++ ·) by rw [hR, tl_zero]; cases runesOf s <;> rfl)
  clear hi0 hz0 hz1 hz2 hR
  go_enter Tryz.func121, Tryz.ntmps121
  go_wp2_with fail
  go_loopg [0, 4] (s.size + 1) (fun g s0 s4 wx => ∃ (pos : Nat) (pre : List Nat), g = s.size + 1 - pos ∧ s0 = .string (tl s pos) ∧ Mine.Mod none_ w wx ∧ pre.length ≤ pos ∧ wx.ownsRow w.heap.size 21 1 s4 pre.length (runeCs pre) ∧ RowKit.Hid (pos ≤ s.size ∧ R = (runesOf (tl s pos)).map (pre ++ ·)))
  case atStart => exact ⟨0, [], rfl, by rw [tl_zero], Mine.Mod.refl _ _, Nat.zero_le _, ⟨rfl, .inl ⟨rfl, rfl⟩⟩, Lib.hid ⟨Nat.zero_le _, HS.out⟩⟩
  case round =>
    obtain ⟨pos, pre, rfl, rfl, mx, hpl, ox, hst⟩ := hrel
    obtain ⟨hps, hrs⟩ := hst.out
    have MX := Lib.hid mx
    have OX := Lib.hid ox
    obtain ⟨t, ht⟩ : ∃ t, t = tl s pos := ⟨_, rfl⟩
    have hts : t.size = s.size - pos := by rw [ht, tl_size]
    rw [← ht] at hrs ⊢
    have HT := Lib.hid ht
    have HTS := Lib.hid hts
    by_cases h0 : t.size = 0
    · have HRS := Lib.hid (show R = some pre by rw [hrs, runesOf_nil h0]; simp)
      have hd : decide (0 < t.size) = false := by simp [h0]
      clear hst hrs mx ox ht hts h0
      go_wp2_with fail
      go_ret2
      exact ⟨MX.out, (fun h => by rw [HRS.out] at h; cases h), fun rs' h => by rw [HRS.out] at h; obtain rfl := Option.some.inj h; exact ⟨_, rfl, OX.out⟩⟩
    · have hd : decide (0 < t.size) = true := by simp; omega
      have h1 := rfirst_any t wr h0 (by omega)
      by_cases hb : bad1 t
      · have HRS := Lib.hid (show R = none by rw [hrs, runesOf_bad h0 hb]; rfl)
        rw [firstR_bad hb] at h1
        have HF := Lib.hid h1
        clear hst hrs mx ox ht hts h0 hb h1
        go_wp2_with fail
        refine HF.out.mono ?_
        rintro e w1 ⟨rfl, m1⟩
        have M1 := Lib.hid (MX.out.trans m1)
        clear m1
        go_wp2_with fail
        go_ret2
        exact ⟨M1.out, fun _ => rfl, fun rs' h => by rw [HRS.out] at h; cases h⟩
      · have hdp := decodeGo_pos h0
        rw [firstR_ok hb] at h1
        rw [runesOf_step h0 hb] at hrs
        obtain ⟨r, hr⟩ : ∃ r, r = (Lib.decodeGo t).1 := ⟨_, rfl⟩
        obtain ⟨nb, hnb⟩ : ∃ nb, nb = (Lib.decodeGo t).2 := ⟨_, rfl⟩
        rw [← hr, ← hnb] at h1
        rw [← hr, ← hnb] at hrs
        rw [← hnb] at hdp
        have HF := Lib.hid h1
        have hnb0 : ((nb : Int) == 0) = false := by rw [beq_eq_false_iff_ne]; omega
        have hnbs : ¬ ((t.size : Int) < (nb : Int)) := by omega
        have HST := Lib.hid (show pos + nb ≤ s.size ∧ R = (runesOf (tl s (pos + nb))).map ((pre ++ [r]) ++ ·) from ⟨by omega, by
          rw [hrs, ht, tl_tl]
          cases runesOf (tl s (pos + nb)) <;> simp⟩)
        have HTL := Lib.hid (show t.extract nb t.size = tl s (pos + nb) by rw [ht]; exact tl_tl s pos nb)
        have hnb1 := hdp.1
        clear hst hrs mx ox ht hts h0 hb hr hnb h1 hdp
        go_wp2_with fail
        refine HF.out.mono ?_
        rintro e w1 ⟨rfl, m1⟩
        have M1 := Lib.hid (MX.out.trans m1)
        have O1 := Lib.hid (ownsRow_mod OX.out m1 (fun _ _ e => e))
        clear m1
        have hsz1 := M1.out.size
        go_wp2_with (at_builtin; refine wpList_append_own _ rfl (.tmp 17) (.tmp 19) 145 rfl w.heap.size 21 i0 _ 1 4 Tryz.underlying145 HI0.out HZ0.out HZ1.out HZ2.out rfl (by decide) _ _ _ rfl (O1.out.alloc _) ⟨w1.heap.size, 0, none⟩ 1 1 [.int .i32 (r : Int)] rfl rfl (World.news_of_block (heap_alloc_new w1 _)) (fun u hu => by rw [List.mem_singleton.1 hu]; rfl) (by unfold maxLen; omega) (by omega) (by rw [World.size_alloc]; omega) ?_; intro v' w5 ho5 hg5 _; have M5 := Lib.hid ((M1.out.alloc (.cells #[.int .i32 (r : Int)] 21)).grown hg5 (fun j e hj => absurd hj (by have := (O1.out.lt j e).1; omega))); have O5 := Lib.hid ho5; clear ho5 hg5)
        go_roundg (s.size + 1 - (pos + nb))
        case measure => omega
        case rel =>
          refine ⟨pos + nb, pre ++ [r], rfl, by rw [← HTL.out], M5.out, by simp; omega, ?_, HST⟩
          have := O5.out
          simpa using this

theorem rlen_any (s : ByteArray) (w : World) (hsz : s.size ≤ 1099511627776) : Calls Tryz.prog 122 #[.string s] w fun e w' => e = .returned (.int .i64 (ulen s)) ∧ Mine.Mod none_ w w' := by
  have HS := Lib.hid (rsplit_any s w hsz)
  go_enter Tryz.func122, Tryz.ntmps122
  go_wp2_with fail
  refine HS.out.mono ?_
  rintro e w1 ⟨m1, hno, hso⟩
  have M1 := Lib.hid m1
  cases hR : runesOf s with
  | none =>
    obtain rfl := hno hR
    have HE := Lib.hid (ulen_none hR)
    clear hno hso m1 hR
    go_wp2_with fail
    go_ret
    exact ⟨by rw [HE.out]; rfl, M1.out⟩
  | some rs =>
    obtain ⟨v, rfl, ho⟩ := hso rs hR
    have HE := Lib.hid (ulen_some hR)
    obtain ⟨va, vc, rfl⟩ : ∃ va vc, v = .slice va rs.length vc := by
      rcases ownsRow_blk ho with ⟨h1, h2, _⟩ | ⟨g, cap, more, h1, _⟩
      · exact ⟨none, 0, by rw [h1, h2]⟩
      · exact ⟨_, _, h1⟩
    obtain ⟨L, hL⟩ : ∃ L, L = rs.length := ⟨_, rfl⟩
    rw [← hL] at HE ⊢
    clear hno hso m1 hR ho hL
    go_wp2_with fail
    go_ret
    exact ⟨by rw [HE.out]; rfl, M1.out⟩
end Go.Proofs.YthicagfeaekmoaaGreatDoor
