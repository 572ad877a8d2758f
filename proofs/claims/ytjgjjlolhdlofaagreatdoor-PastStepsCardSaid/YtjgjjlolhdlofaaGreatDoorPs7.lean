/-
  Texts on which the claim rests, one behind the other: Pas13 Pas14 RowK.
-/
import Derived.Test.YtjgjjlolhdlofaaGreatDoorPs6
import Derived.Test.YtjgjjlolhdlofaaGreatDoorRows
import Derived.Test.YtjgjjlolhdlofaaGreatDoorCards
import Derived.Test.YtjgjjlolhdlofaaGreatDoorTie
import Derived.ProofKit
import Derived.OpenShut
import Derived.LaidMore
import Derived.Lay
import Derived.SevenTiedAt
import Derived.Stop.Joined
import Derived.Lib.LaidU8T
import Derived.PinnedBridge
import Derived.Lib.SmallJoins

set_option linter.unusedSimpArgs false
set_option linter.unusedVariables false

namespace Go.Proofs.YtjgjjlolhdlofaaGreatDoor
open Go.RowKit Go.Shelf Go.Mine
open Classical
attribute [local go_sem ↓] app_fold

theorem infoRStep : (Tryz.prog.info? 46).map (fun i => (i.zero, i.size, i.bytes)) = some (some (.agg #[.int .i64 0, .int .i64 0, .int .i64 0, .int .i64 0, .string ⟨#[]⟩, .string ⟨#[]⟩]), 6, 64) := by kernel_rfl
/-- A rune's bytes, turned to a text. -/
theorem conv_bytes1 (w : World) (g n : Nat) (hv : Lib.validRune (n : Int) = true) (kg : Blk w g (encCs n) 5) : (convert 89 9 (.slice (some ⟨g, 0, none⟩) (encR n).length (encR n).length)).run Tryz.prog w = .ok (.string (txt [(n : Int)])) w := by
  have hbl : (bytesOf [(n : Int)]).length = (encR n).length := by
    rw [encR_len n hv, ← List.length_map (f := fun b : UInt8 => Value.int .u8 (b.toNat : Int)), bytesOf_cells]; simp
  rw [← hbl]
  refine run_convert_bytes_back w _ _ _ ⟨g, 0, none⟩ _ (bytesOf [(n : Int)]) Tryz.underlying89 Tryz.underlying5 Tryz.underlying9 (fun j hj => ?_)
  have ea : (⟨g, 0, none⟩ : Addr).add j = ⟨g, j, none⟩ := by rw [Addr.add_lit, Nat.zero_add]
  have e2 : encCs n = (bytesOf [(n : Int)]).map (fun b => Value.int .u8 (b.toNat : Int)) := by rw [bytesOf_cells, encCs_cells n hv]; simp
  rw [ea, kg.cell, e2, List.getElem?_map, List.getElem?_eq_getElem hj]
  rfl
theorem liveR_at {L : List CellV} {p : Nat} {c : CellV} (hc : L[p]? = some c) (hg : c.gone = false) : (liveR L).drop (seenN L p) = c.r :: (liveR L).drop (seenN L p + 1) := by
  obtain ⟨hp, e⟩ := List.getElem?_eq_some_iff.1 hc
  have h1 : L = L.take p ++ c :: L.drop (p + 1) := by rw [← e, ← List.drop_eq_getElem_cons hp, List.take_append_drop]
  have h2 : liveR L = liveR (L.take p) ++ c.r :: liveR (L.drop (p + 1)) := by
    conv => lhs; rw [h1]
    rw [liveR_append, liveR_cons, hg]; rfl
  have h3 : seenN L p = (liveR (L.take p)).length := by unfold seenN; rw [liveR_len]
  have h4 : (liveR L)[seenN L p]? = some c.r := by rw [h2, h3, List.getElem?_append_right (Nat.le_refl _), Nat.sub_self]; rfl
  exact drop_cons h4
theorem own_setrow {W : World} {n vc : Nat} {va : Option Addr} {B : Nat} {xs : List Value} {t : TypeId} {cs : List Value} {P : Nat} (h : W.ownsRow B 46 6 (.slice va n vc) n xs) (k : Blk W P cs t) (ht : t ≠ 46) : ∀ j, (Value.slice va n vc).ownBlock = some j → P ≠ j := fun j hj e => by
  subst e
  rcases ownsRow_blk h with ⟨h, _, _⟩ | ⟨g, cap, more, h, _, hb, _⟩
  · rw [h] at hj; cases hj
  · rw [h] at hj
    have h1 : g = P := Option.some.inj hj
    subst h1
    have e := hb.symm.trans k
    simp at e
    exact ht e.2.symm
/-- A step more, in the document's row. -/
theorem rapp {W : World} {B n vc : Nat} {va : Option Addr} {T : List StepV} {y : StepV} (ho : W.ownsRow B 46 6 (.slice va n vc) n (flat StepV.cs T)) (hb : n ≤ 1000000) (hB : B ≤ W.heap.size) :
    ∃ va' vc' w', (Builtin.append_ #[39, 39] 39 #[.slice va n vc, .slice (some ⟨W.heap.size, 0, none⟩) 1 1]).run Tryz.prog (W.alloc (.cells y.cs.toArray 46)) = .ok (.slice va' (n + 1) vc') w' ∧
      w'.ownsRow B 46 6 (.slice va' (n + 1) vc') (n + 1) (flat StepV.cs (T ++ [y])) ∧ Mine.Mod (fun k => (Value.slice va n vc).ownBlock = some k) W w' := by
  have mA := (Mine.Mod.refl none_ W).alloc (.cells y.cs.toArray 46)
  obtain ⟨va', vc', w', hrun, hown, mg⟩ := app_gen (P := Tryz.prog) (W := W.alloc (.cells y.cs.toArray 46)) (t := 39) (e := 46) Tryz.underlying39 infoRStep rfl (by decide) (cs := y.cs) rfl (StepV.ones y) (ownsRow_mod ho mA (fun _ _ e => e)) Blk.new hb (by decide) (by rw [World.size_alloc]; omega)
  refine ⟨va', vc', w', hrun, ?_, (mA.mono (fun _ _ e => e.elim)).trans mg⟩
  rw [flat_append]
  have e : flat StepV.cs [y] = y.cs := by simp [flat]
  rw [e]
  exact hown

theorem cells_other {W W' : World} {n vc on oc : Nat} {va oa : Option Addr} {B : Nat} {xs : List Value} {L : List CellV} (h : IsCells W va n vc L) (ho : W.ownsRow B 46 6 (.slice oa on oc) on xs) (hb : ∀ b off, va = some ⟨b, off, none⟩ → 0 < n → (Value.slice oa on oc).ownBlock ≠ some b) (m : Mine.Mod (fun k => (Value.slice oa on oc).ownBlock = some k) W W') : IsCells W' va n vc L :=
  ⟨h.n, h.le, h.big, h.ok, fun i c hc => by
    obtain ⟨b, off, e, hr⟩ := h.cells i c hc
    exact ⟨b, off, e, fun j v hv => m.cell (hb b off e (by have := (List.getElem?_eq_some_iff.1 hc).1; have := h.n; omega)) (hr j v hv)⟩⟩
/-- The cells lie ahead of all that is made, or in a row of cells. -/
def cellRow (w W : World) (va : Option Addr) (n : Nat) : Prop := ∀ b off, va = some ⟨b, off, none⟩ → 0 < n → b < w.heap.size ∨ ∃ cs, Blk W b cs 53
theorem cellRow.grown {w W W' : World} {va : Option Addr} {n : Nat} (h : cellRow w W va n) (m : Mine.Mod none_ W W') : cellRow w W' va n := fun b off e hn => (h b off e hn).imp id (fun ⟨cs, k⟩ => ⟨cs, k.mod m (fun e => e)⟩)
/-- Where the document's Steps stands: the cells, what was told. -/
def outI (w : World) (K : Nat) (hv : HistV) (L : List CellV) (va : Option Addr) (n vc : Nat) (T : List StepV) (oa : Option Addr) (on oc : Nat) (W : World) : Prop :=
  Mine.Mod none_ w W ∧ Blk W K hv.cs 26 ∧ IsCells W va n vc L ∧ cellRow w W va n ∧ W.ownsRow w.heap.size 46 6 (.slice oa on oc) on (flat StepV.cs T)
theorem outI.grown {w W W' : World} {K : Nat} {hv : HistV} {L : List CellV} {va oa : Option Addr} {n vc on oc : Nat} {T : List StepV} (h : outI w K hv L va n vc T oa on oc W) (m : Mine.Mod none_ W W') : outI w K hv L va n vc T oa on oc W' :=
  ⟨h.1.trans m, h.2.1.mod m (fun e => e), h.2.2.1.grown m, h.2.2.2.1.grown m, ownsRow_mod h.2.2.2.2 m (fun _ _ e => e)⟩
theorem outI.len {w W : World} {K : Nat} {hv : HistV} {L : List CellV} {va oa : Option Addr} {n vc on oc : Nat} {T : List StepV} (h : outI w K hv L va n vc T oa on oc W) : T.length = on := by
  have h1 := h.2.2.2.2.1
  rw [flat_length StepV.len] at h1
  omega
theorem outI.add {w W : World} {K : Nat} {hv : HistV} {L : List CellV} {va oa oa' : Option Addr} {n vc on oc oc' : Nat} {T : List StepV} {y : StepV} {W6 : World} (h : outI w K hv L va n vc T oa on oc W)
    (hown : W6.ownsRow w.heap.size 46 6 (.slice oa' (on + 1) oc') (on + 1) (flat StepV.cs (T ++ [y]))) (mx : Mine.Mod (fun k => (Value.slice oa on oc).ownBlock = some k) W W6) : outI w K hv L va n vc (T ++ [y]) oa' (on + 1) oc' W6 := by
  obtain ⟨h1, h2, h3, h4, h5⟩ := h
  have hT : ∀ {b : Nat} {cs : List Value} {t : TypeId}, Blk W b cs t → t ≠ 46 → ¬ (Value.slice oa on oc).ownBlock = some b := fun k ht e => own_setrow h5 k ht _ e rfl
  refine ⟨h1.transIn mx (fun b hb e => by have := (own_ge h5 b e).1; omega), h2.mod mx (hT h2 (by decide)), ?_, fun b off e hn => ?_, hown⟩
  · refine cells_other h3 h5 (fun b off e hn => ?_) mx
    rcases h4 b off e hn with hb | ⟨cs, k⟩
    · exact fun e2 => by have := (own_ge h5 b e2).1; omega
    · exact hT k (by decide)
  · rcases h4 b off e hn with hb | ⟨cs, k⟩
    · exact .inl hb
    · exact .inr ⟨cs, k.mod mx (hT k (by decide))⟩

set_option maxHeartbeats 16000000 in
set_option maxRecDepth 1000000 in
theorem rsteps_any (w : World) (h : HistV) (B : List CellV) (V : List Int) (E : List EntV) (hh : HistIs w h B V E) (hl : h.bl ≤ 1000) (hT : ∀ x ∈ E, x.o.text.size ≤ 1099511627776) (hsp : ∀ x ∈ E, x.sp.length ≤ 1000) (hm : histOk h B V E = true) :
    Calls Tryz.prog 14 #[h.v] w fun e w' => (∃ va n vc, e = .returned (.slice va n vc) ∧ w'.ownsRow w.heap.size 46 6 (.slice va n vc) n (flat StepV.cs (pastL B E E.length))) ∧ Mine.Mod none_ w w' := by
  have hle := hh.e.le
  have hcap := hh.e.big
  unfold maxLen at hcap
  have hll := (histOk_nums hm).2.2.2
  have HRP := Lib.hid (histOk_rep hm hh.b.n)
  have HGD := Lib.hid (show ∀ k, k ≤ E.length → Good (repL B (E.take k)) from good_rep (Good.of HRP.out.1 hh.b.ok (by have := hh.b.n; omega)) HRP.out.2 (fun x hx => ⟨(hh.e.ok x hx).1.i1, (hh.e.ok x hx).1.i2⟩))
  have HB := Lib.hid hh.b
  have HE := Lib.hid hh.e
  have HT := Lib.hid hT
  have HSP := Lib.hid hsp
  have HEN := Lib.hid hh.e.n
  have HBLT := Lib.hid (show ∀ b off, h.ba = some ⟨b, off, none⟩ → 0 < h.bl → b < w.heap.size from fun b off e hn => by
    obtain ⟨b', off', e', hr⟩ := hh.b.cells 0 (B[0]'(by rw [hh.b.n]; exact hn)) (by simp)
    rw [e] at e'; cases e'
    have := hr 0 _ rfl
    exact block_lt_of_cell this)
  clear hh hT hsp hm
  obtain ⟨xba, xbl, xbc, xva, xvl, xvc, xfr, xnum, xla, xll, xlc⟩ := h
  dsimp only [HistV.v] at hle hcap hl HEN hll HRP HB HE HBLT ⊢
  obtain ⟨W0, hW0⟩ : ∃ W0, w.alloc (.cells #[.slice xba xbl xbc, .slice xva xvl xvc, .int .i64 xfr, .int .i64 xnum, .slice xla xll xlc] 26) = W0 := ⟨_, rfl⟩
  have m0 : Mine.Mod none_ w W0 := by rw [← hW0]; exact (Mine.Mod.refl none_ w).alloc _
  have k0 : Blk W0 (w.heap.size) [.slice xba xbl xbc, .slice xva xvl xvc, .int .i64 xfr, .int .i64 xnum, .slice xla xll xlc] 26 := by
    have hb := Blk.new (w := w) (cs := [.slice xba xbl xbc, .slice xva xvl xvc, .int .i64 xfr, .int .i64 xnum, .slice xla xll xlc]) (t := 26)
    rw [← hW0]
    exact hb.mod (Mine.Mod.refl none_ _) (fun e => e)
  have hs0 : W0.heap.size = w.heap.size + 1 := by rw [← hW0]; simp only [World.size_alloc]
  have a0 := k0.cell 0
  have a1 := k0.cell 1
  have a2 := k0.cell 2
  have a3 := k0.cell 3
  have a4 := k0.cell 4
  simp only [List.getElem?_cons_zero, List.getElem?_cons_succ] at a0 a1 a2 a3 a4
  have M0 := Lib.hid m0
  have K0 := Lib.hid k0
  have HW := Lib.hid hW0
  clear m0 k0 hs0 hW0
  go_enter Tryz.func14, Tryz.ntmps14
  go_upto_region 1 with fail
  rw [HW.out]
  go_wp2_with fail
  clear a0 a1 a2 a3 a4
  go_loopg [3, 4, 5] xll (fun g s3 s4 s5 wx => ∃ (k : Nat) (va : Option Addr) (n vc : Nat) (oa : Option Addr) (on oc : Nat), g = xll - k ∧ s3 = .slice oa on oc ∧ s4 = .slice va n vc ∧ s5 = .int .i64 (k : Int) ∧ k ≤ xll ∧ RowKit.Hid (outI w w.heap.size ⟨xba, xbl, xbc, xva, xvl, xvc, xfr, xnum, xla, xll, xlc⟩ (repL B (E.take k)) va n vc (pastL B E k) oa on oc wx))
  case atStart => exact ⟨0, xba, xbl, xbc, none, 0, 0, rfl, rfl, rfl, rfl, Nat.zero_le _, Lib.hid ⟨M0.out, K0.out, HB.out.grown M0.out, (fun b off e hn => .inl (HBLT.out b off e hn)), ⟨rfl, .inl ⟨rfl, rfl⟩⟩⟩⟩
  case round =>
    obtain ⟨k, va, n, vc, oa, on, oc, rfl, rfl, rfl, rfl, hk, hst⟩ := hrel
    have MX := Lib.hid hst.out.1
    have d4 : wr.cell? ⟨w.heap.size, 4, none⟩ = some (.slice xla xll xlc) := by rw [hst.out.2.1.cell]; rfl
    have d0 : wr.cell? ⟨w.heap.size, 0, none⟩ = some (.slice xba xbl xbc) := by rw [hst.out.2.1.cell]; rfl
    by_cases hlt : k < xll
    · obtain ⟨x, hx⟩ : ∃ x, E[k]? = some x := ⟨E[k]'(by rw [HEN.out]; exact hlt), by simp⟩
      have hmem := List.mem_of_getElem? hx
      obtain ⟨V', n', hrp⟩ := Rep.upto k (by have := HEN.out; omega) HRP.out.2
      rw [drop_cons hx] at hrp
      obtain ⟨hmay, -, -, -⟩ := hrp.step
      have HPS := Lib.hid (pastL_step (B := B) hx)
      have HRS := Lib.hid (repL_snoc (B := B) hx)
      have HPL := Lib.hid (show (pastL B E k).length ≤ k * 1001 from pastL_len HSP.out k)
      have HXO := Lib.hid (HE.out.ok x hmem).1
      have HXT := Lib.hid (HT.out x hmem)
      have HXS := Lib.hid (HSP.out x hmem)
      have HG := Lib.hid (HGD.out k (by have := HEN.out; omega))
      obtain ⟨L, hLd⟩ : ∃ L, L = repL B (E.take k) := ⟨_, rfl⟩
      obtain ⟨T, hTd⟩ : ∃ T, T = pastL B E k := ⟨_, rfl⟩
      rw [← hLd] at HPS HRS HG hmay hst
      rw [← hTd] at HPS HPL hst
      have hnL := hst.out.2.2.1.n
      have hL2 := HG.out.cl.big
      have HMAY := Lib.hid hmay
      have HRUN9 := Lib.hid (fun (W : World) (va : Option Addr) (hC : IsCells W va n vc L) (mW : Mine.Mod none_ w W) => show Calls Tryz.prog 33 #[.slice va n vc, x.o.v] W (Run9To W x.o x.sp L) from rrun9_any W va n vc L hC x.o x.sp (HXO.out.grown mW) (by rw [← hnL]; exact HMAY.out) (by omega) HXT.out)
      obtain ⟨b, off, rfl, hr⟩ := (HE.out.grown MX.out).ents k x hx
      have c0 := hr 0 _ rfl
      have c1 := hr 1 _ rfl
      have c2 := hr 2 _ rfl
      have c3 := hr 3 _ rfl
      have c4 := hr 4 _ rfl
      have c5 := hr 5 _ rfl
      have c6 := hr 6 _ rfl
      rw [Nat.add_zero] at c0
      obtain ⟨W1, hW1⟩ : ∃ W1, wr.alloc (.cells #[.int .i64 x.o.site, .int .i64 x.o.seq, .int .i64 x.o.num, .int .i64 x.o.kind, .int .i64 x.o.at_, .string x.o.text, .slice x.o.sa x.o.slen x.o.scap] 58) = W1 := ⟨_, rfl⟩
      have mP : Mine.Mod none_ wr W1 := by rw [← hW1]; exact (Mine.Mod.refl none_ wr).alloc _
      have kP : Blk W1 wr.heap.size x.o.cs 58 := by rw [← hW1]; exact Blk.new
      have HW1 := Lib.hid hW1
      have HI1 := Lib.hid (hst.out.grown mP)
      have HP1 := Lib.hid kP
      have hwP : w.heap.size ≤ wr.heap.size := MX.out.size
      clear hW1 mP kP hst hx hmem hrp hmay hr hLd hTd
      go_upto_region 7 with fail
      rw [HW1.out]
      clear c0 c1 c2 c3 c4 c5 c6 d4 d0
      generalize wr.heap.size = P at HP1 hwP ⊢
      have e0 := HP1.out.cell 0
      have e1 := HP1.out.cell 1
      have e2 := HP1.out.cell 2
      have e3 := HP1.out.cell 3
      have e4 := HP1.out.cell 4
      have e5 := HP1.out.cell 5
      have e6 := HP1.out.cell 6
      simp only [List.getElem?_cons_zero, List.getElem?_cons_succ] at e0 e1 e2 e3 e4 e5 e6
      by_cases hk1 : x.o.kind = 1
      · have hb : (x.o.kind == 1) = true := by simpa using hk1
        have HK1 := Lib.hid hk1
        clear hk1
        have hins : 0 ≤ x.o.at_ ∧ x.o.at_ ≤ (n : Int) := by
          have := HMAY.out
          unfold opMay at this
          rw [if_pos HK1.out] at this
          simp only [insOk, Bool.and_eq_true, decide_eq_true_eq, inB] at this
          rw [← hnL]
          exact this.2.1.1.1
        obtain ⟨p0, hp0⟩ : ∃ p0 : Nat, x.o.at_ = (p0 : Int) := ⟨x.o.at_.toNat, by omega⟩
        have HSEEN := Lib.hid (fun (W : World) (hC : IsCells W va n vc L) => show Calls Tryz.prog 36 #[.slice va n vc, .int .i64 x.o.at_] W fun e w' => e = .returned (.int .i64 (seenN L p0 : Int)) ∧ Mine.Mod none_ W w' from by
          rw [hp0]; exact rseen_any W va n vc L hC p0 (by omega))
        obtain ⟨si, hsi⟩ : ∃ si, si = seenN L p0 := ⟨_, rfl⟩
        rw [← hsi] at HSEEN
        have HSTL := Lib.hid (show stepsL L x.o x.sp = [⟨x.o.num, x.o.site, x.o.seq, (si : Int), x.o.text, noB⟩] from by
          unfold stepsL
          rw [if_pos HK1.out, hp0, hsi]; rfl)
        have hon : on ≤ 1000000 := by
          have h1 := HI1.out.len
          have h2 := HPL.out
          have h4 : k * 1001 ≤ 400 * 1001 := Nat.mul_le_mul_right _ (by omega)
          omega
        clear hins hp0 hsi
        have hvc : n ≤ vc ∧ vc ≤ 9223372036854775807 := by
          have h1 := HI1.out.2.2.1.le
          have h2 := HI1.out.2.2.1.big
          unfold maxLen at h2
          exact ⟨h1, h2⟩
        go_upto_region 8 with fail
        have HP2 := Lib.hid (HP1.out.mod (Mine.Mod.drew (Mine.Mod.refl none_ W1)) (fun e => e))
        have HI2 := Lib.hid (HI1.out.grown (Mine.Mod.drew (Mine.Mod.refl none_ W1)))
        refine wp_region_held_drew (S := fun w' => w'.cell? ⟨P, 0, none⟩ = some (.int .i64 x.o.site) ∧ w'.cell? ⟨P, 1, none⟩ = some (.int .i64 x.o.seq) ∧ w'.cell? ⟨P, 2, none⟩ = some (.int .i64 x.o.num) ∧ w'.cell? ⟨P, 4, none⟩ = some (.int .i64 x.o.at_) ∧ w'.cell? ⟨P, 5, none⟩ = some (.string x.o.text)) (by kernel_rfl) ⟨by rw [HP2.out.cell]; rfl, by rw [HP2.out.cell]; rfl, by rw [HP2.out.cell]; rfl, by rw [HP2.out.cell]; rfl, by rw [HP2.out.cell]; rfl⟩ (fun hS => ?_)
        clear e0 e1 e2 e3 e4 e5 e6
        refine wpAnyH_take (i := 0) (v := .slice oa on oc) rfl (by kernel_rfl) (by kernel_rfl) (by kernel_rfl) (fun _ _ _ h => h) (Or.inl ⟨by kernel_rfl, ?_⟩) hS ?_
        · rintro w' ⟨q0, q1, q2, q3, q4⟩; go_simp
        try simp only [Act.put, List.setIfInBounds_toArray, List.set_cons_zero, List.set_cons_succ]
        refine wpAnyH_take (i := 1) (v := .pointer (some ⟨P, 2, none⟩)) rfl (by kernel_rfl) (by kernel_rfl) (by kernel_rfl) (fun _ _ _ h => h) (Or.inl ⟨by kernel_rfl, ?_⟩) hS ?_
        · rintro w' ⟨q0, q1, q2, q3, q4⟩; go_simp
        try simp only [Act.put, List.setIfInBounds_toArray, List.set_cons_zero, List.set_cons_succ]
        refine wpAnyH_take (i := 2) (v := .int .i64 x.o.num) rfl (by kernel_rfl) (by kernel_rfl) (by kernel_rfl) (fun _ _ _ h => h) (Or.inl ⟨by kernel_rfl, ?_⟩) hS ?_
        · rintro w' ⟨q0, q1, q2, q3, q4⟩; go_simp
        try simp only [Act.put, List.setIfInBounds_toArray, List.set_cons_zero, List.set_cons_succ]
        refine wpAnyH_take (i := 3) (v := .pointer (some ⟨P, 0, none⟩)) rfl (by kernel_rfl) (by kernel_rfl) (by kernel_rfl) (fun _ _ _ h => h) (Or.inl ⟨by kernel_rfl, ?_⟩) hS ?_
        · rintro w' ⟨q0, q1, q2, q3, q4⟩; go_simp
        try simp only [Act.put, List.setIfInBounds_toArray, List.set_cons_zero, List.set_cons_succ]
        refine wpAnyH_take (i := 4) (v := .agg #[.int .i64 x.o.site, .int .i64 x.o.seq]) rfl (by kernel_rfl) (by kernel_rfl) (by kernel_rfl) (fun _ _ _ h => h) (Or.inl ⟨by kernel_rfl, ?_⟩) hS ?_
        · rintro w' ⟨q0, q1, q2, q3, q4⟩; go_simp
        try simp only [Act.put, List.setIfInBounds_toArray, List.set_cons_zero, List.set_cons_succ]
        refine wpAnyH_take (i := 5) (v := .slice va n vc) rfl (by kernel_rfl) (by kernel_rfl) (by kernel_rfl) (fun _ _ _ h => h) (Or.inl ⟨by kernel_rfl, ?_⟩) hS ?_
        · rintro w' ⟨q0, q1, q2, q3, q4⟩; go_simp
        try simp only [Act.put, List.setIfInBounds_toArray, List.set_cons_zero, List.set_cons_succ]
        refine wpAnyH_take (i := 6) (v := .pointer (some ⟨P, 4, none⟩)) rfl (by kernel_rfl) (by kernel_rfl) (by kernel_rfl) (fun _ _ _ h => h) (Or.inl ⟨by kernel_rfl, ?_⟩) hS ?_
        · rintro w' ⟨q0, q1, q2, q3, q4⟩; go_simp
        try simp only [Act.put, List.setIfInBounds_toArray, List.set_cons_zero, List.set_cons_succ]
        refine wpAnyH_take (i := 7) (v := .int .i64 x.o.at_) rfl (by kernel_rfl) (by kernel_rfl) (by kernel_rfl) (fun _ _ _ h => h) (Or.inl ⟨by kernel_rfl, ?_⟩) hS ?_
        · rintro w' ⟨q0, q1, q2, q3, q4⟩; go_simp
        try simp only [Act.put, List.setIfInBounds_toArray, List.set_cons_zero, List.set_cons_succ]
        refine wpAnyH_take (i := 9) (v := .pointer (some ⟨P, 5, none⟩)) rfl (by kernel_rfl) (by kernel_rfl) (by kernel_rfl) (fun _ _ _ h => h) (Or.inl ⟨by kernel_rfl, ?_⟩) hS ?_
        · rintro w' ⟨q0, q1, q2, q3, q4⟩; go_simp
        try simp only [Act.put, List.setIfInBounds_toArray, List.set_cons_zero, List.set_cons_succ]
        refine wpAnyH_take (i := 10) (v := .string x.o.text) rfl (by kernel_rfl) (by kernel_rfl) (by kernel_rfl) (fun _ _ _ h => h) (Or.inl ⟨by kernel_rfl, ?_⟩) hS ?_
        · rintro w' ⟨q0, q1, q2, q3, q4⟩; go_simp
        try simp only [Act.put, List.setIfInBounds_toArray, List.set_cons_zero, List.set_cons_succ]
        refine wpAnyH_ready (rs := [8]) (by kernel_rfl) (by simp) (AllReadyH.cons rfl (fun J hJ => ?_) <| AllReadyH.nil)
        go_simp
        refine (HSEEN.out _ HI2.out.2.2.1).mono ?_
        rintro e w2 ⟨rfl, m2⟩
        have HP3 := Lib.hid (HP2.out.mod m2 (fun e => e))
        have HI3 := Lib.hid (HI2.out.grown m2)
        refine hJ.out _ _ ⟨by rw [HP3.out.cell]; rfl, by rw [HP3.out.cell]; rfl, by rw [HP3.out.cell]; rfl, by rw [HP3.out.cell]; rfl, by rw [HP3.out.cell]; rfl⟩ (fun hS => ?_)
        clear hJ J m2
        try simp only [Act.put, List.setIfInBounds_toArray, List.set_cons_zero, List.set_cons_succ]
        refine wpAnyH_take (i := 11) (v := .agg #[.int .i64 x.o.num, .int .i64 x.o.site, .int .i64 x.o.seq, .int .i64 (si : Int), .string x.o.text, .string ⟨#[]⟩]) rfl (by kernel_rfl) (by kernel_rfl) (by kernel_rfl) (fun _ _ _ h => h) (Or.inl ⟨by kernel_rfl, ?_⟩) hS ?_
        · rintro w' ⟨q0, q1, q2, q3, q4⟩; go_simp
        try simp only [Act.put, List.setIfInBounds_toArray, List.set_cons_zero, List.set_cons_succ]
        obtain ⟨oa', oc', w3, hrun, hown, mx⟩ := rapp (W := w2) (y := ⟨x.o.num, x.o.site, x.o.seq, (si : Int), x.o.text, noB⟩) HI3.out.2.2.2.2 hon (HI3.out.1.size)
        have mA := (Mine.Mod.refl none_ w2).alloc (.cells #[.int .i64 x.o.num, .int .i64 x.o.site, .int .i64 x.o.seq, .int .i64 (si : Int), .string x.o.text, .string ⟨#[]⟩] 46)
        have HP4 := Lib.hid (HP3.out.mod mA (fun e => e))
        have HP5 := Lib.hid (HP3.out.mod mx (fun e => own_setrow HI3.out.2.2.2.2 HP3.out (by decide) _ e rfl))
        have HI5 := Lib.hid (HI3.out.add hown mx)
        have HRUN := Lib.hid (show (Builtin.append_ #[39, 39] 39 #[.slice oa on oc, .slice (some ⟨w2.heap.size, 0, none⟩) 1 1]).run Tryz.prog (w2.alloc (.cells #[.int .i64 x.o.num, .int .i64 x.o.site, .int .i64 x.o.seq, .int .i64 (si : Int), .string x.o.text, .string ⟨#[]⟩] 46)) = .ok (.slice oa' (on + 1) oc') w3 from hrun)
        clear mA hrun hown mx
        refine wpAnyH_ready (rs := [12]) (by kernel_rfl) (by simp) (AllReadyH.cons rfl (fun J hJ => ?_) <| AllReadyH.nil)
        go_simp
        refine hJ.out _ _ ⟨by rw [HP4.out.cell]; rfl, by rw [HP4.out.cell]; rfl, by rw [HP4.out.cell]; rfl, by rw [HP4.out.cell]; rfl, by rw [HP4.out.cell]; rfl⟩ (fun hS => ?_)
        clear hJ J
        try simp only [Act.put, List.setIfInBounds_toArray, List.set_cons_zero, List.set_cons_succ]
        refine wpAnyH_ready (rs := [13]) (by kernel_rfl) (by simp) (AllReadyH.cons rfl (fun J hJ => ?_) <| AllReadyH.nil)
        refine step_append_runI rfl (.tmp 30) (.tmp 42) 39 rfl _ _ _ rfl rfl HRUN.out ?_
        refine hJ.out _ _ ⟨by rw [HP5.out.cell]; rfl, by rw [HP5.out.cell]; rfl, by rw [HP5.out.cell]; rfl, by rw [HP5.out.cell]; rfl, by rw [HP5.out.cell]; rfl⟩ (fun hS => ?_)
        clear hJ J
        try simp only [Act.put, List.setIfInBounds_toArray, List.set_cons_zero, List.set_cons_succ]
        refine wpAnyH_take (i := 14) (v := .slice oa' (on + 1) oc') rfl (by kernel_rfl) (by kernel_rfl) (by kernel_rfl) (fun _ _ _ h => h) (Or.inl ⟨by kernel_rfl, ?_⟩) hS ?_
        · rintro w' ⟨q0, q1, q2, q3, q4⟩; go_simp
        try simp only [Act.put, List.setIfInBounds_toArray, List.set_cons_zero, List.set_cons_succ]
        refine wpAnyH_done (by kernel_rfl) ?_ _
        try simp only [List.getElem_toArray, List.getElem_cons_succ, List.getElem_cons_zero]
        try simp only [Act.put, List.setIfInBounds_toArray, List.set_cons_zero, List.set_cons_succ]
        clear hS
        have e0 := HP5.out.cell 0
        have e1 := HP5.out.cell 1
        have e2 := HP5.out.cell 2
        have e3 := HP5.out.cell 3
        have e4 := HP5.out.cell 4
        have e5 := HP5.out.cell 5
        have e6 := HP5.out.cell 6
        simp only [List.getElem?_cons_zero, List.getElem?_cons_succ] at e0 e1 e2 e3 e4 e5 e6
        have HR9 := Lib.hid (HRUN9.out w3 va HI5.out.2.2.1 HI5.out.1)
        clear HRUN9
        go_wp2_with fail
        refine HR9.out.mono ?_
        rintro e w4 ⟨⟨va1, n1, vc1, rfl, ho9, hok9⟩, m4⟩
        have HF := Lib.hid (show outI w w.heap.size ⟨xba, xbl, xbc, xva, xvl, xvc, xfr, xnum, some ⟨b, off, none⟩, xll, xlc⟩ (repL B (E.take (k + 1))) va1 n1 vc1 (pastL B E (k + 1)) oa' (on + 1) oc' w4 from by
          obtain ⟨h1, h2, h3, h4, h5⟩ := HI5.out.grown m4
          rw [HRS.out, HPS.out, HSTL.out]
          refine ⟨h1, h2, own_cells ho9 hok9, fun b' off' e' hn' => ?_, h5⟩
          rcases ownsRow_blk ho9 with ⟨h, _, _⟩ | ⟨g, cap, more, h, _, hb, _⟩
          · cases h; cases e'
          · cases h; cases e'; exact .inr ⟨_, hb⟩)
        clear ho9 hok9 m4 HR9 e0 e1 e2 e3 e4 e5 e6
        go_wp2_with fail
        go_roundg (xll - (k + 1))
        all_goals first
          | omega
          | exact ⟨k + 1, va1, n1, vc1, oa', on + 1, oc', rfl, rfl, rfl, by go_num, by omega, HF⟩
      · have hb : (x.o.kind == 1) = false := by simpa using hk1
        have HK1 := Lib.hid hk1
        clear hk1
        have hdel : spansOk x.sp = true ∧ ∀ y ∈ x.sp, y.1 + y.2 ≤ (n : Int) := by
          have := HMAY.out
          unfold opMay at this
          rw [if_neg HK1.out, Bool.and_eq_true, Bool.and_eq_true] at this
          obtain ⟨-, hm⟩ := this
          by_cases hk2 : x.o.kind = 2
          · rw [if_pos hk2] at hm
            unfold delOk at hm
            rw [Bool.and_eq_true, Bool.and_eq_true] at hm
            obtain ⟨⟨-, hs⟩, hl'⟩ := hm
            rw [lastLe_all hs] at hl'
            refine ⟨hs, fun y hy => ?_⟩
            have h2 := List.all_eq_true.1 hl' y hy
            rw [decide_eq_true_eq, hnL] at h2
            exact h2
          · rw [if_neg hk2] at hm; cases hm
        obtain ⟨hsok, hsin⟩ := hdel
        have hpl : ∀ i : Nat, n ≤ i → hasPl x.sp i = false := fun i hi => by
          unfold hasPl
          rw [List.any_eq_false]
          intro y hy
          have := hsin y hy
          simp only [decide_eq_true_eq]
          omega
        have HALL := Lib.hid (show rest31 L x.o x.sp n 0 = stepsL L x.o x.sp from by rw [← hnL]; exact rest31_all HK1.out hsok (by rw [hnL]; exact hpl))
        have HSOK := Lib.hid hsok
        have HPL2 := Lib.hid (show (stepsL L x.o x.sp).length ≤ 1001 from Nat.le_trans (stepsL_len _ _ _) (by have := HXS.out; omega))
        clear hsok hsin hpl
        have hvc : n ≤ vc ∧ vc ≤ 9223372036854775807 := by
          have h1 := HI1.out.2.2.1.le
          have h2 := HI1.out.2.2.1.big
          unfold maxLen at h2
          exact ⟨h1, h2⟩
        go_wp2_with fail
        refine (marks_any W1 x.o.sa x.o.slen x.o.scap x.sp (HXO.out.sp.grown HI1.out.1) HSOK.out).mono ?_
        rintro e w2 ⟨rfl, kG, m2⟩
        have HG2 := Lib.hid kG
        have HP2 := Lib.hid (HP1.out.mod m2 (fun e => e))
        have HI2 := Lib.hid (HI1.out.grown m2)
        obtain ⟨GG, hGG⟩ : ∃ GG, W1.heap.size = GG := ⟨_, rfl⟩
        rw [hGG] at HG2 ⊢
        clear kG m2 hGG e0 e1 e2 e3 e4 e5 e6
        have HLIV := Lib.hid (rlive_any w2 va n vc L HI2.out.2.2.1)
        go_wp2_with fail
        refine HLIV.out.mono ?_
        rintro e w3 ⟨rfl, m3⟩
        have HG3 := Lib.hid (HG2.out.mod m3 (fun e => e))
        have HP3 := Lib.hid (HP2.out.mod m3 (fun e => e))
        have HI3 := Lib.hid (HI2.out.grown m3)
        have HSL := Lib.hid (show liveN L = seenN L n from by rw [← hnL]; exact (seenN_all L).symm)
        clear m3 HLIV
        go_wp2_with fail
        go_loopg [3, 9, 10, 11] (n + 1) (fun g s3 s9 s10 s11 wx => ∃ (v : Int) (s : Int) (tr : List Int) (T' : List StepV) (oa2 : Option Addr) (on2 oc2 : Nat), g = (v + 2).toNat ∧ s3 = .slice oa2 on2 oc2 ∧ s9 = .int .i64 s ∧ s10 = .string (txt tr) ∧ s11 = .int .i64 v ∧ -2 ≤ v ∧ v < (n : Int) ∧
            RowKit.Hid (outI w w.heap.size ⟨xba, xbl, xbc, xva, xvl, xvc, xfr, xnum, some ⟨b, off, none⟩, xll, xlc⟩ L va n vc T' oa2 on2 oc2 wx ∧ Blk wx P x.o.cs 58 ∧ Blk wx GG (marksOf (hasPl x.sp)) 4 ∧ (v = -2 → T' = T ++ stepsL L x.o x.sp) ∧
              ∀ p : Nat, v = (p : Int) - 1 → s = (seenN L p : Int) ∧ T' ++ rest31 L x.o x.sp p tr.length = T ++ stepsL L x.o x.sp ∧ tr = ((liveR L).drop (seenN L p)).take tr.length))
        case atStart =>
          refine ⟨(n : Int) - 1, _, [], T, oa, on, oc, by omega, rfl, rfl, rfl, rfl, by omega, by omega, Lib.hid ⟨HI3.out, HP3.out, HG3.out, fun h => by omega, fun p hp => ?_⟩⟩
          obtain rfl : p = n := by omega
          exact ⟨by rw [HSL.out], by rw [List.length_nil, HALL.out], by simp⟩
        case round =>
          obtain ⟨v, s, tr, T', oa2, on2, oc2, rfl, rfl, rfl, rfl, rfl, hv1, hv2, hst2⟩ := hrel
          obtain ⟨hI, hP, hGm, hend, hrun⟩ := hst2.out
          have HI := Lib.hid hI
          have HP := Lib.hid hP
          have HGm := Lib.hid hGm
          have hst31 : (stepsL L x.o x.sp).length ≤ 1001 := HPL2.out
          have hk31 : k * 1001 ≤ 400 * 1001 := Nat.mul_le_mul_right _ (by omega)
          have hT31 := HPL.out
          have hon2 : on2 ≤ 1000000 := by
            have h1 := hI.len
            by_cases hv3 : v = -2
            · have h2 := congrArg List.length (hend hv3)
              rw [List.length_append] at h2
              omega
            · have h2 := congrArg List.length (hrun (v + 1).toNat (by omega)).2.1
              rw [List.length_append, List.length_append] at h2
              omega
          have q0 : wr.cell? ⟨P, 0, none⟩ = some (.int .i64 x.o.site) := hP.cell 0
          have q1 : wr.cell? ⟨P, 1, none⟩ = some (.int .i64 x.o.seq) := hP.cell 1
          have q2 : wr.cell? ⟨P, 2, none⟩ = some (.int .i64 x.o.num) := hP.cell 2
          clear hst31 hk31 hT31
          by_cases hv3 : v = -2
          · subst hv3
            have HTT := Lib.hid (hend rfl)
            have q3 : wr.cell? ⟨P, 3, none⟩ = some (.int .i64 x.o.kind) := hP.cell 3
            have q4 : wr.cell? ⟨P, 4, none⟩ = some (.int .i64 x.o.at_) := hP.cell 4
            have q5 : wr.cell? ⟨P, 5, none⟩ = some (.string x.o.text) := hP.cell 5
            have q6 : wr.cell? ⟨P, 6, none⟩ = some (.slice x.o.sa x.o.slen x.o.scap) := hP.cell 6
            have HR9 := Lib.hid (HRUN9.out wr va hI.2.2.1 hI.1)
            clear hst2 hI hP hGm hend hrun hon2 hv1 hv2 HRUN9
            go_wp2_with fail
            refine HR9.out.mono ?_
            rintro e w4 ⟨⟨va1, n1, vc1, rfl, ho9, hok9⟩, m4⟩
            have HF := Lib.hid (show outI w w.heap.size ⟨xba, xbl, xbc, xva, xvl, xvc, xfr, xnum, some ⟨b, off, none⟩, xll, xlc⟩ (repL B (E.take (k + 1))) va1 n1 vc1 (pastL B E (k + 1)) oa2 on2 oc2 w4 from by
              obtain ⟨h1, h2, h3, h4, h5⟩ := HI.out.grown m4
              rw [HRS.out, HPS.out, ← HTT.out]
              refine ⟨h1, h2, own_cells ho9 hok9, fun b' off' e' hn' => ?_, h5⟩
              rcases ownsRow_blk ho9 with ⟨h, _, _⟩ | ⟨g, cap, more, h, _, hb, _⟩
              · cases h; cases e'
              · cases h; cases e'; exact .inr ⟨_, hb⟩)
            clear ho9 hok9 m4 HR9 q0 q1 q2 q3 q4 q5 q6
            go_wp2_with fail
            go_roundg (xll - (k + 1))
            all_goals first
              | omega
              | exact ⟨k + 1, va1, n1, vc1, oa2, on2, oc2, rfl, rfl, rfl, by go_num, by omega, HF⟩
          obtain ⟨p, hp⟩ : ∃ p : Nat, v = (p : Int) - 1 := ⟨(v + 1).toNat, by omega⟩
          obtain ⟨hs, hcon, htr⟩ := hrun p hp
          have hvd : decide (-1 ≤ v) = true := by rw [decide_eq_true_eq]; omega
          have hsn : seenN L p ≤ 20000 := by have := (seenN_le L p).2; omega
          have htl : tr.length ≤ 20000 := by
            have h1 := congrArg List.length htr
            rw [List.length_take, List.length_drop, liveR_len] at h1
            have := liveN_le L
            omega
          have htz : (txt tr).size ≤ 80000 := by
            rw [txt_size, bytesOf_flat]
            have : ∀ l : List Int, (l.flatMap Lib.encodeRune).length ≤ 4 * l.length := fun l => by
              induction l with
              | nil => simp
              | cons r l ih =>
                rw [List.flatMap_cons, List.length_append, List.length_cons]
                have h4 : (Lib.encodeRune r).length ≤ 4 := enc_four r
                omega
            have := this tr
            omega
          have hgone : ∀ S : Int, S = (seenN L p : Int) → goneS L x.o (S, ((seenN L p + tr.length : Nat) : Int)) = ⟨x.o.num, x.o.site, x.o.seq, S, noB, txt tr⟩ := fun S hS => by
            subst hS
            unfold goneS
            dsimp only
            rw [Int.toNat_natCast, show (((seenN L p + tr.length : Nat) : Int) - (seenN L p : Int)).toNat = tr.length by omega, ← htr]
          cases p with
          | zero =>
            obtain rfl : v = -1 := by omega
            have hs0 : seenN L 0 = 0 := by unfold seenN; simp [liveN]
            have hs00 : s = 0 := by rw [hs, hs0]; rfl
            subst hs00
            rcases Nat.eq_zero_or_pos tr.length with h0 | h0
            · obtain rfl : tr = [] := List.eq_nil_of_length_eq_zero h0
              have hE : (txt []).toList.isEmpty = true := by simp [txt, bytesOf]
              have FIN := Lib.hid (show T' = T ++ stepsL L x.o x.sp from by rw [← hcon, List.length_nil, rest31_end0, List.append_nil])
              clear hst2 hI hP hGm hend hrun hs hcon htr hgone hp hs0
              go_wp2_with fail
              go_roundg (((-2 : Int) + 2).toNat)
              all_goals first
                | decide
                | exact ⟨-2, _, [], T', oa2, on2, oc2, rfl, rfl, rfl, rfl, rfl, by omega, by omega, Lib.hid ⟨HI.out, HP.out, HGm.out, fun _ => FIN.out, fun p hp => by omega⟩⟩
            · have hE : (txt tr).toList.isEmpty = false := by
                cases hh : (txt tr).toList.isEmpty with
                | false => rfl
                | true =>
                  have := text_empty hh
                  have h2 : (txt tr).size = 0 := by rw [this]; rfl
                  rw [txt_size] at h2
                  have := bytesOf_len tr
                  omega
              obtain ⟨oa', oc', w4, hrun2, hown, mx⟩ := rapp (W := wr) (y := ⟨x.o.num, x.o.site, x.o.seq, 0, noB, txt tr⟩) hI.2.2.2.2 hon2 hI.1.size
              have hP4 := hP.mod mx (fun e => own_setrow hI.2.2.2.2 hP (by decide) _ e rfl)
              have hG4 := hGm.mod mx (fun e => own_setrow hI.2.2.2.2 hGm (by decide) _ e rfl)
              have hI4 := hI.add hown mx
              have hrunS : (appSem #[39, 39] 39 #[.slice oa2 on2 oc2, .slice (some ⟨wr.heap.size, 0, none⟩) 1 1]).run Tryz.prog (wr.alloc (.cells #[.int .i64 x.o.num, .int .i64 x.o.site, .int .i64 x.o.seq, .int .i64 0, .string ⟨#[]⟩, .string (txt tr)] 46)) = .ok (.slice oa' (on2 + 1) oc') w4 := hrun2
              have FIN := Lib.hid (show T' ++ [⟨x.o.num, x.o.site, x.o.seq, 0, noB, txt tr⟩] = T ++ stepsL L x.o x.sp from by
                rw [← hcon, rest31_end h0, ← hgone 0 (by rw [hs0]; rfl), hs0, Nat.zero_add])
              have HI4 := Lib.hid hI4
              have HP4 := Lib.hid hP4
              have HG4 := Lib.hid hG4
              clear hst2 hI hP hGm hend hrun hs hcon htr hgone hp hs0 hrun2 hown mx hI4 hP4 hG4
              go_wp2_with fail
              go_roundg (((-2 : Int) + 2).toNat)
              all_goals first
                | decide
                | exact ⟨-2, _, [], _, oa', on2 + 1, oc', rfl, rfl, rfl, rfl, rfl, by omega, by omega, Lib.hid ⟨HI4.out, HP4.out, HG4.out, fun _ => FIN.out, fun p hp => by omega⟩⟩
          | succ q =>
            obtain rfl : v = (q : Int) := by omega
            have hqn : q < n := by omega
            obtain ⟨c, hc⟩ : ∃ c, L[q]? = some c := ⟨L[q]'(by omega), by simp⟩
            obtain ⟨b', off', rfl, hrc⟩ := hI.2.2.1.cells q c hc
            have y3 : wr.cell? ⟨b', off' + q * 5 + 3, none⟩ = some (.int .i32 c.r) := hrc 3 _ rfl
            have y4 : wr.cell? ⟨b', off' + q * 5 + 4, none⟩ = some (.bool c.gone) := hrc 4 _ rfl
            have yG : wr.cell? ⟨GG, q, none⟩ = some (.bool (hasPl x.sp q)) := by rw [hGm.cell, marksOf_at _ _ (by omega)]
            have hq2 : decide (0 ≤ (q : Int)) = true := by simp
            have hq3 : q < 20000 := by omega
            have hcr := HG.out.ok c (List.mem_of_getElem? hc)
            cases hgo : c.gone
            case true =>
              rw [hgo] at y4
              have FIN := Lib.hid (show (s = (seenN L q : Int)) ∧ T' ++ rest31 L x.o x.sp q tr.length = T ++ stepsL L x.o x.sp ∧ tr = ((liveR L).drop (seenN L q)).take tr.length from by
                have e1 : seenN L (q + 1) = seenN L q := by rw [seenN_succ hc, hgo]; rfl
                rw [e1] at hs htr
                rw [rest31_skip hc hgo] at hcon
                exact ⟨hs, hcon, htr⟩)
              clear hst2 hI hP hGm hend hrun hs hcon htr hgone hp hrc hc y3 yG
              go_wp2_with fail
              go_roundg (((q : Int) - 1 + 2).toNat)
              all_goals first
                | omega
                | exact ⟨(q : Int) - 1, s, tr, T', oa2, on2, oc2, rfl, rfl, rfl, rfl, rfl, by omega, by omega, Lib.hid ⟨HI.out, HP.out, HGm.out, fun h => by omega, fun p hp => by have hpq : p = q := (by omega); subst hpq; exact FIN.out⟩⟩
            case false =>
              rw [hgo] at y4
              have e1 : seenN L (q + 1) = seenN L q + 1 := by rw [seenN_succ hc, hgo]; rfl
              cases hma : hasPl x.sp q
              case true =>
                rw [hma] at yG
                unfold cellOk at hcr
                rw [Bool.and_eq_true] at hcr
                have hvr : Lib.validRune c.r = true := hcr.2
                obtain ⟨rn, hrn⟩ : ∃ rn : Nat, c.r = (rn : Int) := by obtain ⟨m', h', _⟩ := vR_cases hvr; exact ⟨m', h'⟩
                rw [hrn] at y3 hvr
                have hr11 : rn ≤ 1114111 := by
                  obtain ⟨m', h', hcc⟩ := vR_cases hvr
                  omega
                have FIN := Lib.hid (show (s - 1 = (seenN L q : Int)) ∧ T' ++ rest31 L x.o x.sp q ((rn : Int) :: tr).length = T ++ stepsL L x.o x.sp ∧ ((rn : Int) :: tr) = ((liveR L).drop (seenN L q)).take ((rn : Int) :: tr).length from by
                  rw [e1] at hs htr
                  rw [rest31_mark hc hgo hma] at hcon
                  refine ⟨by omega, hcon, ?_⟩
                  rw [liveR_at hc hgo, hrn, List.length_cons, List.take_succ_cons, ← htr])
                have HBY := Lib.hid (rbytes_any rn wr hr11)
                have HVR := Lib.hid hvr
                have hszz : (txt [(rn : Int)]).size ≤ 4 := by
                  rw [txt_size, bytesOf_flat]
                  have := enc_four (rn : Int)
                  simpa using this
                have hsum : ¬ (9223372036854775807 < (txt [(rn : Int)]).size + (txt tr).size) := by omega
                have hsb : s ≤ 20001 ∧ 0 ≤ s := by omega
                have hsb1 := hsb.1
                have hsb2 := hsb.2
                clear hst2 hI hP hGm hend hrun hs hcon htr hgone hp hrc hc hrn hcr hvr hsb e1
                go_wp2_with fail
                refine HBY.out.mono ?_
                rintro e w4 ⟨⟨g, rfl, hgw, kg⟩, m4⟩
                have hcv := conv_bytes1 w4 g rn HVR.out kg
                have HI4 := Lib.hid (HI.out.grown m4)
                have HP4 := Lib.hid (HP.out.mod m4 (fun e => e))
                have HG4 := Lib.hid (HGm.out.mod m4 (fun e => e))
                obtain ⟨nl, hnl⟩ : ∃ nl, nl = (encR rn).length := ⟨_, rfl⟩
                rw [← hnl] at hcv ⊢
                clear hnl kg hgw m4 q0 q1 q2 y3 y4 yG
                go_wp2_with fail
                go_roundg (((q : Int) - 1 + 2).toNat)
                all_goals first
                  | omega
                  | exact ⟨(q : Int) - 1, s - 1, (rn : Int) :: tr, T', oa2, on2, oc2, rfl, rfl, rfl, by rw [txt_app]; rfl, rfl, by omega, by omega, Lib.hid ⟨HI4.out, HP4.out, HG4.out, fun h => by omega, fun p hp => by have hpq : p = q := (by omega); subst hpq; exact FIN.out⟩⟩
              case false =>
                rw [hma] at yG
                have hsb1 : s ≤ 20001 := by omega
                have hsb2 : 1 ≤ s := by omega
                rcases Nat.eq_zero_or_pos tr.length with h0 | h0
                · obtain rfl : tr = [] := List.eq_nil_of_length_eq_zero h0
                  have hE : (txt []).toList.isEmpty = true := by simp [txt, bytesOf]
                  have FIN := Lib.hid (show (s - 1 = (seenN L q : Int)) ∧ T' ++ rest31 L x.o x.sp q ([] : List Int).length = T ++ stepsL L x.o x.sp ∧ ([] : List Int) = ((liveR L).drop (seenN L q)).take ([] : List Int).length from by
                    rw [e1] at hs
                    rw [List.length_nil, rest31_none hc hgo hma] at hcon
                    exact ⟨by omega, hcon, by simp⟩)
                  clear hst2 hI hP hGm hend hrun hs hcon htr hgone hp hrc hc hcr e1
                  go_wp2_with fail
                  go_roundg (((q : Int) - 1 + 2).toNat)
                  all_goals first
                    | omega
                    | exact ⟨(q : Int) - 1, s - 1, [], T', oa2, on2, oc2, rfl, rfl, rfl, rfl, rfl, by omega, by omega, Lib.hid ⟨HI.out, HP.out, HGm.out, fun h => by omega, fun p hp => by have hpq : p = q := (by omega); subst hpq; exact FIN.out⟩⟩
                · have hE : (txt tr).toList.isEmpty = false := by
                    cases hh : (txt tr).toList.isEmpty with
                    | false => rfl
                    | true =>
                      have := text_empty hh
                      have h2 : (txt tr).size = 0 := by rw [this]; rfl
                      rw [txt_size] at h2
                      have := bytesOf_len tr
                      omega
                  obtain ⟨oa', oc', w4, hrun2, hown, mx⟩ := rapp (W := wr) (y := ⟨x.o.num, x.o.site, x.o.seq, s, noB, txt tr⟩) hI.2.2.2.2 hon2 hI.1.size
                  have hP4 := hP.mod mx (fun e => own_setrow hI.2.2.2.2 hP (by decide) _ e rfl)
                  have hG4 := hGm.mod mx (fun e => own_setrow hI.2.2.2.2 hGm (by decide) _ e rfl)
                  have hI4 := hI.add hown mx
                  have hrunS : (appSem #[39, 39] 39 #[.slice oa2 on2 oc2, .slice (some ⟨wr.heap.size, 0, none⟩) 1 1]).run Tryz.prog (wr.alloc (.cells #[.int .i64 x.o.num, .int .i64 x.o.site, .int .i64 x.o.seq, .int .i64 s, .string ⟨#[]⟩, .string (txt tr)] 46)) = .ok (.slice oa' (on2 + 1) oc') w4 := hrun2
                  have FIN := Lib.hid (show (s - 1 = (seenN L q : Int)) ∧ (T' ++ [⟨x.o.num, x.o.site, x.o.seq, s, noB, txt tr⟩]) ++ rest31 L x.o x.sp q ([] : List Int).length = T ++ stepsL L x.o x.sp ∧ ([] : List Int) = ((liveR L).drop (seenN L q)).take ([] : List Int).length from by
                    rw [rest31_flush hc hgo hma h0, ← hs, hgone s hs] at hcon
                    rw [e1] at hs
                    exact ⟨by omega, by rw [List.append_assoc]; exact hcon, by simp⟩)
                  have HI4 := Lib.hid hI4
                  have HP4 := Lib.hid hP4
                  have HG4 := Lib.hid hG4
                  clear hst2 hI hP hGm hend hrun hs hcon htr hgone hp hrc hc hcr e1 hrun2 hown mx hI4 hP4 hG4
                  go_wp2_with fail
                  go_roundg (((q : Int) - 1 + 2).toNat)
                  all_goals first
                    | omega
                    | exact ⟨(q : Int) - 1, s - 1, [], _, oa', on2 + 1, oc', rfl, rfl, rfl, rfl, rfl, by omega, by omega, Lib.hid ⟨HI4.out, HP4.out, HG4.out, fun h => by omega, fun p hp => by have hpq : p = q := (by omega); subst hpq; exact FIN.out⟩⟩
    · obtain rfl : k = xll := by omega
      have HF := Lib.hid hst.out.2.2.2.2
      have HEQ := Lib.hid (show E.length = k from HEN.out)
      clear hst
      go_wp2_with fail
      go_ret
      exact ⟨⟨oa, on, oc, rfl, by rw [HEQ.out]; exact HF.out⟩, MX.out⟩

end Go.Proofs.YtjgjjlolhdlofaaGreatDoor

namespace Go.Proofs.YtjgjjlolhdlofaaGreatDoor
open Go.RowKit Go.Shelf Go.Mine
open Classical

theorem Tryz.stepSize : (Tryz.prog.info? 44).map (·.size) = some 6 := by kernel_rfl
theorem results_st1 {fn : Func} {p : Tmp} (h : fn.results = #[.cell p 44]) (tmps : Array Value) (w : World) (g : Nat) (cs : List Value) (hp : tmps.getD p undef = .pointer (some ⟨g, 0, none⟩)) (hl : cs.length = 6) (hr : w.rangeAt g 0 cs) :
    (results fn tmps).run Tryz.prog w = .ok (.agg cs.toArray) w := by
  have := run_loadVar_mid (P := Tryz.prog) w g 0 44 cs _ hr Tryz.underlying44 rfl (by rw [hl]; exact Tryz.stepSize)
  have hp' : tmps[p]?.getD undef = .pointer (some ⟨g, 0, none⟩) := by simpa using hp
  simp [results, h, hp', asAddr, this, Result.andThen]

set_option maxHeartbeats 4000000 in
set_option maxRecDepth 1000000 in
theorem of_step (w : World) (y : StepV) : Calls Tryz.prog 15 #[.agg y.cs.toArray] w fun e w' => e = .returned (.agg y.cs.toArray) ∧ Mine.Mod none_ w w' := by
  dsimp only [StepV.cs]
  obtain ⟨W0, hW0⟩ : ∃ W0, (w.alloc (.cells #[.int .i64 y.num, .int .i64 y.site, .int .i64 y.seq, .int .i64 y.at_, .string y.inn, .string y.out] 46)).alloc (.cells #[.int .i64 0, .int .i64 0, .int .i64 0, .int .i64 0, .string ⟨#[]⟩, .string ⟨#[]⟩] 44) = W0 := ⟨_, rfl⟩
  have m0 : Mine.Mod none_ w W0 := by rw [← hW0]; exact ((Mine.Mod.refl none_ w).alloc _).alloc _
  have k0 : Blk W0 (w.heap.size) [.int .i64 y.num, .int .i64 y.site, .int .i64 y.seq, .int .i64 y.at_, .string y.inn, .string y.out] 46 := by
    have hb := Blk.new (w := w) (cs := [.int .i64 y.num, .int .i64 y.site, .int .i64 y.seq, .int .i64 y.at_, .string y.inn, .string y.out]) (t := 46)
    rw [← hW0]
    exact hb.mod ((Mine.Mod.refl none_ _).alloc _) (fun e => e)
  have k1 : Blk W0 (w.heap.size + 1) [.int .i64 0, .int .i64 0, .int .i64 0, .int .i64 0, .string ⟨#[]⟩, .string ⟨#[]⟩] 44 := by
    have hb := Blk.new (w := (w.alloc (.cells #[.int .i64 y.num, .int .i64 y.site, .int .i64 y.seq, .int .i64 y.at_, .string y.inn, .string y.out] 46))) (cs := [.int .i64 0, .int .i64 0, .int .i64 0, .int .i64 0, .string ⟨#[]⟩, .string ⟨#[]⟩]) (t := 44)
    simp only [World.size_alloc] at hb
    rw [← hW0]
    exact hb.mod (Mine.Mod.refl none_ _) (fun e => e)
  have hs0 : W0.heap.size = w.heap.size + 1 + 1 := by rw [← hW0]; simp only [World.size_alloc]
  have a0 := k0.cell 0
  have a1 := k0.cell 1
  have a2 := k0.cell 2
  have a3 := k0.cell 3
  have a4 := k0.cell 4
  have a5 := k0.cell 5
  simp only [List.getElem?_cons_zero, List.getElem?_cons_succ] at a0 a1 a2 a3 a4 a5
  have d0 := k1.cell 0
  have d1 := k1.cell 1
  have d2 := k1.cell 2
  have d3 := k1.cell 3
  have d4 := k1.cell 4
  have d5 := k1.cell 5
  simp only [List.getElem?_cons_zero, List.getElem?_cons_succ] at d0 d1 d2 d3 d4 d5
  have r0 := k1.frozen 0
  have r1 := k1.frozen 1
  have r2 := k1.frozen 2
  have r3 := k1.frozen 3
  have r4 := k1.frozen 4
  have r5 := k1.frozen 5
  have KF := Lib.hid ((((((k1.set 0 (.int .i64 y.num)).set 1 (.int .i64 y.site)).set 2 (.int .i64 y.seq)).set 3 (.int .i64 y.at_)).set 4 (.string y.inn)).set 5 (.string y.out))
  have MF := Lib.hid ((((((m0.setCell ⟨w.heap.size + 1, 0, none⟩ (fun h => absurd h (by simp)) (.int .i64 y.num)).setCell ⟨w.heap.size + 1, 1, none⟩ (fun h => absurd h (by simp)) (.int .i64 y.site)).setCell ⟨w.heap.size + 1, 2, none⟩ (fun h => absurd h (by simp)) (.int .i64 y.seq)).setCell ⟨w.heap.size + 1, 3, none⟩ (fun h => absurd h (by simp)) (.int .i64 y.at_)).setCell ⟨w.heap.size + 1, 4, none⟩ (fun h => absurd h (by simp)) (.string y.inn)).setCell ⟨w.heap.size + 1, 5, none⟩ (fun h => absurd h (by simp)) (.string y.out))
  have HW := Lib.hid hW0
  clear k0 k1 m0 hs0 hW0
  go_enter Tryz.func15, Tryz.ntmps15
  go_upto_region 1 with fail
  rw [HW.out]
  go_wp2_with fail
  exact bodyPost_ret (results_st1 rfl _ _ (w.heap.size + 1) [.int .i64 y.num, .int .i64 y.site, .int .i64 y.seq, .int .i64 y.at_, .string y.inn, .string y.out] rfl rfl (blk_range KF.out)) rfl ⟨rfl, MF.out⟩

set_option maxHeartbeats 8000000 in
set_option maxRecDepth 1000000 in
theorem pastSteps_any (w : World) (h : HistV) (B : List CellV) (V : List Int) (E : List EntV) (h0 : HistIs0 w h B V E) (htab : tabsOk w) :
    Calls Tryz.prog 4 #[h.v] w fun e w' => e = .returned (.bool true) ∧ Mine.Mod none_ w w' := by
  have HG := Lib.hid (fun W (m : Mine.Mod none_ w W) => rgreatH_any W h E (h0.e.grown m))
  have HOF := Lib.hid (fun W => of_hist W h)
  obtain ⟨G, hG⟩ : ∃ G, G = bigHist h E := ⟨_, rfl⟩
  rw [← hG] at HG
  have HSM := Lib.hid (fun (e : G = false) => h0.small (hG ▸ e))
  have HES := Lib.hid (fun (e : G = false) => ents_small (hG ▸ e : bigHist h E = false))
  obtain ⟨R, hR⟩ : ∃ R, R = histOk h B V E := ⟨_, rfl⟩
  have HR := Lib.hid hR
  clear hG h0 hR
  obtain ⟨xba, xbl, xbc, xva, xvl, xvc, xfr, xnum, xla, xll, xlc⟩ := h
  dsimp only [HistV.v, HistV.cs] at HOF HG ⊢
  obtain ⟨W0, hW0⟩ : ∃ W0, w.alloc (.cells #[.slice xba xbl xbc, .slice xva xvl xvc, .int .i64 xfr, .int .i64 xnum, .slice xla xll xlc] 26) = W0 := ⟨_, rfl⟩
  have m0 : Mine.Mod none_ w W0 := by rw [← hW0]; exact (Mine.Mod.refl none_ w).alloc _
  have k0 : Blk W0 (w.heap.size) [.slice xba xbl xbc, .slice xva xvl xvc, .int .i64 xfr, .int .i64 xnum, .slice xla xll xlc] 26 := by
    have hb := Blk.new (w := w) (cs := [.slice xba xbl xbc, .slice xva xvl xvc, .int .i64 xfr, .int .i64 xnum, .slice xla xll xlc]) (t := 26)
    rw [← hW0]
    exact hb.mod (Mine.Mod.refl none_ _) (fun e => e)
  have hs0 : W0.heap.size = w.heap.size + 1 := by rw [← hW0]; simp only [World.size_alloc]
  have M0 := Lib.hid m0
  have A0 := Lib.hid k0
  have HAL := Lib.hid (alive31_any W0 (htab.mod m0 (fun _ _ _ e => e)))
  have HTAB := Lib.hid htab
  have HW := Lib.hid hW0
  clear m0 k0 hs0 htab hW0
  go_enter Tryz.func4, Tryz.ntmps4
  go_upto_region 1 with fail
  rw [HW.out]
  go_wp2_with fail
  refine HAL.out.mono ?_
  rintro e w1 ⟨rfl, m1⟩
  have M1 := Lib.hid (M0.out.trans m1)
  have A1 := Lib.hid (A0.out.mod m1 (fun e => e))
  have HM := Lib.hid (HG.out w1 M1.out)
  have a0 := A1.out.cell 0
  have a1 := A1.out.cell 1
  have a2 := A1.out.cell 2
  have a3 := A1.out.cell 3
  have a4 := A1.out.cell 4
  simp only [List.getElem?_cons_zero, List.getElem?_cons_succ] at a0 a1 a2 a3 a4
  clear m1 HAL HG
  go_wp2_with fail
  refine HM.out.mono ?_
  rintro e w2 ⟨rfl, m2⟩
  have M2 := Lib.hid (M1.out.trans m2)
  have A2 := Lib.hid (A1.out.mod m2 (fun e => e))
  clear m2 a0 a1 a2 a3 a4 HM
  cases G
  case true =>
    go_wp2_with fail
    go_ret
    exact ⟨rfl, M2.out⟩
  have HS := Lib.hid (HSM.out rfl)
  have HE := Lib.hid (HES.out rfl)
  clear HSM HES
  have hbl : xbl ≤ 60 := HS.out.2.1
  have hll14 : xll ≤ 14 := HS.out.2.2.2.1
  have HH := Lib.hid HS.out.1
  have HT := Lib.hid (show ∀ x ∈ E, x.o.text.size ≤ 1099511627776 from fun x hx => by have := (HE.out x hx).1; omega)
  have HSP := Lib.hid (show ∀ x ∈ E, x.sp.length ≤ 1000 from fun x hx => by
    have h1 := (HE.out x hx).2
    have h2 := (HH.out.e.ok x hx).1.sp.n
    omega)
  have HST := Lib.hid (fun (W : World) (mW : Mine.Mod none_ w W) => show Calls Tryz.prog 13 #[.agg #[.slice xba xbl xbc, .slice xva xvl xvc, .int .i64 xfr, .int .i64 xnum, .slice xla xll xlc]] W (HStepsTo W R B E) from by
    rw [HR.out]
    exact hsteps_any W ⟨xba, xbl, xbc, xva, xvl, xvc, xfr, xnum, xla, xll, xlc⟩ B V E (HH.out.grown mW) (by show xbl ≤ 1000; omega) (HTAB.out.mod mW (fun _ _ _ e => e)) HT.out HSP.out)
  have HMY := Lib.hid (fun (W : World) (mW : Mine.Mod none_ w W) => show Calls Tryz.prog 11 #[.agg #[.slice xba xbl xbc, .slice xva xvl xvc, .int .i64 xfr, .int .i64 xnum, .slice xla xll xlc]] W fun e w' => e = .returned (.bool R) ∧ Mine.Mod none_ W w' from by
    rw [HR.out]
    exact rhmay_any W ⟨xba, xbl, xbc, xva, xvl, xvc, xfr, xnum, xla, xll, xlc⟩ B V E (HH.out.grown mW) (by show xbl ≤ 1099511627776; omega))
  have HRS := Lib.hid (fun (e : R = true) (W : World) (mW : Mine.Mod none_ w W) => rsteps_any W ⟨xba, xbl, xbc, xva, xvl, xvc, xfr, xnum, xla, xll, xlc⟩ B V E (HH.out.grown mW) (by show xbl ≤ 1000; omega) HT.out HSP.out (HR.out.symm.trans e))
  have HPL := Lib.hid (show (pastL B E E.length).length ≤ 100000 from by
    have h1 := pastL_len (B := B) HSP.out E.length
    have h2 : E.length ≤ 14 := by have := HH.out.e.n; dsimp only at this; omega
    have h3 : E.length * 1001 ≤ 14 * 1001 := Nat.mul_le_mul_right _ h2
    omega)
  dsimp only [HistV.v] at HRS
  obtain ⟨PL, hPL⟩ : ∃ PL, PL = pastL B E E.length := ⟨_, rfl⟩
  unfold HStepsTo at HST
  rw [← hPL] at HST HRS HPL
  clear hPL HS
  have a0 := A2.out.cell 0
  have a1 := A2.out.cell 1
  have a2 := A2.out.cell 2
  have a3 := A2.out.cell 3
  have a4 := A2.out.cell 4
  simp only [List.getElem?_cons_zero, List.getElem?_cons_succ] at a0 a1 a2 a3 a4
  go_wp2_with fail
  refine (HOF.out w2).mono ?_
  rintro e w3 ⟨rfl, m3⟩
  have M3 := Lib.hid (M2.out.trans m3)
  have A3 := Lib.hid (A2.out.mod m3 (fun e => e))
  have HQ := Lib.hid (HST.out w3 M3.out)
  clear m3 a0 a1 a2 a3 a4
  go_wp2_with fail
  refine HQ.out.mono ?_
  rintro e w4 ⟨hno, hyes, m4⟩
  have M4 := Lib.hid (M3.out.trans m4)
  have A4 := Lib.hid (A3.out.mod m4 (fun e => e))
  have HN := Lib.hid (HMY.out w4 M4.out)
  have a0 := A4.out.cell 0
  have a1 := A4.out.cell 1
  have a2 := A4.out.cell 2
  have a3 := A4.out.cell 3
  have a4 := A4.out.cell 4
  simp only [List.getElem?_cons_zero, List.getElem?_cons_succ] at a0 a1 a2 a3 a4
  clear m4 HQ HMY
  cases R
  · obtain rfl := hno rfl
    clear hno hyes
    go_wp2_with fail
    refine HN.out.mono ?_
    rintro e w5 ⟨rfl, m5⟩
    have M5 := Lib.hid (M4.out.trans m5)
    clear m5 HN a0 a1 a2 a3 a4
    go_wp2_with fail
    go_ret
    exact ⟨rfl, M5.out⟩
  obtain ⟨sa, sn, sc, rfl, hso⟩ := hyes rfl
  have HSO := Lib.hid hso
  clear hno hyes hso
  go_wp2_with fail
  refine HN.out.mono ?_
  rintro e w5 ⟨rfl, m5⟩
  have M5 := Lib.hid (M4.out.trans m5)
  have A5 := Lib.hid (A4.out.mod m5 (fun e => e))
  have S5 := Lib.hid (ownsRow_mod HSO.out m5 (fun _ _ e => e))
  clear m5 HN a0 a1 a2 a3 a4
  have HU := Lib.hid (HRS.out (by first | rfl | trivial) w5 M5.out)
  have a0 := A5.out.cell 0
  have a1 := A5.out.cell 1
  have a2 := A5.out.cell 2
  have a3 := A5.out.cell 3
  have a4 := A5.out.cell 4
  simp only [List.getElem?_cons_zero, List.getElem?_cons_succ] at a0 a1 a2 a3 a4
  go_wp2_with fail
  refine HU.out.mono ?_
  rintro e w6 ⟨⟨ra, rn, rc, rfl, hro⟩, m6⟩
  have M6 := Lib.hid (M5.out.trans m6)
  have S6 := Lib.hid (ownsRow_mod S5.out m6 (fun _ _ e => e))
  have R6 := Lib.hid hro
  have hsn : PL.length = sn := by
    have h1 := S6.out.1
    rw [flat_length StepV.len] at h1
    omega
  have hrn : rn = sn := by
    have h1 := hro.1
    rw [flat_length StepV.len] at h1
    omega
  have hsc : sn ≤ sc ∧ sc ≤ 9223372036854775807 := by
    rcases ownsRow_blk S6.out with ⟨h1, h2, _⟩ | ⟨g, cap, more, h1, _, _, hc, hm, _⟩
    · cases h1; omega
    · cases h1; unfold maxLen at hm; omega
  have hrc : sn ≤ rc ∧ rc ≤ 9223372036854775807 := by
    rcases ownsRow_blk hro with ⟨h1, h2, _⟩ | ⟨g, cap, more, h1, _, _, hc, hm, _⟩
    · cases h1; omega
    · cases h1; unfold maxLen at hm; omega
  subst hrn
  have hsl : rn ≤ 100000 := by have := HPL.out; omega
  have HLN := Lib.hid hsn
  clear m6 HU hro a0 a1 a2 a3 a4 hsn
  go_wp2_with fail
  go_loopg [6] rn (fun g s6 wx => ∃ k : Nat, g = rn - k ∧ s6 = .int .i64 (k : Int) ∧ k ≤ rn ∧ Mine.Mod none_ w6 wx)
  case atStart => exact ⟨0, rfl, rfl, Nat.zero_le _, Mine.Mod.refl _ _⟩
  case round =>
    obtain ⟨k, rfl, rfl, hk, mx⟩ := hrel
    have MX := Lib.hid mx
    by_cases hlt : k < rn
    · obtain ⟨y, hy⟩ : ∃ y, PL[k]? = some y := ⟨PL[k]'(by have := HLN.out; omega), by simp⟩
      rcases ownsRow_blk S6.out with ⟨_, h0, _⟩ | ⟨g1, cap1, more1, hs1, _, kg1, _⟩
      · omega
      obtain ⟨rfl, rfl⟩ : sa = some ⟨g1, 0, none⟩ ∧ sc = cap1 := by simpa using hs1
      rcases ownsRow_blk R6.out with ⟨_, h0, _⟩ | ⟨g2, cap2, more2, hs2, _, kg2, _⟩
      · omega
      obtain ⟨rfl, rfl⟩ : ra = some ⟨g2, 0, none⟩ ∧ rc = cap2 := by simpa using hs2
      have KA := Lib.hid (kg1.mod mx (fun e => e))
      have KB := Lib.hid (kg2.mod mx (fun e => e))
      have HY := Lib.hid hy
      have HCL := Lib.hid (show ∀ W : World, Mine.Mod none_ wr W → W.cell? ⟨g1, k * 6, none⟩ = some (.int .i64 y.num) ∧ W.cell? ⟨g1, k * 6 + 1, none⟩ = some (.int .i64 y.site) ∧ W.cell? ⟨g1, k * 6 + 2, none⟩ = some (.int .i64 y.seq) ∧ W.cell? ⟨g1, k * 6 + 3, none⟩ = some (.int .i64 y.at_) ∧ W.cell? ⟨g1, k * 6 + 4, none⟩ = some (.string y.inn) ∧ W.cell? ⟨g1, k * 6 + 5, none⟩ = some (.string y.out) ∧ W.cell? ⟨g2, k * 6, none⟩ = some (.int .i64 y.num) ∧ W.cell? ⟨g2, k * 6 + 1, none⟩ = some (.int .i64 y.site) ∧ W.cell? ⟨g2, k * 6 + 2, none⟩ = some (.int .i64 y.seq) ∧ W.cell? ⟨g2, k * 6 + 3, none⟩ = some (.int .i64 y.at_) ∧ W.cell? ⟨g2, k * 6 + 4, none⟩ = some (.string y.inn) ∧ W.cell? ⟨g2, k * 6 + 5, none⟩ = some (.string y.out) from fun W m => by
        have k1 := KA.out.mod m (fun e => e)
        have k2 := KB.out.mod m (fun e => e)
        exact ⟨Blk.elem StepV.len k1 k 0 _ HY.out (by decide), Blk.elem StepV.len k1 k 1 _ HY.out (by decide), Blk.elem StepV.len k1 k 2 _ HY.out (by decide), Blk.elem StepV.len k1 k 3 _ HY.out (by decide), Blk.elem StepV.len k1 k 4 _ HY.out (by decide), Blk.elem StepV.len k1 k 5 _ HY.out (by decide),
          Blk.elem StepV.len k2 k 0 _ HY.out (by decide), Blk.elem StepV.len k2 k 1 _ HY.out (by decide), Blk.elem StepV.len k2 k 2 _ HY.out (by decide), Blk.elem StepV.len k2 k 3 _ HY.out (by decide), Blk.elem StepV.len k2 k 4 _ HY.out (by decide), Blk.elem StepV.len k2 k 5 _ HY.out (by decide)⟩)
      have hoff : k * 6 + 0 = k * 6 := rfl
      clear mx hy hs1 hs2 kg1 kg2
      have mD := Mine.Mod.drew (Mine.Mod.refl none_ wr)
      go_upto_region 14 with fail
      refine wp_region_held_drew (S := fun w' => w'.cell? ⟨g1, k * 6, none⟩ = some (.int .i64 y.num) ∧ w'.cell? ⟨g1, k * 6 + 1, none⟩ = some (.int .i64 y.site) ∧ w'.cell? ⟨g1, k * 6 + 2, none⟩ = some (.int .i64 y.seq) ∧ w'.cell? ⟨g1, k * 6 + 3, none⟩ = some (.int .i64 y.at_) ∧ w'.cell? ⟨g1, k * 6 + 4, none⟩ = some (.string y.inn) ∧ w'.cell? ⟨g1, k * 6 + 5, none⟩ = some (.string y.out) ∧ w'.cell? ⟨g2, k * 6, none⟩ = some (.int .i64 y.num) ∧ w'.cell? ⟨g2, k * 6 + 1, none⟩ = some (.int .i64 y.site) ∧ w'.cell? ⟨g2, k * 6 + 2, none⟩ = some (.int .i64 y.seq) ∧ w'.cell? ⟨g2, k * 6 + 3, none⟩ = some (.int .i64 y.at_) ∧ w'.cell? ⟨g2, k * 6 + 4, none⟩ = some (.string y.inn) ∧ w'.cell? ⟨g2, k * 6 + 5, none⟩ = some (.string y.out)) (by kernel_rfl) (HCL.out _ mD) (fun hS => ?_)
      refine wpAnyH_take (i := 0) (v := .slice (some ⟨g1, 0, none⟩) rn sc) rfl (by kernel_rfl) (by kernel_rfl) (by kernel_rfl) (fun _ _ _ h => h) (Or.inl ⟨by kernel_rfl, ?_⟩) hS ?_
      · rintro w' ⟨q0, q1, q2, q3, q4, q5, q6, q7, q8, q9, q10, q11⟩; go_simp
      try simp only [Act.put, List.setIfInBounds_toArray, List.set_cons_zero, List.set_cons_succ]
      refine wpAnyH_take (i := 1) (v := .int .i64 (k : Int)) rfl (by kernel_rfl) (by kernel_rfl) (by kernel_rfl) (fun _ _ _ h => h) (Or.inl ⟨by kernel_rfl, ?_⟩) hS ?_
      · rintro w' ⟨q0, q1, q2, q3, q4, q5, q6, q7, q8, q9, q10, q11⟩; go_simp
      try simp only [Act.put, List.setIfInBounds_toArray, List.set_cons_zero, List.set_cons_succ]
      refine wpAnyH_take (i := 2) (v := .pointer (some ⟨g1, k * 6, none⟩)) rfl (by kernel_rfl) (by kernel_rfl) (by kernel_rfl) (fun _ _ _ h => h) (Or.inl ⟨by kernel_rfl, ?_⟩) hS ?_
      · rintro w' ⟨q0, q1, q2, q3, q4, q5, q6, q7, q8, q9, q10, q11⟩; go_simp
      try simp only [Act.put, List.setIfInBounds_toArray, List.set_cons_zero, List.set_cons_succ]
      refine wpAnyH_take (i := 3) (v := .agg #[.int .i64 y.num, .int .i64 y.site, .int .i64 y.seq, .int .i64 y.at_, .string y.inn, .string y.out]) rfl (by kernel_rfl) (by kernel_rfl) (by kernel_rfl) (fun _ _ _ h => h) (Or.inl ⟨by kernel_rfl, ?_⟩) hS ?_
      · rintro w' ⟨q0, q1, q2, q3, q4, q5, q6, q7, q8, q9, q10, q11⟩; go_simp
      try simp only [Act.put, List.setIfInBounds_toArray, List.set_cons_zero, List.set_cons_succ]
      refine wpAnyH_take (i := 4) (v := .slice (some ⟨g2, 0, none⟩) rn rc) rfl (by kernel_rfl) (by kernel_rfl) (by kernel_rfl) (fun _ _ _ h => h) (Or.inl ⟨by kernel_rfl, ?_⟩) hS ?_
      · rintro w' ⟨q0, q1, q2, q3, q4, q5, q6, q7, q8, q9, q10, q11⟩; go_simp
      try simp only [Act.put, List.setIfInBounds_toArray, List.set_cons_zero, List.set_cons_succ]
      refine wpAnyH_take (i := 5) (v := .int .i64 (k : Int)) rfl (by kernel_rfl) (by kernel_rfl) (by kernel_rfl) (fun _ _ _ h => h) (Or.inl ⟨by kernel_rfl, ?_⟩) hS ?_
      · rintro w' ⟨q0, q1, q2, q3, q4, q5, q6, q7, q8, q9, q10, q11⟩; go_simp
      try simp only [Act.put, List.setIfInBounds_toArray, List.set_cons_zero, List.set_cons_succ]
      refine wpAnyH_take (i := 6) (v := .pointer (some ⟨g2, k * 6, none⟩)) rfl (by kernel_rfl) (by kernel_rfl) (by kernel_rfl) (fun _ _ _ h => h) (Or.inl ⟨by kernel_rfl, ?_⟩) hS ?_
      · rintro w' ⟨q0, q1, q2, q3, q4, q5, q6, q7, q8, q9, q10, q11⟩; go_simp
      try simp only [Act.put, List.setIfInBounds_toArray, List.set_cons_zero, List.set_cons_succ]
      refine wpAnyH_take (i := 7) (v := .agg #[.int .i64 y.num, .int .i64 y.site, .int .i64 y.seq, .int .i64 y.at_, .string y.inn, .string y.out]) rfl (by kernel_rfl) (by kernel_rfl) (by kernel_rfl) (fun _ _ _ h => h) (Or.inl ⟨by kernel_rfl, ?_⟩) hS ?_
      · rintro w' ⟨q0, q1, q2, q3, q4, q5, q6, q7, q8, q9, q10, q11⟩; go_simp
      try simp only [Act.put, List.setIfInBounds_toArray, List.set_cons_zero, List.set_cons_succ]
      refine wpAnyH_ready (rs := [8]) (by kernel_rfl) (by simp) (AllReadyH.cons rfl (fun J hJ => ?_) <| AllReadyH.nil)
      go_simp
      refine (of_step _ y).mono ?_
      rintro e w7 ⟨rfl, m7⟩
      have MZ := Lib.hid ((MX.out.trans mD).trans m7)
      refine hJ.out _ _ (HCL.out _ (mD.trans m7)) (fun hS => ?_)
      clear hJ J m7
      try simp only [Act.put, List.setIfInBounds_toArray, List.set_cons_zero, List.set_cons_succ]
      refine wpAnyH_take (i := 9) (v := .bool false) rfl (by kernel_rfl) (by kernel_rfl) (by kernel_rfl) (fun _ _ _ h => h) (Or.inl ⟨by kernel_rfl, ?_⟩) hS ?_
      · rintro w' ⟨q0, q1, q2, q3, q4, q5, q6, q7, q8, q9, q10, q11⟩; go_simp
      try simp only [Act.put, List.setIfInBounds_toArray, List.set_cons_zero, List.set_cons_succ]
      refine wpAnyH_done (by kernel_rfl) ?_ _
      try simp only [List.getElem_toArray, List.getElem_cons_succ, List.getElem_cons_zero]
      try simp only [Act.put, List.setIfInBounds_toArray, List.set_cons_zero, List.set_cons_succ]
      clear hS
      go_wp2_with fail
      go_roundg (rn - (k + 1))
      all_goals first
        | omega
        | exact ⟨k + 1, rfl, by go_num, by omega, MZ.out⟩
    · clear mx
      go_wp2_with fail
      go_ret
      exact ⟨rfl, M6.out.trans MX.out⟩

end Go.Proofs.YtjgjjlolhdlofaaGreatDoor

namespace Go.Proofs.YtjgjjlolhdlofaaGreatDoor
open Go.ChangeShapes Go.WideShapes Go.ChangeAt Go.RowKit Go.Mine Go.Deep

theorem Tryz.own5 : ownKnob Tryz.prog.godebug = none := by kernel_rfl
theorem Tryz.laidOut5 : laidOutB Tryz.prog = true := by kernel_rfl

theorem accept_eq : (Rows.laid_unicode_utf8_acceptRanges : DataW Unit) = Lib.acceptData := by kernel_rfl
theorem u8types : U8Types Tryz.prog Tryz.lays197_ren := { Tryz.lays197 with }
theorem tabs_of {W : World} (h : laidMetH Tryz.prog [("unicode/utf8.acceptRanges", Rows.laid_unicode_utf8_acceptRanges), ("unicode/utf8.first", Rows.laid_unicode_utf8_first)] W) : tabsOk W := by
  rw [MakeChecks.laidMetH_plain _ _ _ (by kernel_rfl)] at h
  have h4 := Lib.laidMet.reads h (n := "unicode/utf8.acceptRanges") (.head _)
  have h3 := Lib.laidMet.reads h (n := "unicode/utf8.first") (.tail _ (.head _))
  rw [accept_eq] at h4
  have h3' : Lib.VarReads Tryz.prog W "unicode/utf8.first" Lib.firstData := by
    have := h3
    unfold Rows.laid_unicode_utf8_first at this
    rwa [Pinned.utf8First_eq] at this
  exact utf8Tabs_of_readsT u8types ⟨by kernel_rfl, by kernel_rfl, by kernel_rfl, by kernel_rfl, by kernel_rfl, by kernel_rfl, by kernel_rfl⟩ h3' h4
end Go.Proofs.YtjgjjlolhdlofaaGreatDoor
