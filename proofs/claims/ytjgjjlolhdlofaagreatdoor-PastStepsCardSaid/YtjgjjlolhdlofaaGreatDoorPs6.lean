/-
  Texts on which the claim rests, one behind the other: Rpl2 Pas1 AppG Mad1 Spo1 Pas2 Pas3 Pas4 Pas5 Pas6 Pas7 Rft4 Rpl3 Pas8 Pas9 Pas10 Pas11 Pas12.
-/
import Derived.Test.YtjgjjlolhdlofaaGreatDoorPs5
import Derived.Laws.AppendOwn
import Derived.OwnWalkIn
import Derived.Maps.AppendAt

set_option linter.unusedSimpArgs false
set_option linter.unusedVariables false

namespace Go.Proofs.YtjgjjlolhdlofaaGreatDoor
open Go.RowKit Go.Shelf Go.Mine
open Classical
attribute [local go_sem] Oper.semAt_some

/-- The law of ranges over functions, the frame behind the assignment told by what it changes in the frame ahead. -/
theorem rangeFunc_two_upd {F : Fence} {n : Nat} {P : Program} {σ α : Type} {g : Operand} {ps : Array Tmp} {assign body : Code} {Q : Exit → Act → World → Prop} {a : Act} {w : World}
    (upd : Array Value → α → Array Value) (hro : F.round = none) (h1 : 1 ≤ n) {gf : Nat} {lb : Array Value} (hg : a.eval g = .func (.func gf) #[] lb) (hFg : F.fn gf) (eg : ∀ args w, (callFunc gf args).run P w = .ok (.enter gf args) w)
    (encs : α → Array Value) (hps : ∀ x, (encs x).size = ps.size) (I : σ → World → Prop) (Ix : Code → σ → World → Prop) (step : σ → α → σ) (G : σ → α → Prop) (S : σ → Prop) (s0 : σ)
    (hI : ∀ s W W', I s W → Mod (two w.heap.size) W W' → I s W') (hIx : ∀ c s W W', Ix c s W → Mod (two w.heap.size) W W' → Ix c s W') (h0 : I s0 w)
    (hiter : ∀ (l : Nat) (J : σ → World → Prop) (Jx : Code → σ → World → Prop) (W : World), (∀ s W, J s W → I s W) → (∀ s s' W W', J s W → I s' W' → KeepTwo w.heap.size W W' → J s' W') →
      (∀ s x W1, J s W1 → G s x → YieldAt F (n - 1 - 1) P l (encs x) W1 fun e W' => (e = .returned (.bool true) ∧ J (step s x) W') ∨ (e = .returned (.bool false) ∧ ∃ c, Jx c (step s x) W')) → J s0 W → w.heap.size + 2 ≤ W.heap.size →
      CallsIn F (n - 1) P gf (#[.func (.yield l) #[] #[]] ++ lb) W fun e W' => (∃ v, e = .returned v) ∧ ((∃ s, S s ∧ J s W') ∨ (∃ c s, Jx c s W')))
    (hassign : ∀ (l : Nat) (x : α) (W : World) (K : Act → World → Prop), K ⟨upd a.tmps x, []⟩ W →
      assign.wpIn (F.inRound l) (n - 1 - 1) P (Exit.then K (fun _ _ _ => False)) { tmps := (ps.zip (encs x)).foldl (fun t (p, v) => t.setIfInBounds p v) a.tmps, defers := [] } W)
    (hbody : ∀ (l : Nat) (s : σ) (x : α) (W : World), I s W → G s x → body.wpIn (F.inRound l) (n - 1 - 1) P (twoPost w.heap.size I Ix (step s x) W) ⟨upd a.tmps x, []⟩ W)
    (hdone : ∀ (D : Nat) (s : σ) (W : World), S s → I s W → W.heap[D]? = some (.deferred (some [])) → D = w.heap.size → Q .normal { a with defers := { target := .collected D, args := #[] } :: a.defers } W)
    (hstop : ∀ (D : Nat) (c : Code) (s : σ) (W : World), Ix c s W → W.heap[D]? = some (.deferred (some [])) → D = w.heap.size → c.wpIn F n P Q { a with defers := { target := .collected D, args := #[] } :: a.defers } W) :
    (Code.rangeFunc g ps assign body).wpIn F n P Q a w :=
  rangeFunc_two hro h1 hg hFg eg encs hps I Ix step G S s0 hI hIx h0 (fun x => ⟨upd a.tmps x, []⟩) hiter hassign hbody hdone hstop


theorem documents2_any (a : Option Addr) (len cap : Nat) (b : Option Addr) (n c : Nat) (w : World) : Calls Tryz.prog 55 #[.slice a len cap, .slice b n c] w fun e w' =>
    e = .returned (.func (.func 83) #[] #[.pointer (some ⟨w.heap.size, 0, none⟩), .pointer (some ⟨w.heap.size + 1, 0, none⟩)]) ∧ w' = (w.alloc (.cells #[.slice a len cap] 22)).alloc (.cells #[.slice b n c] 73) := by
  go_enter Tryz.func55, Tryz.ntmps55
  go_wp2
  go_ret
  exact ⟨rfl, rfl⟩
/-- What Replay leaves. -/
def ReplayTo (w : World) (R : Bool) (k : Int) (ll : Nat) (B : List CellV) (E : List EntV) (e : Ending) (w' : World) : Prop :=
  (R = false → e = .returned (.tuple #[.pointer none, .int .i64 1]) ∧ Mine.Mod none_ w w') ∧ (R = true → (k < 0 ∨ (ll : Int) < k) → e = .returned (.tuple #[.pointer none, .int .i64 3]) ∧ Mine.Mod none_ w w') ∧
  (R = true → 0 ≤ k → k ≤ ll → ∃ D Ex, e = .returned (.tuple #[.pointer (some ⟨D, 0, none⟩), .int .i64 0]) ∧ DocF w Ex w' D (repL B (E.take k.toNat)))

set_option maxHeartbeats 8000000 in
set_option maxRecDepth 1000000 in
theorem replay_any (w : World) (h : HistV) (k : Int) (B : List CellV) (V : List Int) (E : List EntV) (hh : HistIs w h B V E) (hl : h.bl ≤ 1000) (hT : ∀ x ∈ E, x.o.text.size ≤ 1099511627776) (hk : -9223372036854775808 ≤ k ∧ k ≤ 9223372036854775807) :
    Calls Tryz.prog 24 #[h.v, .int .i64 k] w (ReplayTo w (histOk h B V E) k h.ll B E) := by
  have hle := hh.e.le
  have hcap := hh.e.big
  unfold maxLen at hcap
  have hBn := hh.b.n
  have hEn := hh.e.n
  have HMAY := Lib.hid (show ∀ W, Mine.Mod none_ w W → Calls Tryz.prog 23 #[h.v] W fun e w' => e = .returned (.bool (histOk h B V E)) ∧ Mine.Mod none_ W w' from fun W m => hmay_any W h B V E (hh.grown m) (by omega))
  have HALL := Lib.hid (fun W (m : Mine.Mod none_ w W) (hb : h.ll ≤ 100000) => hall_any W h E (hh.e.grown m) hb)
  have HH := Lib.hid hh
  have HTX := Lib.hid hT
  have HREP := Lib.hid (fun (e : histOk h B V E = true) => histOk_rep e hBn)
  have HNM := Lib.hid (fun (e : histOk h B V E = true) => histOk_nums e)
  obtain ⟨R, hR⟩ : ∃ R, R = histOk h B V E := ⟨_, rfl⟩
  rw [← hR] at HMAY HREP HNM ⊢
  clear hR hh hT
  obtain ⟨xba, xbl, xbc, xva, xvl, xvc, xfr, xnum, xla, xll, xlc⟩ := h
  dsimp only at hle hcap hl hBn hEn HMAY HALL HREP HNM
  obtain ⟨W0, hW0⟩ : ∃ W0, w.alloc (.cells #[.slice xba xbl xbc, .slice xva xvl xvc, .int .i64 xfr, .int .i64 xnum, .slice xla xll xlc] 32) = W0 := ⟨_, rfl⟩
  obtain ⟨K0, hK0⟩ : ∃ K0, w.heap.size = K0 := ⟨_, rfl⟩
  have M0 := Lib.hid (show Mine.Mod none_ w W0 by rw [← hW0]; exact (Mine.Mod.refl none_ w).alloc _)
  have A0 := Lib.hid (show Blk W0 K0 [.slice xba xbl xbc, .slice xva xvl xvc, .int .i64 xfr, .int .i64 xnum, .slice xla xll xlc] 32 by rw [← hW0, ← hK0]; exact Blk.new (w := w) (cs := [.slice xba xbl xbc, .slice xva xvl xvc, .int .i64 xfr, .int .i64 xnum, .slice xla xll xlc]))
  have hKw : w.heap.size ≤ K0 := by omega
  have HM := Lib.hid (HMAY.out W0 M0.out)
  have a0 := A0.out.cell 0
  have a1 := A0.out.cell 1
  have a2 := A0.out.cell 2
  have a3 := A0.out.cell 3
  have a4 := A0.out.cell 4
  simp only [List.getElem?_cons_zero, List.getElem?_cons_succ] at a0 a1 a2 a3 a4
  refine (callsIn_wide (n := 8)).1 ?_
  refine callsIn_of_wp_marks Tryz.func24 rfl trivial ?_ rfl
  refine wpIn_wide.2 (Code.wp_mono (Q := calmPost _) calmPost.out ?_)
  simp only [Tryz.ntmps24, List.size_toArray, List.length_cons, List.length_nil, Nat.reduceAdd, Nat.reduceSub, Array.replicate_succ, Array.replicate_zero, List.push_toArray, List.append_toArray, List.nil_append, List.cons_append]
  go_upto_region 1 with fail
  clear hW0 hK0
  go_wp2_with fail
  refine HM.out.mono ?_
  rintro e w1 ⟨rfl, m1⟩
  have M1 := Lib.hid (M0.out.trans m1)
  have A1 := Lib.hid (A0.out.mod m1 (fun e => e))
  clear m1 a0 a1 a2 a3 a4 HM HMAY
  cases R
  · go_wp2_with fail
    exact ⟨_, results_tmp2 rfl _ _ _, fun _ => ⟨rfl, M1.out⟩, (fun e => by cases e), (fun e => by cases e)⟩
  have HNS := Lib.hid (HNM.out (by first | rfl | trivial))
  have HRP := Lib.hid (HREP.out (by first | rfl | trivial))
  try dsimp only at HNS
  clear HNM HREP
  by_cases hk0 : k < 0
  · have hd : decide (k < 0) = true := by simpa using hk0
    have HK := Lib.hid hk0
    clear hk0
    go_wp2_with fail
    exact ⟨_, results_tmp2 rfl _ _ _, (fun e => by cases e), fun _ _ => ⟨rfl, M1.out⟩, fun _ e => by have := HK.out; omega⟩
  have hd : decide (k < 0) = false := by simpa using hk0
  have a4 := A1.out.cell 4
  simp only [List.getElem?_cons_zero, List.getElem?_cons_succ] at a4
  by_cases hk1 : (xll : Int) < k
  · have hd2 : decide ((xll : Int) < k) = true := by simpa using hk1
    have HK := Lib.hid hk1
    clear hk0 hk1
    go_wp2_with fail
    exact ⟨_, results_tmp2 rfl _ _ _, (fun e => by cases e), fun _ _ => ⟨rfl, M1.out⟩, fun _ _ e => by have := HK.out; omega⟩
  have hd2 : decide ((xll : Int) < k) = false := by simp; omega
  obtain ⟨kk, hkk⟩ : ∃ kk : Nat, k = (kk : Int) := ⟨k.toNat, by omega⟩
  subst hkk
  have hkl : kk ≤ xll := by omega
  clear hk0 hk1
  have hxl : xll ≤ 400 := HNS.out.2.2.2
  have mA := (Mine.Mod.refl none_ w1).alloc (.cells #[.pointer none] 65)
  have T2 := Lib.hid (Blk.new (w := w1) (cs := [.pointer none]) (t := 65))
  have M2 := Lib.hid (M1.out.trans mA)
  have A2 := Lib.hid (A1.out.mod mA (fun e => e))
  have HTw := Lib.hid (show w.heap.size ≤ w1.heap.size from M1.out.size)
  go_upto_region 6 with fail
  clear mA a4 hd hd2
  generalize w1.heap.size = bT at T2 HTw ⊢
  generalize w1.alloc (.cells #[.pointer none] 65) = w2 at T2 M2 A2 ⊢
  have f0 : w2.cell? ⟨K0, 0, none⟩ = some (.slice xba xbl xbc) := by rw [A2.out.cell]; rfl
  have f1 : w2.cell? ⟨K0, 1, none⟩ = some (.slice xva xvl xvc) := by rw [A2.out.cell]; rfl
  have f2 : w2.cell? ⟨K0, 2, none⟩ = some (.int .i64 xfr) := by rw [A2.out.cell]; rfl
  have f3 : w2.cell? ⟨K0, 3, none⟩ = some (.int .i64 xnum) := by rw [A2.out.cell]; rfl
  have f4 : w2.cell? ⟨K0, 4, none⟩ = some (.slice xla xll xlc) := by rw [A2.out.cell]; rfl
  have mD := Mine.Mod.drew (Mine.Mod.refl none_ w2)
  have M3 := Lib.hid (M2.out.trans mD)
  have A3 := Lib.hid (A2.out.mod mD (fun e => e))
  have T3 := Lib.hid (T2.out.mod mD (fun e => e))
  clear mD
  refine wp_region_held_drew (S := fun w' => w'.cell? ⟨K0, 0, none⟩ = some (.slice xba xbl xbc) ∧ w'.cell? ⟨K0, 1, none⟩ = some (.slice xva xvl xvc) ∧ w'.cell? ⟨K0, 2, none⟩ = some (.int .i64 xfr) ∧ w'.cell? ⟨K0, 3, none⟩ = some (.int .i64 xnum) ∧ w'.cell? ⟨K0, 4, none⟩ = some (.slice xla xll xlc)) (by kernel_rfl) ⟨f0, f1, f2, f3, f4⟩ (fun hS => ?_)
  clear f0 f1 f2 f3 f4
  refine wpAnyH_take (i := 0) (v := .pointer (some ⟨K0, 0, none⟩)) rfl (by kernel_rfl) (by kernel_rfl) (by kernel_rfl) (fun _ _ _ h => h) (Or.inl ⟨by kernel_rfl, ?_⟩) hS ?_
  · rintro w' ⟨q0, q1, q2, q3, q4⟩; go_simp
  try simp only [Act.put, List.setIfInBounds_toArray, List.set_cons_zero, List.set_cons_succ]
  refine wpAnyH_take (i := 1) (v := .slice xba xbl xbc) rfl (by kernel_rfl) (by kernel_rfl) (by kernel_rfl) (fun _ _ _ h => h) (Or.inl ⟨by kernel_rfl, ?_⟩) hS ?_
  · rintro w' ⟨q0, q1, q2, q3, q4⟩; go_simp
  try simp only [Act.put, List.setIfInBounds_toArray, List.set_cons_zero, List.set_cons_succ]
  refine wpAnyH_take (i := 2) (v := .agg #[.slice xba xbl xbc, .slice xva xvl xvc, .int .i64 xfr, .int .i64 xnum, .slice xla xll xlc]) rfl (by kernel_rfl) (by kernel_rfl) (by kernel_rfl) (fun _ _ _ h => h) (Or.inl ⟨by kernel_rfl, ?_⟩) hS ?_
  · rintro w' ⟨q0, q1, q2, q3, q4⟩; go_simp
  try simp only [Act.put, List.setIfInBounds_toArray, List.set_cons_zero, List.set_cons_succ]
  refine wpAnyH_take (i := 4) (v := .int .i64 (kk : Int)) rfl (by kernel_rfl) (by kernel_rfl) (by kernel_rfl) (fun _ _ _ h => h) (Or.inl ⟨by kernel_rfl, ?_⟩) hS ?_
  · rintro w' ⟨q0, q1, q2, q3, q4⟩; go_simp
  try simp only [Act.put, List.setIfInBounds_toArray, List.set_cons_zero, List.set_cons_succ]
  refine wpAnyH_ready (rs := [3]) (by kernel_rfl) (by simp) (AllReadyH.cons rfl (fun J hJ => ?_) <| AllReadyH.nil)
  go_simp
  refine (HALL.out _ M3.out (by omega)).mono ?_
  rintro e w4 ⟨⟨va, n4, vc, rfl, ho⟩, m4⟩
  have hn4 : xll = n4 := by
    have h1 := ho.1
    rw [flat_length OpS.len, List.length_map, hEn] at h1
    omega
  subst hn4
  have hvc : xll ≤ vc ∧ vc ≤ 9223372036854775807 := by
    rcases ownsRow_blk ho with ⟨h1, h2, _⟩ | ⟨g, cap, more, h1, _, _, hc, hm, _⟩
    · cases h1; omega
    · cases h1; exact ⟨hc, by unfold maxLen at hm; omega⟩
  have M4 := Lib.hid (M3.out.trans m4)
  have A4 := Lib.hid (A3.out.mod m4 (fun e => e))
  have T4 := Lib.hid (T3.out.mod m4 (fun e => e))
  have HO4 := Lib.hid ho
  refine hJ.out _ _ ⟨by rw [A4.out.cell]; rfl, by rw [A4.out.cell]; rfl, by rw [A4.out.cell]; rfl, by rw [A4.out.cell]; rfl, by rw [A4.out.cell]; rfl⟩ (fun hS => ?_)
  clear hJ J m4 ho
  try simp only [Act.put, List.setIfInBounds_toArray, List.set_cons_zero, List.set_cons_succ]
  refine wpAnyH_take (i := 5) (v := .slice va kk vc) rfl (by kernel_rfl) (by kernel_rfl) (by kernel_rfl) (fun _ _ _ h => h) (Or.inl ⟨by kernel_rfl, ?_⟩) hS ?_
  · rintro w' ⟨q0, q1, q2, q3, q4⟩; first | (cases va <;> (go_simp <;> (intros; omega))) | (cases va <;> go_simp)
  try simp only [Act.put, List.setIfInBounds_toArray, List.set_cons_zero, List.set_cons_succ]
  refine wpAnyH_ready (rs := [6]) (by kernel_rfl) (by simp) (AllReadyH.cons rfl (fun J hJ => ?_) <| AllReadyH.nil)
  go_simp
  refine (documents2_any xba xbl xbc va kk vc w4).mono ?_
  rintro e w5 ⟨rfl, hw5⟩
  have m5 : Mine.Mod none_ w4 w5 := by rw [hw5]; exact ((Mine.Mod.refl none_ w4).alloc _).alloc _
  have kB : Blk w5 w4.heap.size [.slice xba xbl xbc] 22 := by
    rw [hw5]
    exact (Blk.new (w := w4) (cs := [.slice xba xbl xbc]) (t := 22)).mod ((Mine.Mod.refl none_ _).alloc _) (fun e => e)
  have kL : Blk w5 (w4.heap.size + 1) [.slice va kk vc] 73 := by
    have hb := Blk.new (w := w4.alloc (.cells #[.slice xba xbl xbc] 22)) (cs := [.slice va kk vc]) (t := 73)
    rw [World.size_alloc] at hb
    rw [hw5]
    exact hb
  have hs5 : w5.heap.size = w4.heap.size + 1 + 1 := by rw [hw5, World.size_alloc, World.size_alloc]
  clear hw5
  have M5 := Lib.hid (M4.out.trans m5)
  have A5 := Lib.hid (A4.out.mod m5 (fun e => e))
  have T5 := Lib.hid (T4.out.mod m5 (fun e => e))
  have HO5 := Lib.hid (ownsRow_mod HO4.out m5 (fun _ _ e => e))
  have KB := Lib.hid kB
  have KL := Lib.hid kL
  refine hJ.out _ _ ⟨by rw [A5.out.cell]; rfl, by rw [A5.out.cell]; rfl, by rw [A5.out.cell]; rfl, by rw [A5.out.cell]; rfl, by rw [A5.out.cell]; rfl⟩ (fun hS => ?_)
  clear hJ J m5 kB kL
  try simp only [Act.put, List.setIfInBounds_toArray, List.set_cons_zero, List.set_cons_succ]
  refine wpAnyH_done (by kernel_rfl) ?_ _
  try simp only [List.getElem_toArray, List.getElem_cons_succ, List.getElem_cons_zero]
  try simp only [Act.put, List.setIfInBounds_toArray, List.set_cons_zero, List.set_cons_succ]
  go_wp2_with fail
  clear hS
  have hwb : w.heap.size ≤ w4.heap.size := M4.out.size
  have hTb : bT < w4.heap.size := T4.out.lt
  have hTw := HTw.out
  refine wpIn_wide.1 (?_ : Code.wpIn Fence.wide 8 _ _ _ _ _)
  have hI0 : repI w w5 w4.heap.size (w4.heap.size + 1) bT (.slice xba xbl xbc) (.slice va kk vc) B E none w5 := ⟨M5.out, KB.out, KL.out, T5.out, fun _ _ _ _ => rfl⟩
  have HOPS := Lib.hid (show ∀ W s, repI w w5 w4.heap.size (w4.heap.size + 1) bT (.slice xba xbl xbc) (.slice va kk vc) B E s W → IsOps W va kk vc ((opsOf E).take kk) from fun W s hI => by
    have hm : Mine.Mod none_ w W := by cases s with
      | none => exact hI.1
      | some x => exact hI.1
    have hs : repSame w w5 bT W := by cases s with
      | none => exact hI.2.2.2.2
      | some x => exact hI.2.2.2.2.2
    have hok : ∀ x ∈ opsOf E, x.o.ok W x.sp := fun x hx => by
      obtain ⟨y, hy, rfl⟩ := List.mem_map.1 hx
      exact (HH.out.e.ok y hy).1.grown hm
    refine IsOps.take (own_ops (B := w.heap.size) ?_ hok) kk hkl
    rcases ownsRow_blk HO5.out with ⟨h1, h2, h3⟩ | ⟨g, cap, more, h1, hg, hb, hc, hmx, hlx⟩
    · rw [h1, h2, h3]; exact ⟨by simp, .inl ⟨rfl, rfl⟩⟩
    · have hgT : g ≠ bT := fun e => by subst e; exact absurd (blk_same hb T5.out).2 (by decide)
      have hgw : w.heap.size ≤ g := Nat.le_trans M3.out.size hg
      cases h1
      exact blk_ownsRow hgw ((hs g hgw hb.lt hgT).trans hb) HO5.out.1 hc hmx hlx)
  refine rangeFunc_two_upd (fun t x => (t.setIfInBounds 27 (.pointer (some ⟨x, 0, none⟩))).setIfInBounds 7 (.pointer (some ⟨x, 0, none⟩))) rfl (by decide) (gf := 83) (lb := #[.pointer (some ⟨w4.heap.size, 0, none⟩), .pointer (some ⟨w4.heap.size + 1, 0, none⟩)]) rfl trivial (enters_of Tryz.func83 (by kernel_rfl) rfl)
    repEnc (fun _ => rfl) (repI w w5 w4.heap.size (w4.heap.size + 1) bT (.slice xba xbl xbc) (.slice va kk vc) B E) (fun _ _ _ => False) repStep repG (fun s => ∃ D, s = some (kk, D, true)) none ?hI ?hIx hI0 ?hiter ?assign ?body ?done ?stop
  case hI => exact fun s W W' h m => h.mod (by omega) m (by omega) (by omega) (by omega)
  case hIx => intro _ _ _ _ h _; exact h.elim
  case hiter =>
    intro l J Jx W hJI hJ hY h0 hsz
    refine (docs1_any (8 - 1) w w5 w4.heap.size (w4.heap.size + 1) bT xba xbl xbc va kk vc B V E HH.out.b hl (fun x hx => (HH.out.e.ok x hx).1) HTX.out (HOPS.out w5 none hI0) (by omega) (by omega) hvc.2 HRP.out.1 HRP.out.2 (by omega) (by omega) (by omega) (by omega) (by omega) (by omega) (by omega) HOPS.out l J Jx W hJI hJ hY h0 hsz).mono ?_
    rintro e W' ⟨h1, h2⟩
    exact ⟨h1, h2⟩
  case assign =>
    intro l x W K hK
    unfold repEnc
    simp only [List.setIfInBounds_toArray, List.set_cons_zero, List.set_cons_succ] at hK
    gi_wp2
    exact hK
  case stop =>
    rintro D c s W h
    exact h.elim
  case body =>
    rintro l st x W hI ⟨i, rfl⟩
    obtain ⟨m, kb, kl, ⟨p, kt, hp⟩, hf, hs⟩ := hI
    have c0 : W.cell? ⟨bT, 0, none⟩ = some (.pointer p) := by rw [kt.cell]; rfl
    have f0 := kt.frozen 0
    have mS := (Mine.Mod.refl (one bT) W).setCell ⟨bT, 0, none⟩ (fun _ => rfl) (.pointer (some ⟨x, 0, none⟩))
    have hex := hf.ex (w5.heap.size + 1) ⟨by omega, by omega⟩
    have neT : ∀ k, k ≠ bT → ¬ one bT k := fun k hk e => hk e
    have FIN := Lib.hid (show KeepTwo w5.heap.size W (W.setCell ⟨bT, 0, none⟩ (.pointer (some ⟨x, 0, none⟩))) ∧ repI w w5 w4.heap.size (w4.heap.size + 1) bT (.slice xba xbl xbc) (.slice va kk vc) B E (some (i, x, true)) (W.setCell ⟨bT, 0, none⟩ (.pointer (some ⟨x, 0, none⟩))) from
      ⟨fun k hk => mS.block k (by rcases hk with e | e <;> omega) (neT k (by rcases hk with e | e <;> omega)), m.transIn mS (fun b hb e => by have e' : b = bT := e; omega), kb.mod mS (neT _ (by omega)), kl.mod mS (neT _ (by omega)), ⟨_, kt.set 0 (.pointer (some ⟨x, 0, none⟩)), fun _ => rfl⟩, hf.put (mS.mono (fun k _ e => by have e' : k = bT := e; exact ⟨by omega, by omega⟩)) (fun k e => e.1), fun k h1 h2 h3 => (mS.block k (by omega) (neT k h3)).trans (hs k h1 h2 h3)⟩)
    clear m kb kl kt hp hf hs mS hex neT
    simp only [List.setIfInBounds_toArray, List.set_cons_zero, List.set_cons_succ]
    gi_wp2_with fail
    exact FIN.out
  case done =>
    rintro Df st W ⟨D, rfl⟩ hI hDf rfl
    obtain ⟨m, kb, kl, ⟨p, kt, hp⟩, hf, hs⟩ := hI
    have hpe := hp rfl
    subst hpe
    have c0 : W.cell? ⟨bT, 0, none⟩ = some (.pointer (some ⟨D, 0, none⟩)) := by rw [kt.cell]; rfl
    have mP : Mine.Mod (two w5.heap.size) W (W.putObj w5.heap.size (.deferred none)) := ⟨rfl, rfl, rfl, by simp, fun k _ hs => World.putObj_heap_other (fun e => hs (Or.inl e))⟩
    have FIN := Lib.hid (show DocF w (repEx w w5) (W.putObj w5.heap.size (.deferred none)) D (repL B (E.take kk)) from hf.put (mP.mono (fun k _ e => by rcases e with e | e <;> exact ⟨by omega, by omega⟩)) (fun k e => e.1))
    have HDF := Lib.hid hDf
    clear m kb kl kt hp hf hs mP hDf
    go_wp2_with fail
    refine ⟨by simp, .inl ⟨_, _, rfl, run_takeDeferred HDF.out, ?_⟩⟩
    exact ⟨_, results_tmp2 rfl _ _ _, (fun e => by cases e), (fun _ e => by omega), fun _ _ _ => ⟨D, _, rfl, by rw [Int.toNat_natCast]; exact FIN.out⟩⟩

end Go.Proofs.YtjgjjlolhdlofaaGreatDoor

namespace Go.Proofs.YtjgjjlolhdlofaaGreatDoor
open Go.RowKit Go.Shelf Go.Mine
attribute [local go_sem] Oper.semAt_some

theorem _root_.Go.Mine.KeepTwo.set {B : Nat} {W : World} {p : Addr} {v : Value} (h : ¬ two B p.block) : KeepTwo B W (W.setCell p v) := fun k hk => by
  have hne : k ≠ p.block := fun e => h (e ▸ hk)
  by_cases hlt : k < W.heap.size
  · exact ((Mine.Mod.refl (one p.block) W).setCell p (fun _ => rfl) v).block k hlt hne
  · have hs : (W.setCell p v).heap.size = W.heap.size := by simp
    rw [Array.getElem?_eq_none (by omega), Array.getElem?_eq_none (by omega)]

/-- Cut's own cells: what it was asked for; where the first and the last begin; how many bytes and runes are behind; the text that is left. -/
def cutI (w : World) (K B : Nat) (rs : List Int) (i n : Nat) (s : Nat × Nat) (W : World) : Prop :=
  Mine.Mod none_ w W ∧ (s.2 ≤ rs.length ∧ s.2 ≤ i + n) ∧ Blk W K [.int .i64 (i : Int)] 3 ∧ Blk W (K + 1) [.int .i64 (n : Int)] 3 ∧
  Blk W B [.int .i64 ((if i < s.2 then offs rs i else (txt rs).size : Nat) : Int)] 3 ∧ Blk W (B + 1) [.int .i64 ((txt rs).size : Int)] 3 ∧ Blk W (B + 2) [.int .i64 (offs rs s.2 : Int)] 3 ∧
  Blk W (B + 3) [.int .i64 (s.2 : Int)] 3 ∧ Blk W (B + 4) [.string (txt (rs.drop s.1))] 9
theorem cutI.mod {w : World} {K B : Nat} {rs : List Int} {i n : Nat} {s : Nat × Nat} {W W' : World} {T : Nat → Prop} (h : cutI w K B rs i n s W) (m : Mine.Mod T W W') (hK : K + 1 < B) (hw : w.heap.size ≤ K) (hT : ∀ k, T k → B + 4 < k) : cutI w K B rs i n s W' := by
  obtain ⟨h1, h2, h3, h4, h5, h6, h7, h8, h9⟩ := h
  have ne : ∀ k, k ≤ B + 4 → ¬ T k := fun k hk e => by have := hT k e; omega
  exact ⟨h1.transIn m (fun b hb e => by have := hT b e; omega), h2, h3.mod m (ne _ (by omega)), h4.mod m (ne _ (by omega)), h5.mod m (ne _ (by omega)), h6.mod m (ne _ (by omega)), h7.mod m (ne _ (by omega)), h8.mod m (ne _ (by omega)), h9.mod m (ne _ (by omega))⟩
def cutEnc (x : Int × Int) : Array Value := #[.int .i32 x.1, .int .i64 x.2]
def cutG (rs : List Int) (s : Nat × Nat) (x : Int × Int) : Prop := s.1 = s.2 ∧ ∃ r, rs[s.2]? = some r ∧ x = (r, ((Lib.encodeRune r).length : Int))

set_option maxHeartbeats 4000000 in
set_option maxRecDepth 1000000 in
theorem steps2_any (n0 : Nat) (w : World) (K B Z : Nat) (rs : List Int) (i n : Nat) (hv : vR rs) (ht : ∀ k, txtOk w (txt (rs.drop k))) (hsz : (txt rs).size ≤ 1099511627776) (hK : K + 1 < B) (hw : w.heap.size ≤ K) (hZ : B + 4 < Z)
    (l : Nat) (J : Nat × Nat → World → Prop) (Jx : Code → Nat × Nat → World → Prop) (W : World)
    (hJI : ∀ s W, J s W → cutI w K B rs i n s W) (hJ : ∀ s s' W W', J s W → cutI w K B rs i n s' W' → KeepTwo Z W W' → J s' W')
    (hY : ∀ st (x : Int × Int) W1, J st W1 → cutG rs st x → YieldAt Fence.wide (n0 - 1) Tryz.prog l (cutEnc x) W1 fun e W' => (e = .returned (.bool true) ∧ J (st.1, st.2 + 1) W') ∨ (e = .returned (.bool false) ∧ ∃ c, Jx c (st.1, st.2 + 1) W'))
    (h0 : J (0, 0) W) (hz2 : Z + 2 ≤ W.heap.size) (hkeep : ∀ s W, J s W → Z + 2 ≤ W.heap.size) :
    CallsIn Fence.wide n0 Tryz.prog 125 (#[.func (.yield l) #[] #[]] ++ #[.pointer (some ⟨B + 4, 0, none⟩)]) W fun e W' => (∃ v, e = .returned v) ∧ ((∃ st, st = (rs.length, rs.length) ∧ J st W') ∨ (∃ c st, Jx c st W')) := by
  refine callsIn_of_wp Tryz.func125 rfl trivial ?_ rfl
  simp only [Tryz.ntmps125, List.size_toArray, List.length_cons, List.length_nil, Nat.reduceAdd, Nat.reduceSub, Array.replicate_succ, Array.replicate_zero, List.push_toArray, List.append_toArray, List.nil_append, List.cons_append]
  have HJI := Lib.hid hJI
  have HJ := Lib.hid hJ
  have HY := Lib.hid hY
  have HK2 := Lib.hid hkeep
  have HT := Lib.hid ht
  have HV := Lib.hid hv
  have J0 := Lib.hid h0
  clear hJI hJ hY hkeep ht hv h0
  gi_wp2
  gi_loopw [] (fun wr => ∃ c, J (c, c) wr) (fun wr => match wr.cell? ⟨B + 4, 0, none⟩ with | some (.string t) => t.size | _ => 0)
  case atStart => exact ⟨0, J0.out⟩
  case round =>
    obtain ⟨c, hJ0⟩ := hrel
    obtain ⟨m0, ⟨hc1, hc2⟩, k1, k2, k3, k4, k5, k6, k7⟩ := HJI.out _ _ hJ0
    have M0 := Lib.hid m0
    have cc : wr.cell? ⟨B + 4, 0, none⟩ = some (.string (txt (rs.drop c))) := by rw [k7.cell]; rfl
    by_cases hlt : c < rs.length
    · obtain ⟨r, hr⟩ : ∃ r, rs[c]? = some r := ⟨rs[c]'hlt, by simp⟩
      have hdr : rs.drop c = r :: rs.drop (c + 1) := drop_cons hr
      have hvr : Lib.validRune r = true := HV.out r (List.mem_of_getElem? hr)
      have h0 : (txt (rs.drop c)).size ≠ 0 := by rw [hdr]; exact txt_ne _ _
      have hd : decide (0 < ((txt (rs.drop c)).size : Int)) = true := by simp; omega
      have hd' : decide (0 < (txt (rs.drop c)).size) = true := by simp; omega
      have hdc := decode_any (txt (rs.drop c)) wr h0 ((HT.out c).grown m0)
      have hgo : Lib.decodeGo (txt (rs.drop c)) = (r.toNat, (Lib.encodeRune r).length) := by rw [hdr]; exact decodeGo_txt hvr _
      have htl : tl (txt (rs.drop c)) (Lib.encodeRune r).length = txt (rs.drop (c + 1)) := by rw [hdr]; exact txt_cons _ _
      have hnb := bad1_txt hvr (rs.drop (c + 1))
      rw [← hdr] at hnb
      unfold bad1 at hnb
      rw [hgo] at hnb hdc
      dsimp only at hnb hdc
      obtain ⟨rn, rfl⟩ : ∃ rn : Nat, r = (rn : Int) := ⟨r.toNat, by obtain ⟨n, rfl, _⟩ := vR_cases hvr; rfl⟩
      rw [Int.toNat_natCast] at hnb hdc
      have hyy := HY.out (c, c) ((rn : Int), ((Lib.encodeRune (rn : Int)).length : Int))
      have hyG : cutG rs (c, c) ((rn : Int), ((Lib.encodeRune (rn : Int)).length : Int)) := ⟨rfl, _, hr, rfl⟩
      have hel : (Lib.encodeRune (rn : Int)).length ≤ (txt (rs.drop c)).size := by
        rw [txt_size, hdr, bytesOf_cons, List.length_append]; omega
      have hep := enc_pos (rn : Int)
      obtain ⟨q, hq⟩ : ∃ q, q = (Lib.encodeRune (rn : Int)).length := ⟨_, rfl⟩
      rw [← hq] at hnb hdc htl hyy hyG hel hep
      obtain ⟨t, ht⟩ : ∃ t, t = txt (rs.drop c) := ⟨_, rfl⟩
      rw [← ht] at cc h0 hd hd' hdc htl hel k7
      have HD := Lib.hid hdc
      have CC := Lib.hid cc
      have HTL := Lib.hid htl
      have HYY := Lib.hid hyy
      have HYG := Lib.hid hyG
      have HJ0 := Lib.hid hJ0
      have H9 := Lib.hid (show txt (rs.drop c) = t from ht.symm)
      clear hdc htl hyy hyG hr hdr hvr hgo hq ht hJ0 m0 k1 k2 k3 k4 k5 k6 k7
      gi_wp2_with fail
      refine ⟨trivial, fun h => (by cases h), ?_⟩
      refine (callsIn_wide.2 HD.out).mono ?_
      rintro e W1 ⟨rfl, m1⟩
      have hI1 : cutI w K B rs i n (c, c) W1 := (HJI.out _ _ HJ0.out).mod m1 hK hw (fun k e => e.elim)
      have hJ1 := HJ.out _ (c, c) _ _ HJ0.out hI1 (KeepTwo.of m1 (by have := HK2.out _ _ HJ0.out; omega) (fun _ _ e => e))
      have hc3 : W1.cell? ⟨B + 4, 0, none⟩ = some (.string t) := by rw [hI1.2.2.2.2.2.2.2.2.cell]; simp only [H9.out]; rfl
      obtain ⟨fn, tmps, assign, body, hy, hR⟩ := HYY.out W1 hJ1 HYG.out
      unfold cutEnc at hy
      dsimp only at hy hR
      clear m1 hI1 hJ1 cc HD
      by_cases h65 : rn = 65533
      · have h66 : ((rn : Int) == 65533) = true := by simp; omega
        have hq3 : decide ((q : Int) < 2) = false := by simp; omega
        clear hnb h65
        gi_wp2_with fail
        refine ⟨fun h => (by cases h), ?_⟩
        refine hR.mono ?_
        rintro e W' (⟨rfl, hj⟩ | ⟨rfl, cc, hj⟩)
        · obtain ⟨m0, hcc, k1, k2, k3, k4, k5, k6, k7⟩ := HJI.out _ _ hj
          have hc4 : W'.cell? ⟨B + 4, 0, none⟩ = some (.string t) := by rw [k7.cell]; simp only [H9.out]; rfl
          have hf4 := k7.frozen 0
          have k8 := k7.set 0 (.string (txt (rs.drop (c + 1))))
          have M7 := (Mine.Mod.refl (one (B + 4)) W').setCell ⟨B + 4, 0, none⟩ (fun _ => rfl) (.string (txt (rs.drop (c + 1))))
          have ne : ∀ k, k < B + 4 → ¬ one (B + 4) k := fun k hk e => by have e' : k = B + 4 := e; omega
          have hI2 : cutI w K B rs i n (c + 1, c + 1) (W'.setCell ⟨B + 4, 0, none⟩ (.string (txt (rs.drop (c + 1))))) :=
            ⟨m0.setCell _ (fun h => absurd h (by show ¬ B + 4 < w.heap.size; omega)) _, hcc, k1.mod M7 (ne _ (by omega)), k2.mod M7 (ne _ (by omega)), k3.mod M7 (ne _ (by omega)), k4.mod M7 (ne _ (by omega)), k5.mod M7 (ne _ (by omega)), k6.mod M7 (ne _ (by omega)), k8⟩
          have J2 := Lib.hid (HJ.out _ (c + 1, c + 1) _ _ hj hI2 (KeepTwo.set (fun e => by rcases e with e | e <;> (have e' : B + 4 = _ := e; omega))))
          have hte : t.extract q t.size = txt (rs.drop (c + 1)) := HTL.out
          have e1 : (W'.setCell ⟨B + 4, 0, none⟩ (.string (t.extract q t.size))).cell? ⟨B + 4, 0, none⟩ = some (.string (txt (rs.drop (c + 1)))) := by
            rw [hte]
            exact k8.cell 0
          have HTE := Lib.hid hte
          clear hte
          have hsm : (txt (rs.drop (c + 1))).size < t.size := by rw [← HTL.out, tl_size]; omega
          clear m0 hcc k1 k2 k3 k4 k5 k6 k7 k8 M7 hI2 hj
          gi_wp2
          refine ⟨⟨c + 1, by rw [HTE.out]; exact J2.out⟩, ?_⟩
          rw [e1, CC.out]
          exact hsm
        · gi_wp2
          refine bodyPost_ret (results_none rfl _ _ _) rfl ?_
          exact ⟨⟨_, rfl⟩, .inr ⟨cc, _, hj⟩⟩
      · have h66 : ((rn : Int) == 65533) = false := by simp; omega
        have h67 : ¬ (rn : Int) = 65533 := by omega
        have h68 : decide ((rn : Int) = 65533) = false := by simp; omega
        clear hnb h65
        gi_wp2_with fail
        refine ⟨fun h => (by cases h), ?_⟩
        refine hR.mono ?_
        rintro e W' (⟨rfl, hj⟩ | ⟨rfl, cc, hj⟩)
        · obtain ⟨m0, hcc, k1, k2, k3, k4, k5, k6, k7⟩ := HJI.out _ _ hj
          have hc4 : W'.cell? ⟨B + 4, 0, none⟩ = some (.string t) := by rw [k7.cell]; simp only [H9.out]; rfl
          have hf4 := k7.frozen 0
          have k8 := k7.set 0 (.string (txt (rs.drop (c + 1))))
          have M7 := (Mine.Mod.refl (one (B + 4)) W').setCell ⟨B + 4, 0, none⟩ (fun _ => rfl) (.string (txt (rs.drop (c + 1))))
          have ne : ∀ k, k < B + 4 → ¬ one (B + 4) k := fun k hk e => by have e' : k = B + 4 := e; omega
          have hI2 : cutI w K B rs i n (c + 1, c + 1) (W'.setCell ⟨B + 4, 0, none⟩ (.string (txt (rs.drop (c + 1))))) :=
            ⟨m0.setCell _ (fun h => absurd h (by show ¬ B + 4 < w.heap.size; omega)) _, hcc, k1.mod M7 (ne _ (by omega)), k2.mod M7 (ne _ (by omega)), k3.mod M7 (ne _ (by omega)), k4.mod M7 (ne _ (by omega)), k5.mod M7 (ne _ (by omega)), k6.mod M7 (ne _ (by omega)), k8⟩
          have J2 := Lib.hid (HJ.out _ (c + 1, c + 1) _ _ hj hI2 (KeepTwo.set (fun e => by rcases e with e | e <;> (have e' : B + 4 = _ := e; omega))))
          have hte : t.extract q t.size = txt (rs.drop (c + 1)) := HTL.out
          have e1 : (W'.setCell ⟨B + 4, 0, none⟩ (.string (t.extract q t.size))).cell? ⟨B + 4, 0, none⟩ = some (.string (txt (rs.drop (c + 1)))) := by
            rw [hte]
            exact k8.cell 0
          have HTE := Lib.hid hte
          clear hte
          have hsm : (txt (rs.drop (c + 1))).size < t.size := by rw [← HTL.out, tl_size]; omega
          clear m0 hcc k1 k2 k3 k4 k5 k6 k7 k8 M7 hI2 hj
          gi_wp2
          refine ⟨⟨c + 1, by rw [HTE.out]; exact J2.out⟩, ?_⟩
          rw [e1, CC.out]
          exact hsm
        · gi_wp2
          refine bodyPost_ret (results_none rfl _ _ _) rfl ?_
          exact ⟨⟨_, rfl⟩, .inr ⟨cc, _, hj⟩⟩
    · obtain rfl : c = rs.length := by omega
      have hd : decide (0 < ((txt (rs.drop rs.length)).size : Int)) = false := by rw [List.drop_length, txt_nil]; rfl
      have hd' : decide (0 < (txt (rs.drop rs.length)).size) = false := by rw [List.drop_length, txt_nil]; rfl
      have HJ0 := Lib.hid hJ0
      clear hJ0 m0 k1 k2 k3 k4 k5 k6 k7
      gi_wp2
      go_end0
      exact ⟨⟨_, rfl⟩, .inl HJ0.out⟩

/-- What Cut leaves where it is left early. -/
def cutIx (w : World) (B : Nat) (rs : List Int) (i n : Nat) (c : Code) (_ : Nat × Nat) (W : World) : Prop :=
  c = .exit 0 ∧ Mine.Mod none_ w W ∧ Blk W B [.int .i64 (offs rs i : Int)] 3 ∧ Blk W (B + 1) [.int .i64 (offs rs (i + n) : Int)] 3 ∧ i + n ≤ rs.length

set_option maxHeartbeats 8000000 in
set_option maxRecDepth 1000000 in
theorem runeCut_any (w : World) (rs : List Int) (i n : Nat) (hv : vR rs) (ht : ∀ k, txtOk w (txt (rs.drop k))) (hsz : (txt rs).size ≤ 1099511627776) (hin : i + n ≤ rs.length) :
    Calls Tryz.prog 92 #[.string (txt rs), .int .i64 (i : Int), .int .i64 (n : Int)] w fun e w' => e = .returned (.tuple #[.string (txt ((rs.drop i).take n)), .int .i64 0]) ∧ Mine.Mod none_ w w' := by
  have hL := bytesOf_len rs
  rw [← txt_size] at hL
  have HCUT := Lib.hid (txt_cut rs i n hin)
  have hofl : offs rs i ≤ offs rs (i + n) := offs_le rs _ _ (by omega)
  have hofs : offs rs (i + n) ≤ (txt rs).size := by rw [← offs_all]; exact offs_le rs _ _ hin
  obtain ⟨W0, hW0⟩ : ∃ W0, (w.alloc (.cells #[.int .i64 (i : Int)] 3)).alloc (.cells #[.int .i64 (n : Int)] 3) = W0 := ⟨_, rfl⟩
  have m0 : Mine.Mod none_ w W0 := by rw [← hW0]; exact ((Mine.Mod.refl none_ w).alloc _).alloc _
  have k0 : Blk W0 w.heap.size [.int .i64 (i : Int)] 3 := by
    rw [← hW0]
    exact (Blk.new (w := w) (cs := [.int .i64 (i : Int)]) (t := 3)).mod ((Mine.Mod.refl none_ _).alloc _) (fun e => e)
  have k1 : Blk W0 (w.heap.size + 1) [.int .i64 (n : Int)] 3 := by
    have := Blk.new (w := w.alloc (.cells #[.int .i64 (i : Int)] 3)) (cs := [.int .i64 (n : Int)]) (t := 3)
    rw [World.size_alloc] at this
    rw [← hW0]
    exact this
  have hz0 : W0.heap.size = w.heap.size + 2 := by rw [← hW0]; simp
  obtain ⟨K, hK⟩ : ∃ K, w.heap.size = K := ⟨_, rfl⟩
  have HLEN := Lib.hid (len_any (txt rs) W0 ((show txtOk w (txt rs) from ht 0).grown m0) (by omega))
  rw [ulen_txt hv] at HLEN
  have M0 := Lib.hid m0
  have K0 := Lib.hid k0
  have K1 := Lib.hid k1
  have HV := Lib.hid hv
  have HT := Lib.hid ht
  have HZ0 := Lib.hid hz0
  have HKK := Lib.hid hK
  rw [hK] at K0 K1 HZ0
  clear m0 k0 k1 hv ht hz0
  refine (callsIn_wide (n := 6)).1 ?_
  refine callsIn_of_wp_marks Tryz.func92 rfl trivial ?_ rfl
  refine wpIn_wide.2 (Code.wp_mono (Q := calmPost _) calmPost.out ?_)
  simp only [Tryz.ntmps92, List.size_toArray, List.length_cons, List.length_nil, Nat.reduceAdd, Nat.reduceSub, Array.replicate_succ, Array.replicate_zero, List.push_toArray, List.append_toArray, List.nil_append, List.cons_append]
  go_upto_region 1 with fail
  clear hW0 hK
  go_wp2_with fail
  refine HLEN.out.mono ?_
  rintro e w1 ⟨rfl, m1⟩
  have M1 := Lib.hid (M0.out.trans m1)
  have J0 := Lib.hid (K0.out.mod m1 (fun e => e))
  have J1 := Lib.hid (K1.out.mod m1 (fun e => e))
  have hKs : K + 2 ≤ w1.heap.size := by have := m1.size; have := HZ0.out; omega
  have c0 : w1.cell? ⟨K, 0, none⟩ = some (.int .i64 (i : Int)) := J0.out.cell 0
  have c1 : w1.cell? ⟨K + 1, 0, none⟩ = some (.int .i64 (n : Int)) := J1.out.cell 0
  have d0 : decide ((rs.length : Int) < 0) = false := by simp
  have d1 : decide ((i : Int) < 0) = false := by simp
  have d2 : decide ((rs.length : Int) < (i : Int)) = false := by simp; omega
  have d2' : decide (rs.length < i) = false := by simp; omega
  have d3 : decide ((n : Int) < 0) = false := by simp
  have d4 : decide ((rs.length : Int) - (i : Int) < (n : Int)) = false := by simp; omega
  have hb1 : (rs.length : Int) ≤ 1099511627776 := by omega
  clear m1 HLEN M0 K0 K1
  go_upto_region 7 with fail
  clear d0 d1 d2 d2' d3 d4
  go_wp2_with fail
  have MW2 := Lib.hid (show ∀ W2, ((((w1.alloc (.cells #[.int .i64 ((txt rs).size : Int)] 3)).alloc (.cells #[.int .i64 ((txt rs).size : Int)] 3)).alloc (.cells #[.int .i64 0] 3)).alloc (.cells #[.int .i64 0] 3)).alloc (.cells #[.string (txt rs)] 9) = W2 → cutI w K w1.heap.size rs i n (0, 0) W2 ∧ W2.heap.size = w1.heap.size + 5 from by
    rintro W2 rfl
    have b0 := Blk.new (w := w1) (cs := [.int .i64 ((txt rs).size : Int)]) (t := 3)
    have b1 := Blk.new (w := w1.alloc (.cells #[.int .i64 ((txt rs).size : Int)] 3)) (cs := [.int .i64 ((txt rs).size : Int)]) (t := 3)
    have b2 := Blk.new (w := (w1.alloc (.cells #[.int .i64 ((txt rs).size : Int)] 3)).alloc (.cells #[.int .i64 ((txt rs).size : Int)] 3)) (cs := [.int .i64 0]) (t := 3)
    have b3 := Blk.new (w := ((w1.alloc (.cells #[.int .i64 ((txt rs).size : Int)] 3)).alloc (.cells #[.int .i64 ((txt rs).size : Int)] 3)).alloc (.cells #[.int .i64 0] 3)) (cs := [.int .i64 0]) (t := 3)
    have b4 := Blk.new (w := (((w1.alloc (.cells #[.int .i64 ((txt rs).size : Int)] 3)).alloc (.cells #[.int .i64 ((txt rs).size : Int)] 3)).alloc (.cells #[.int .i64 0] 3)).alloc (.cells #[.int .i64 0] 3)) (cs := [.string (txt rs)]) (t := 9)
    simp only [World.size_alloc] at b1 b2 b3 b4
    have mm := (((((Mine.Mod.refl none_ w1).alloc (.cells #[.int .i64 ((txt rs).size : Int)] 3)).alloc (.cells #[.int .i64 ((txt rs).size : Int)] 3)).alloc (.cells #[.int .i64 0] 3)).alloc (.cells #[.int .i64 0] 3)).alloc (.cells #[.string (txt rs)] 9)
    refine ⟨⟨M1.out.trans mm, ⟨Nat.zero_le _, Nat.zero_le _⟩, J0.out.mod mm (fun e => e), J1.out.mod mm (fun e => e), ?_, ?_, ?_, ?_, b4⟩, by simp only [World.size_alloc]⟩
    · exact b0.mod ((((Mine.Mod.refl none_ _).alloc _).alloc _).alloc _ |>.alloc _) (fun e => e)
    · exact b1.mod (((Mine.Mod.refl none_ _).alloc _).alloc _ |>.alloc _) (fun e => e)
    · exact b2.mod (((Mine.Mod.refl none_ _).alloc _).alloc _) (fun e => e)
    · exact b3.mod ((Mine.Mod.refl none_ _).alloc _) (fun e => e))
  refine (steps_any (txt rs) _).mono ?_
  rintro e w2 ⟨rfl, hw2⟩
  obtain ⟨hI0, hz2⟩ := MW2.out w2 hw2.symm
  have hB4 : ((((w1.alloc (.cells #[.int .i64 ((txt rs).size : Int)] 3)).alloc (.cells #[.int .i64 ((txt rs).size : Int)] 3)).alloc (.cells #[.int .i64 0] 3)).alloc (.cells #[.int .i64 0] 3)).heap.size = w1.heap.size + 4 := by simp only [World.size_alloc]
  rw [hB4]
  have hKB : K + 1 < w1.heap.size := by omega
  have hB1 : w1.heap.size + 1 + 1 = w1.heap.size + 2 := rfl
  have hB2 : w1.heap.size + 1 + 1 + 1 = w1.heap.size + 3 := rfl
  have HKW := Lib.hid (show w.heap.size ≤ K by have := HKK.out; omega)
  clear hw2 hB4 MW2 c0 c1 J0 J1 hKs
  generalize w1.heap.size = B at hI0 hz2 hKB hB1 hB2 ⊢
  go_wp2_with fail
  refine wpIn_wide.1 (?_ : Code.wpIn Fence.wide 6 _ _ _ _ _)
  refine rangeFunc_size_upd (fun t x => ((t.setIfInBounds 43 (.int .i32 x.1)).setIfInBounds 44 (.int .i64 x.2)).setIfInBounds 14 (.int .i64 x.2)) rfl (by decide) (gf := 125) (lb := #[.pointer (some ⟨B + 4, 0, none⟩)]) rfl trivial (enters_of Tryz.func125 (by kernel_rfl) rfl)
    cutEnc (fun _ => rfl) (cutI w K B rs i n) (cutIx w B rs i n) (fun s _ => (s.1, s.2 + 1)) (cutG rs) (fun s => s = (rs.length, rs.length)) (0, 0) ?hI ?hIx hI0 ?hiter ?assign ?body ?done ?stop
  case hI => exact fun s W W' h m => h.mod m hKB HKW.out (fun k e => by rcases e with e | e <;> omega)
  case hIx =>
    rintro c s W W' ⟨h1, h2, h3, h4, h5⟩ m
    have ne : ∀ k, k < w2.heap.size → ¬ two w2.heap.size k := fun k hk e => by rcases e with e | e <;> omega
    have := HKW.out
    exact ⟨h1, h2.transIn m (fun b hb e => by rcases e with e | e <;> omega), h3.mod m (ne _ (by omega)), h4.mod m (ne _ (by omega)), h5⟩
  case hiter =>
    intro l J Jx W hJI hJ hY h0 hsz2 hsz3
    refine (steps2_any (6 - 1) w K B w2.heap.size rs i n HV.out HT.out (by omega) hKB HKW.out (by omega) l J Jx W hJI hJ hY h0 hsz2 hsz3).mono ?_
    rintro e W' ⟨h1, h2⟩
    exact ⟨h1, h2⟩
  case assign =>
    intro l x W K hK
    unfold cutEnc
    simp only [List.setIfInBounds_toArray, List.set_cons_zero, List.set_cons_succ] at hK
    gi_wp2
    exact hK
  case body =>
    rintro l ⟨p, c⟩ x W ⟨m0, ⟨hc1, hc2⟩, k1, k2, k3, k4, k5, k6, k7⟩ ⟨hpc, r, hr, rfl⟩ _
    dsimp only at hc1 hc2 k1 k2 k3 k4 k5 k6 k7 hpc hr
    subst hpc
    have hlt : p < rs.length := (List.getElem?_eq_some_iff.1 hr).1
    have hof := offs_succ hr
    have hon : offs rs p ≤ (txt rs).size := by rw [← offs_all]; exact offs_le rs _ _ (by omega)
    have hon1 : offs rs (p + 1) ≤ (txt rs).size := by rw [← offs_all]; exact offs_le rs _ _ (by omega)
    obtain ⟨q, hq⟩ : ∃ q, q = (Lib.encodeRune r).length := ⟨_, rfl⟩
    rw [← hq] at hof ⊢
    obtain ⟨FV, hFV⟩ : ∃ FV : Nat, FV = if i < p then offs rs i else (txt rs).size := ⟨_, rfl⟩
    rw [← hFV] at k3
    have e1 : W.cell? ⟨K, 0, none⟩ = some (.int .i64 (i : Int)) := k1.cell 0
    have e2 : W.cell? ⟨K + 1, 0, none⟩ = some (.int .i64 (n : Int)) := k2.cell 0
    have e3 : W.cell? ⟨B, 0, none⟩ = some (.int .i64 (FV : Int)) := k3.cell 0
    have e4 : W.cell? ⟨B + 1, 0, none⟩ = some (.int .i64 ((txt rs).size : Int)) := k4.cell 0
    have e5 : W.cell? ⟨B + 2, 0, none⟩ = some (.int .i64 (offs rs p : Int)) := k5.cell 0
    have e6 : W.cell? ⟨B + 3, 0, none⟩ = some (.int .i64 (p : Int)) := k6.cell 0
    have f3 := k3.frozen 0
    have f4 := k4.frozen 0
    have f5 := k5.frozen 0
    have f6 := k6.frozen 0
    have hwB := HKW.out
    have ne : ∀ {b k : Nat}, b ≠ k → ¬ one k b := fun h e => h e
    have nf : ∀ {b : Nat}, K ≤ b → ¬ (b < w.heap.size) := fun h e => by omega
    by_cases hin2 : p = i + n
    · by_cases hi : p = i
      · have hn : n = 0 := by omega
        have M0 := (Mine.Mod.refl (one (B)) W).setCell ⟨B, 0, none⟩ (fun _ => rfl) (.int .i64 (offs rs p : Int))
        have M1 := (Mine.Mod.refl (one (B + 1)) (W.setCell ⟨B, 0, none⟩ (.int .i64 (offs rs p : Int)))).setCell ⟨B + 1, 0, none⟩ (fun _ => rfl) (.int .i64 (offs rs p : Int))
        have MM := ((m0.setCell ⟨B, 0, none⟩ (fun h => absurd (show B < w.heap.size from h) (nf (by omega))) (.int .i64 (offs rs p : Int))).setCell ⟨B + 1, 0, none⟩ (fun h => absurd (show B + 1 < w.heap.size from h) (nf (by omega))) (.int .i64 (offs rs p : Int)))
        have KT := ((KeepTwo.set (W := W) (p := ⟨B, 0, none⟩) (v := .int .i64 (offs rs p : Int)) (B := w2.heap.size) (fun e => by rcases e with e | e <;> (have e' : B = _ := e; omega))).trans (KeepTwo.set (W := (W.setCell ⟨B, 0, none⟩ (.int .i64 (offs rs p : Int)))) (p := ⟨B + 1, 0, none⟩) (v := .int .i64 (offs rs p : Int)) (B := w2.heap.size) (fun e => by rcases e with e | e <;> (have e' : B + 1 = _ := e; omega))))
        have k1' := ((k1.mod M0 (ne (by omega))).mod M1 (ne (by omega)))
        have k2' := ((k2.mod M0 (ne (by omega))).mod M1 (ne (by omega)))
        have k3' := ((k3.set 0 (.int .i64 (offs rs p : Int))).mod M1 (ne (by omega)))
        have k4' := ((k4.mod M0 (ne (by omega))).set 0 (.int .i64 (offs rs p : Int)))
        have k5' := ((k5.mod M0 (ne (by omega))).mod M1 (ne (by omega)))
        have k6' := ((k6.mod M0 (ne (by omega))).mod M1 (ne (by omega)))
        have k7' := ((k7.mod M0 (ne (by omega))).mod M1 (ne (by omega)))
        have FIN := Lib.hid (show KeepTwo w2.heap.size W ((W.setCell ⟨B, 0, none⟩ (.int .i64 (offs rs p : Int))).setCell ⟨B + 1, 0, none⟩ (.int .i64 (offs rs p : Int))) ∧ cutIx w B rs i n (.exit 0) (p, p + 1) ((W.setCell ⟨B, 0, none⟩ (.int .i64 (offs rs p : Int))).setCell ⟨B + 1, 0, none⟩ (.int .i64 (offs rs p : Int))) from ⟨KT, rfl, MM, by rw [← hi]; exact k3', by rw [← hin2]; exact k4', by omega⟩)
        have b1 : ((p : Int) == (i : Int)) = true := by simp; omega
        have b1' : (p == i) = true := by simp; omega
        have b2 : ((p : Int) == (i : Int) + (n : Int)) = true := by simp; omega
        clear hz2 m0 k1 k2 k3 k4 k5 k6 k7 k1' k2' k3' k4' k5' k6' k7' MM KT hof hr hq hFV M0 M1
        clear hin2 hi hn
        gi_wp2_with fail
        exact FIN.out
      · have hip : i < p := by omega
        rw [if_pos hip] at hFV
        rw [hFV] at k3
        have M0 := (Mine.Mod.refl (one (B + 1)) W).setCell ⟨B + 1, 0, none⟩ (fun _ => rfl) (.int .i64 (offs rs p : Int))
        have MM := (m0.setCell ⟨B + 1, 0, none⟩ (fun h => absurd (show B + 1 < w.heap.size from h) (nf (by omega))) (.int .i64 (offs rs p : Int)))
        have KT := (KeepTwo.set (W := W) (p := ⟨B + 1, 0, none⟩) (v := .int .i64 (offs rs p : Int)) (B := w2.heap.size) (fun e => by rcases e with e | e <;> (have e' : B + 1 = _ := e; omega)))
        have k1' := (k1.mod M0 (ne (by omega)))
        have k2' := (k2.mod M0 (ne (by omega)))
        have k3' := (k3.mod M0 (ne (by omega)))
        have k4' := (k4.set 0 (.int .i64 (offs rs p : Int)))
        have k5' := (k5.mod M0 (ne (by omega)))
        have k6' := (k6.mod M0 (ne (by omega)))
        have k7' := (k7.mod M0 (ne (by omega)))
        have FIN := Lib.hid (show KeepTwo w2.heap.size W ((W.setCell ⟨B + 1, 0, none⟩ (.int .i64 (offs rs p : Int)))) ∧ cutIx w B rs i n (.exit 0) (p, p + 1) ((W.setCell ⟨B + 1, 0, none⟩ (.int .i64 (offs rs p : Int)))) from ⟨KT, rfl, MM, k3', by rw [← hin2]; exact k4', by omega⟩)
        have b1 : ((p : Int) == (i : Int)) = false := by simp; omega
        have b1' : (p == i) = false := by simp; omega
        have b2 : ((p : Int) == (i : Int) + (n : Int)) = true := by simp; omega
        clear hz2 m0 k1 k2 k3 k4 k5 k6 k7 k1' k2' k3' k4' k5' k6' k7' MM KT hof hr hq hFV M0
        clear hin2 hi hip
        gi_wp2_with fail
        exact FIN.out
    · have hle : p < i + n := by omega
      have hcast : ((offs rs (p + 1) : Nat) : Int) = (offs rs p : Int) + (q : Int) := by rw [hof]; omega
      have hc1p : ((p + 1 : Nat) : Int) = (p : Int) + 1 := by omega
      have hsum : (offs rs p : Int) + (q : Int) ≤ 1099511627776 := by omega
      by_cases hi : p = i
      · have M0 := (Mine.Mod.refl (one (B)) W).setCell ⟨B, 0, none⟩ (fun _ => rfl) (.int .i64 (offs rs p : Int))
        have M1 := (Mine.Mod.refl (one (B + 2)) (W.setCell ⟨B, 0, none⟩ (.int .i64 (offs rs p : Int)))).setCell ⟨B + 2, 0, none⟩ (fun _ => rfl) (.int .i64 ((offs rs p : Int) + (q : Int)))
        have M2 := (Mine.Mod.refl (one (B + 3)) ((W.setCell ⟨B, 0, none⟩ (.int .i64 (offs rs p : Int))).setCell ⟨B + 2, 0, none⟩ (.int .i64 ((offs rs p : Int) + (q : Int))))).setCell ⟨B + 3, 0, none⟩ (fun _ => rfl) (.int .i64 ((p : Int) + 1))
        have MM := (((m0.setCell ⟨B, 0, none⟩ (fun h => absurd (show B < w.heap.size from h) (nf (by omega))) (.int .i64 (offs rs p : Int))).setCell ⟨B + 2, 0, none⟩ (fun h => absurd (show B + 2 < w.heap.size from h) (nf (by omega))) (.int .i64 ((offs rs p : Int) + (q : Int)))).setCell ⟨B + 3, 0, none⟩ (fun h => absurd (show B + 3 < w.heap.size from h) (nf (by omega))) (.int .i64 ((p : Int) + 1)))
        have KT := (((KeepTwo.set (W := W) (p := ⟨B, 0, none⟩) (v := .int .i64 (offs rs p : Int)) (B := w2.heap.size) (fun e => by rcases e with e | e <;> (have e' : B = _ := e; omega))).trans (KeepTwo.set (W := (W.setCell ⟨B, 0, none⟩ (.int .i64 (offs rs p : Int)))) (p := ⟨B + 2, 0, none⟩) (v := .int .i64 ((offs rs p : Int) + (q : Int))) (B := w2.heap.size) (fun e => by rcases e with e | e <;> (have e' : B + 2 = _ := e; omega)))).trans (KeepTwo.set (W := ((W.setCell ⟨B, 0, none⟩ (.int .i64 (offs rs p : Int))).setCell ⟨B + 2, 0, none⟩ (.int .i64 ((offs rs p : Int) + (q : Int))))) (p := ⟨B + 3, 0, none⟩) (v := .int .i64 ((p : Int) + 1)) (B := w2.heap.size) (fun e => by rcases e with e | e <;> (have e' : B + 3 = _ := e; omega))))
        have k1' := (((k1.mod M0 (ne (by omega))).mod M1 (ne (by omega))).mod M2 (ne (by omega)))
        have k2' := (((k2.mod M0 (ne (by omega))).mod M1 (ne (by omega))).mod M2 (ne (by omega)))
        have k3' := (((k3.set 0 (.int .i64 (offs rs p : Int))).mod M1 (ne (by omega))).mod M2 (ne (by omega)))
        have k4' := (((k4.mod M0 (ne (by omega))).mod M1 (ne (by omega))).mod M2 (ne (by omega)))
        have k5' := (((k5.mod M0 (ne (by omega))).set 0 (.int .i64 ((offs rs p : Int) + (q : Int)))).mod M2 (ne (by omega)))
        have k6' := (((k6.mod M0 (ne (by omega))).mod M1 (ne (by omega))).set 0 (.int .i64 ((p : Int) + 1)))
        have k7' := (((k7.mod M0 (ne (by omega))).mod M1 (ne (by omega))).mod M2 (ne (by omega)))
        have FIN := Lib.hid (show KeepTwo w2.heap.size W ((((W.setCell ⟨B, 0, none⟩ (.int .i64 (offs rs p : Int))).setCell ⟨B + 2, 0, none⟩ (.int .i64 ((offs rs p : Int) + (q : Int)))).setCell ⟨B + 3, 0, none⟩ (.int .i64 ((p : Int) + 1)))) ∧ cutI w K B rs i n (p, p + 1) ((((W.setCell ⟨B, 0, none⟩ (.int .i64 (offs rs p : Int))).setCell ⟨B + 2, 0, none⟩ (.int .i64 ((offs rs p : Int) + (q : Int)))).setCell ⟨B + 3, 0, none⟩ (.int .i64 ((p : Int) + 1)))) from ⟨KT, MM, ⟨by show p + 1 ≤ rs.length; omega, by show p + 1 ≤ i + n; omega⟩, k1', k2', by show Blk _ B [.int .i64 ((if i < p + 1 then offs rs i else (txt rs).size : Nat) : Int)] _; rw [if_pos (by omega), ← hi]; exact k3', k4', by show Blk _ (B + 2) [.int .i64 ((offs rs (p + 1) : Nat) : Int)] _; rw [hcast]; exact k5', by show Blk _ (B + 3) [.int .i64 ((p + 1 : Nat) : Int)] _; rw [hc1p]; exact k6', k7'⟩)
        have b1 : ((p : Int) == (i : Int)) = true := by simp; omega
        have b1' : (p == i) = true := by simp; omega
        have b2 : ((p : Int) == (i : Int) + (n : Int)) = false := by simp; omega
        clear hz2 m0 k1 k2 k3 k4 k5 k6 k7 k1' k2' k3' k4' k5' k6' k7' MM KT hof hr hq hFV M0 M1 M2
        clear hin2 hi hle hcast hc1p
        gi_wp2_with fail
        exact FIN.out
      · have M0 := (Mine.Mod.refl (one (B + 2)) W).setCell ⟨B + 2, 0, none⟩ (fun _ => rfl) (.int .i64 ((offs rs p : Int) + (q : Int)))
        have M1 := (Mine.Mod.refl (one (B + 3)) (W.setCell ⟨B + 2, 0, none⟩ (.int .i64 ((offs rs p : Int) + (q : Int))))).setCell ⟨B + 3, 0, none⟩ (fun _ => rfl) (.int .i64 ((p : Int) + 1))
        have MM := ((m0.setCell ⟨B + 2, 0, none⟩ (fun h => absurd (show B + 2 < w.heap.size from h) (nf (by omega))) (.int .i64 ((offs rs p : Int) + (q : Int)))).setCell ⟨B + 3, 0, none⟩ (fun h => absurd (show B + 3 < w.heap.size from h) (nf (by omega))) (.int .i64 ((p : Int) + 1)))
        have KT := ((KeepTwo.set (W := W) (p := ⟨B + 2, 0, none⟩) (v := .int .i64 ((offs rs p : Int) + (q : Int))) (B := w2.heap.size) (fun e => by rcases e with e | e <;> (have e' : B + 2 = _ := e; omega))).trans (KeepTwo.set (W := (W.setCell ⟨B + 2, 0, none⟩ (.int .i64 ((offs rs p : Int) + (q : Int))))) (p := ⟨B + 3, 0, none⟩) (v := .int .i64 ((p : Int) + 1)) (B := w2.heap.size) (fun e => by rcases e with e | e <;> (have e' : B + 3 = _ := e; omega))))
        have k1' := ((k1.mod M0 (ne (by omega))).mod M1 (ne (by omega)))
        have k2' := ((k2.mod M0 (ne (by omega))).mod M1 (ne (by omega)))
        have k3' := ((k3.mod M0 (ne (by omega))).mod M1 (ne (by omega)))
        have k4' := ((k4.mod M0 (ne (by omega))).mod M1 (ne (by omega)))
        have k5' := ((k5.set 0 (.int .i64 ((offs rs p : Int) + (q : Int)))).mod M1 (ne (by omega)))
        have k6' := ((k6.mod M0 (ne (by omega))).set 0 (.int .i64 ((p : Int) + 1)))
        have k7' := ((k7.mod M0 (ne (by omega))).mod M1 (ne (by omega)))
        have FIN := Lib.hid (show KeepTwo w2.heap.size W (((W.setCell ⟨B + 2, 0, none⟩ (.int .i64 ((offs rs p : Int) + (q : Int)))).setCell ⟨B + 3, 0, none⟩ (.int .i64 ((p : Int) + 1)))) ∧ cutI w K B rs i n (p, p + 1) (((W.setCell ⟨B + 2, 0, none⟩ (.int .i64 ((offs rs p : Int) + (q : Int)))).setCell ⟨B + 3, 0, none⟩ (.int .i64 ((p : Int) + 1)))) from ⟨KT, MM, ⟨by show p + 1 ≤ rs.length; omega, by show p + 1 ≤ i + n; omega⟩, k1', k2', by show Blk _ B [.int .i64 ((if i < p + 1 then offs rs i else (txt rs).size : Nat) : Int)] _; rw [show (if i < p + 1 then offs rs i else (txt rs).size) = FV by rw [hFV]; by_cases h : i < p <;> simp [h] <;> omega]; exact k3', k4', by show Blk _ (B + 2) [.int .i64 ((offs rs (p + 1) : Nat) : Int)] _; rw [hcast]; exact k5', by show Blk _ (B + 3) [.int .i64 ((p + 1 : Nat) : Int)] _; rw [hc1p]; exact k6', k7'⟩)
        have b1 : ((p : Int) == (i : Int)) = false := by simp; omega
        have b1' : (p == i) = false := by simp; omega
        have b2 : ((p : Int) == (i : Int) + (n : Int)) = false := by simp; omega
        clear hz2 m0 k1 k2 k3 k4 k5 k6 k7 k1' k2' k3' k4' k5' k6' k7' MM KT hof hr hq hFV M0 M1
        clear hin2 hi hle hcast hc1p
        gi_wp2_with fail
        exact FIN.out
  case done =>
    rintro Df st W rfl ⟨m0, ⟨hc1, hc2⟩, k1, k2, k3, k4, k5, k6, k7⟩ hDf rfl
    dsimp only at hc1 hc2 k3
    have hin3 : rs.length = i + n := by omega
    have hfi : (if i < rs.length then offs rs i else (txt rs).size) = offs rs i := by
      by_cases h : i < rs.length
      · rw [if_pos h]
      · rw [if_neg h, ← offs_all]; congr 1; omega
    have hgi : (txt rs).size = offs rs (i + n) := by rw [← offs_all, hin3]
    rw [hfi] at k3
    rw [hgi] at k4
    have c3 : W.cell? ⟨B, 0, none⟩ = some (.int .i64 (offs rs i : Int)) := k3.cell 0
    have c4 : W.cell? ⟨B + 1, 0, none⟩ = some (.int .i64 (offs rs (i + n) : Int)) := k4.cell 0
    have HDF := Lib.hid hDf
    have mP : Mine.Mod (two w2.heap.size) W (W.putObj w2.heap.size (.deferred none)) := ⟨rfl, rfl, rfl, by simp, fun k _ hs => World.putObj_heap_other (fun e => hs (Or.inl e))⟩
    have MF := Lib.hid (show Mine.Mod none_ w (W.putObj w2.heap.size (.deferred none)) from m0.transIn mP (fun b hb e => by have := HKW.out; rcases e with e | e <;> omega))
    have HC2 := Lib.hid HCUT.out
    clear hz2 m0 k1 k2 k3 k4 k5 k6 k7 hDf mP hfi hgi hin3 hc1 hc2
    obtain ⟨f, hf⟩ : ∃ f, f = offs rs i := ⟨_, rfl⟩
    obtain ⟨g, hg⟩ : ∃ g, g = offs rs (i + n) := ⟨_, rfl⟩
    rw [← hf, ← hg] at hofl
    rw [← hg] at hofs
    rw [← hf] at c3
    rw [← hg] at c4
    have HF := Lib.hid hf
    have HG := Lib.hid hg
    clear hf hg
    go_wp2_with fail
    refine ⟨by simp, .inl ⟨_, _, rfl, run_takeDeferred HDF.out, ?_⟩⟩
    exact ⟨_, results_tmp2 rfl _ _ _, by rw [HF.out, HG.out, HC2.out]; rfl, MF.out⟩
  case stop =>
    rintro Df c st W ⟨rfl, m0, k3, k4, hin3⟩ hDf rfl
    have c3 : W.cell? ⟨B, 0, none⟩ = some (.int .i64 (offs rs i : Int)) := k3.cell 0
    have c4 : W.cell? ⟨B + 1, 0, none⟩ = some (.int .i64 (offs rs (i + n) : Int)) := k4.cell 0
    have HDF := Lib.hid hDf
    have mP : Mine.Mod (two w2.heap.size) W (W.putObj w2.heap.size (.deferred none)) := ⟨rfl, rfl, rfl, by simp, fun k _ hs => World.putObj_heap_other (fun e => hs (Or.inl e))⟩
    have MF := Lib.hid (show Mine.Mod none_ w (W.putObj w2.heap.size (.deferred none)) from m0.transIn mP (fun b hb e => by have := HKW.out; rcases e with e | e <;> omega))
    have HC2 := Lib.hid HCUT.out
    clear hz2 m0 k3 k4 hDf mP
    obtain ⟨f, hf⟩ : ∃ f, f = offs rs i := ⟨_, rfl⟩
    obtain ⟨g, hg⟩ : ∃ g, g = offs rs (i + n) := ⟨_, rfl⟩
    rw [← hf, ← hg] at hofl
    rw [← hg] at hofs
    rw [← hf] at c3
    rw [← hg] at c4
    have HF := Lib.hid hf
    have HG := Lib.hid hg
    clear hf hg
    refine wpIn_exit ?_
    go_wp2_with fail
    refine ⟨by simp, .inl ⟨_, _, rfl, run_takeDeferred HDF.out, ?_⟩⟩
    exact ⟨_, results_tmp2 rfl _ _ _, by rw [HF.out, HG.out, HC2.out]; rfl, MF.out⟩
end Go.Proofs.YtjgjjlolhdlofaaGreatDoor

namespace Go.Mine
open Go.RowKit

theorem info_parts_g {P : Program} {e : TypeId} {z : Value} {size bytes : Nat} (h : (P.info? e).map (fun i => (i.zero, i.size, i.bytes)) = some (some z, size, bytes)) :
    ∃ i, P.info? e = some i ∧ i.zero = some z ∧ i.size = size ∧ i.bytes = bytes := by
  cases hi : P.info? e with
  | none => rw [hi] at h; cases h
  | some i =>
    rw [hi] at h
    simp only [Option.map_some, Option.some.injEq, Prod.mk.injEq] at h
    exact ⟨i, rfl, h.1, h.2.1, h.2.2⟩

theorem app_gen {P : Program} {W : World} {B n vc X : Nat} {va : Option Addr} {t e : TypeId} {z : Value} {size bytes : Nat} (ht : P.underlying t = some (.slice e)) (hinfo : (P.info? e).map (fun i => (i.zero, i.size, i.bytes)) = some (some z, size, bytes))
    (hzs : z.cells.size = size) (hsz : 0 < size) {xs cs : List Value} (hc : cs.length = size) (h1 : ∀ u ∈ cs, u.oneCell' = true) (ho : W.ownsRow B e size (.slice va n vc) n xs) (k : Blk W X cs e) (hb : n ≤ 1000000) (hby : bytes ≤ 1000) (hB : B ≤ W.heap.size) :
    ∃ va' vc' w', (Builtin.append_ #[t, t] t #[.slice va n vc, .slice (some ⟨X, 0, none⟩) 1 1]).run P W = .ok (.slice va' (n + 1) vc') w' ∧
      w'.ownsRow B e size (.slice va' (n + 1) vc') (n + 1) (xs ++ cs) ∧ Mod (fun k => (Value.slice va n vc).ownBlock = some k) W w' := by
  obtain ⟨i0, hi0, hz0, hz1, hz2⟩ := info_parts_g hinfo
  obtain ⟨v', w', hrun, hown, hgrow, _⟩ := run_append_own (P := P) W B t t e i0 z size bytes ht hi0 hz0 hz1 hz2 hzs hsz (.slice va n vc) n xs ho ⟨X, 0, none⟩ 1 1 cs (by rw [hc]; omega) (World.news_of_block k) h1 (by unfold maxLen; omega)
    (Nat.le_trans (Nat.mul_le_mul (by omega : n + 1 ≤ 1000001) hby) (by decide)) hB
  obtain ⟨va', vc', rfl⟩ : ∃ va' vc', v' = .slice va' (n + 1) vc' := by
    rcases ownsRow_blk hown with ⟨_, h0, _⟩ | ⟨g', c', _, rfl, _⟩
    · omega
    · exact ⟨_, c', rfl⟩
  exact ⟨va', vc', w', hrun, hown, (Mod.refl _ _).grown hgrow (fun k e _ => e)⟩
/-- The same, and where the new row lies. -/
theorem app_at {P : Program} {W : World} {B n vc X : Nat} {va : Option Addr} {t e : TypeId} {z : Value} {size bytes : Nat} (ht : P.underlying t = some (.slice e)) (hinfo : (P.info? e).map (fun i => (i.zero, i.size, i.bytes)) = some (some z, size, bytes))
    (hzs : z.cells.size = size) (hsz : 0 < size) {xs cs : List Value} (hc : cs.length = size) (h1 : ∀ u ∈ cs, u.oneCell' = true) (ho : W.ownsRow B e size (.slice va n vc) n xs) (k : Blk W X cs e) (hb : n ≤ 1000000) (hby : bytes ≤ 1000) (hB : B ≤ W.heap.size) :
    ∃ va' vc' w', (Builtin.append_ #[t, t] t #[.slice va n vc, .slice (some ⟨X, 0, none⟩) 1 1]).run P W = .ok (.slice va' (n + 1) vc') w' ∧
      w'.ownsRow B e size (.slice va' (n + 1) vc') (n + 1) (xs ++ cs) ∧ Mod (fun k => (Value.slice va n vc).ownBlock = some k) W w' ∧ ((Value.slice va' (n + 1) vc').ownBlock = (Value.slice va n vc).ownBlock ∨ (Value.slice va' (n + 1) vc').ownBlock = some W.heap.size) := by
  obtain ⟨i0, hi0, hz0, hz1, hz2⟩ := info_parts_g hinfo
  obtain ⟨v', w', hrun, hown, hgrow, _, hat⟩ := run_append_own_at (P := P) W B t t e i0 z size bytes ht hi0 hz0 hz1 hz2 hzs hsz (.slice va n vc) n xs ho ⟨X, 0, none⟩ 1 1 cs (by rw [hc]; omega) (World.news_of_block k) h1 (by unfold maxLen; omega)
    (Nat.le_trans (Nat.mul_le_mul (by omega : n + 1 ≤ 1000001) hby) (by decide)) hB
  obtain ⟨va', vc', rfl⟩ : ∃ va' vc', v' = .slice va' (n + 1) vc' := by
    rcases ownsRow_blk hown with ⟨_, h0, _⟩ | ⟨g', c', _, rfl, _⟩
    · omega
    · exact ⟨_, c', rfl⟩
  exact ⟨va', vc', w', hrun, hown, (Mod.refl _ _).grown hgrow (fun k e _ => e), hat⟩
end Go.Mine

namespace Go.Proofs.YtjgjjlolhdlofaaGreatDoor
open Go.RowKit Go.Shelf Go.Mine
attribute [local go_sem ↓] app_fold

end Go.Proofs.YtjgjjlolhdlofaaGreatDoor

namespace Go.Proofs.YtjgjjlolhdlofaaGreatDoor
open Go.RowKit Go.Shelf Go.Mine
attribute [local go_sem ↓] app_fold

/-- The last span of a list, of another length. -/
theorem flat_last (L : List (Int × Int)) (n1 : Nat) (f m v : Int) (hl : L.length = n1 + 1) (hx : L[n1]? = some (f, m)) (more : List Value) :
    (flat spCs L ++ more).set (n1 * 2 + 1) (.int .i64 v) = flat spCs (L.dropLast ++ [(f, v)]) ++ more := by
  obtain ⟨hi, e⟩ := List.getElem?_eq_some_iff.1 hx
  have hL : L = L.dropLast ++ [(f, m)] := by
    have hne : L ≠ [] := by intro h0; rw [h0] at hl; simp at hl
    have := List.dropLast_concat_getLast hne
    rw [List.getLast_eq_getElem] at this
    simp only [hl, Nat.add_sub_cancel, e] at this
    exact this.symm
  have hd : L.dropLast.length = n1 := by rw [List.length_dropLast, hl]; rfl
  conv => lhs; rw [hL]
  rw [flat_append, flat_append, List.append_assoc, List.append_assoc]
  have hfl : (flat spCs L.dropLast).length = n1 * 2 := by rw [flat_length spCs_len, hd]
  rw [List.set_append_right _ _ (by omega), hfl, show n1 * 2 + 1 - n1 * 2 = 1 by omega]
  rfl

end Go.Proofs.YtjgjjlolhdlofaaGreatDoor

namespace Go.Proofs.YtjgjjlolhdlofaaGreatDoor
open Go.RowKit Go.Mine
attribute [local go_sem ↓] app_fold

/-- A span more: seen from place i to place j. -/
def jAdd (out : List (Int × Int)) (i j : Int) : List (Int × Int) :=
  if i = j then out else
  match out.getLast? with
  | some y => if y.2 = i then out.dropLast ++ [(y.1, j)] else out ++ [(i, j)]
  | none => out ++ [(i, j)]
def jStep (L : List CellV) (out : List (Int × Int)) (x : Int × Int) : List (Int × Int) := jAdd out (seenN L x.1.toNat : Int) (seenN L (x.1 + x.2).toNat : Int)
def jL (L : List CellV) (l : List (Int × Int)) : List (Int × Int) := l.foldl (jStep L) []
theorem jL_snoc {L : List CellV} {l : List (Int × Int)} {k : Nat} {x : Int × Int} (h : l[k]? = some x) : jL L (l.take (k + 1)) = jStep L (jL L (l.take k)) x := by
  unfold jL
  obtain ⟨hk, e⟩ := List.getElem?_eq_some_iff.1 h
  rw [List.take_succ_eq_append_getElem hk, List.foldl_append, e]; rfl
theorem jAdd_same {out : List (Int × Int)} {i : Int} : jAdd out i i = out := by unfold jAdd; rw [if_pos rfl]
theorem jAdd_nil {i j : Int} (h : ¬ i = j) : jAdd [] i j = [(i, j)] := by unfold jAdd; rw [if_neg h]; rfl
theorem jAdd_some {out : List (Int × Int)} {n1 : Nat} {f m : Int} (hl : out.length = n1 + 1) (hx : out[n1]? = some (f, m)) {i j : Int} (h : ¬ i = j) :
    jAdd out i j = if m = i then out.dropLast ++ [(f, j)] else out ++ [(i, j)] := by
  have : out.getLast? = some (f, m) := by rw [List.getLast?_eq_getElem?, hl]; exact hx
  unfold jAdd
  rw [if_neg h, this]
theorem infoPair : (Tryz.prog.info? 156).map (fun i => (i.zero, i.size, i.bytes)) = some (some (.agg #[.int .i64 0, .int .i64 0]), 2, 16) := by kernel_rfl
/-- The pairs are no more than the spans, and are places of the document. -/
theorem jAdd_in {n : Int} {out : List (Int × Int)} {i j : Int} (ho : ∀ y ∈ out, 0 ≤ y.1 ∧ y.1 ≤ n ∧ 0 ≤ y.2 ∧ y.2 ≤ n) (hi : 0 ≤ i ∧ i ≤ n) (hj : 0 ≤ j ∧ j ≤ n) : ∀ y ∈ jAdd out i j, 0 ≤ y.1 ∧ y.1 ≤ n ∧ 0 ≤ y.2 ∧ y.2 ≤ n := by
  unfold jAdd
  split
  · exact ho
  · have hd : ∀ y ∈ out.dropLast, y ∈ out := fun y hy => List.dropLast_subset _ hy
    cases hl : out.getLast? with
    | none =>
      intro y hy
      rcases List.mem_append.1 hy with hy | hy
      · exact ho y hy
      · simp at hy; subst hy; exact ⟨hi.1, hi.2, hj.1, hj.2⟩
    | some z =>
      have hz := List.mem_of_getLast? hl
      dsimp only
      split
      · intro y hy
        rcases List.mem_append.1 hy with hy | hy
        · exact ho y (hd y hy)
        · simp at hy; subst hy; exact ⟨(ho z hz).1, (ho z hz).2.1, hj.1, hj.2⟩
      · intro y hy
        rcases List.mem_append.1 hy with hy | hy
        · exact ho y hy
        · simp at hy; subst hy; exact ⟨hi.1, hi.2, hj.1, hj.2⟩
theorem jL_in (L : List CellV) (l : List (Int × Int)) : ∀ y ∈ jL L l, 0 ≤ y.1 ∧ y.1 ≤ (L.length : Int) ∧ 0 ≤ y.2 ∧ y.2 ≤ (L.length : Int) := by
  unfold jL
  suffices h : ∀ (l : List (Int × Int)) (out : List (Int × Int)), (∀ y ∈ out, 0 ≤ y.1 ∧ y.1 ≤ (L.length : Int) ∧ 0 ≤ y.2 ∧ y.2 ≤ (L.length : Int)) → ∀ y ∈ l.foldl (jStep L) out, 0 ≤ y.1 ∧ y.1 ≤ (L.length : Int) ∧ 0 ≤ y.2 ∧ y.2 ≤ (L.length : Int) from h l [] (fun y hy => by cases hy)
  intro l
  induction l with
  | nil => intro out h; exact h
  | cons x l ih =>
    intro out h
    refine ih _ (jAdd_in h ?_ ?_)
    · have := (seenN_le L x.1.toNat).2; omega
    · have := (seenN_le L (x.1 + x.2).toNat).2; omega

set_option maxHeartbeats 4000000 in
set_option maxRecDepth 1000000 in
theorem joined_any (w : World) (D : Nat) (L : List CellV) (a : Option Addr) (len cap : Nat) (sp : List (Int × Int)) (hd : DocIs w 0 D L) (hL : L.length ≤ 20000) (h : IsSpans w a len cap sp) (hin : ∀ x ∈ sp, 0 ≤ x.1 ∧ 1 ≤ x.2 ∧ x.1 + x.2 ≤ (L.length : Int)) (hlen : len ≤ 20001) :
    Calls Tryz.prog 91 #[.pointer (some ⟨D, 0, none⟩), .slice a len cap] w fun e w' => (∃ va n vc, e = .returned (.slice va n vc) ∧ w'.ownsRow w.heap.size 156 2 (.slice va n vc) n (flat spCs (jL L sp)) ∧ n ≤ len) ∧ Mod none_ w w' := by
  have hle := h.le
  have hcap := h.big
  unfold maxLen at hcap
  have HD := Lib.hid hd
  have HS := Lib.hid h
  have HN := Lib.hid h.n
  have HIN := Lib.hid hin
  clear hd h hin
  go_enter Tryz.func91, Tryz.ntmps91
  go_wp2_with fail
  go_loopg [5, 15] len (fun g s5 s15 wx => ∃ (k n : Nat) (va : Option Addr) (vc : Nat), g = len - k ∧ s5 = .slice va n vc ∧ s15 = .int .i64 (k : Int) ∧ k ≤ len ∧ Mod none_ w wx ∧ RowKit.Hid (wx.ownsRow w.heap.size 156 2 (.slice va n vc) n (flat spCs (jL L (sp.take k))) ∧ n ≤ k))
  case atStart => exact ⟨0, 0, none, 0, rfl, rfl, rfl, Nat.zero_le _, Mod.refl _ _, Lib.hid ⟨⟨rfl, .inl ⟨rfl, rfl⟩⟩, Nat.le_refl _⟩⟩
  case round =>
    obtain ⟨k, n, va, vc, rfl, rfl, rfl, hk, mx, hst⟩ := hrel
    obtain ⟨ho, hnk⟩ := hst.out
    have MX := Lib.hid mx
    have HO := Lib.hid ho
    by_cases hlk : k < len
    · obtain ⟨⟨f, m⟩, hx⟩ : ∃ x, sp[k]? = some x := ⟨sp[k]'(by rw [HN.out]; exact hlk), by simp⟩
      obtain ⟨b, off, rfl, c0, c1⟩ := (HS.out.grown mx).cells k _ hx
      obtain ⟨h1, h2, h3⟩ := HIN.out _ (List.mem_of_getElem? hx)
      dsimp only at h1 h2 h3 c0 c1
      have HJ := Lib.hid (jL_snoc (L := L) hx)
      unfold jStep at HJ
      dsimp only at HJ
      obtain ⟨si, hsi⟩ : ∃ si, si = seenN L f.toNat := ⟨_, rfl⟩
      obtain ⟨sj, hsj⟩ : ∃ sj, sj = seenN L (f + m).toNat := ⟨_, rfl⟩
      have hsi2 : si ≤ 20000 := by rw [hsi]; have := (seenN_le L f.toNat).2; omega
      have hsj2 : sj ≤ 20000 := by rw [hsj]; have := (seenN_le L (f + m).toNat).2; omega
      rw [← hsi, ← hsj] at HJ
      have HS1 := Lib.hid (show ∀ W, Mod none_ w W → Calls Tryz.prog 89 #[.pointer (some ⟨D, 0, none⟩), .int .i64 f] W fun e w' => e = .returned (.tuple #[.int .i64 (si : Int), .int .i64 0]) ∧ Mod none_ W w' from fun W m0 => by
        have := seen_any W 0 D L f (HD.out.grown m0) (by omega)
        unfold seenV at this
        rw [if_neg (by omega), ← hsi] at this
        exact this)
      have HS2 := Lib.hid (show ∀ W, Mod none_ w W → Calls Tryz.prog 89 #[.pointer (some ⟨D, 0, none⟩), .int .i64 (f + m)] W fun e w' => e = .returned (.tuple #[.int .i64 (sj : Int), .int .i64 0]) ∧ Mod none_ W w' from fun W m0 => by
        have := seen_any W 0 D L (f + m) (HD.out.grown m0) (by omega)
        unfold seenV at this
        rw [if_neg (by omega), ← hsj] at this
        exact this)
      obtain ⟨W1, hW1⟩ : ∃ W1, wr.alloc (.cells #[.int .i64 f, .int .i64 m] 55) = W1 := ⟨_, rfl⟩
      have mE : Mod none_ wr W1 := by rw [← hW1]; exact (Mod.refl none_ wr).alloc _
      have kE : Blk W1 wr.heap.size [.int .i64 f, .int .i64 m] 55 := by rw [← hW1]; exact Blk.new
      have e0 : W1.cell? ⟨wr.heap.size, 0, none⟩ = some (.int .i64 f) := kE.cell 0
      have e1 : W1.cell? ⟨wr.heap.size, 1, none⟩ = some (.int .i64 m) := kE.cell 1
      have M1 := Lib.hid (mx.trans mE)
      have O1 := Lib.hid (ownsRow_mod ho mE (fun _ _ e => e))
      have HC1 := Lib.hid (HS1.out W1 M1.out)
      clear hst ho mx mE hsi hsj hx HS1 kE
      go_upto_region 5 with fail
      clear c0 c1 hW1
      go_wp2_with fail
      refine HC1.out.mono ?_
      rintro e w2 ⟨rfl, m2⟩
      have M2 := Lib.hid (M1.out.trans m2)
      have O2 := Lib.hid (ownsRow_mod O1.out m2 (fun _ _ e => e))
      have e0 := m2.cell (fun e => e) e0
      have e1 := m2.cell (fun e => e) e1
      have HC2 := Lib.hid (HS2.out w2 M2.out)
      have hfm1 : -9223372036854775808 ≤ f + m := by omega
      have hfm2 : f + m ≤ 9223372036854775807 := by omega
      clear m2 HS2 HC1 O1 M1
      go_wp2_with fail
      refine HC2.out.mono ?_
      rintro e w3 ⟨rfl, m3⟩
      have M3 := Lib.hid (M2.out.trans m3)
      have O3 := Lib.hid (ownsRow_mod O2.out m3 (fun _ _ e => e))
      clear m3 HC2 O2 M2 e0 e1
      by_cases hij : si = sj
      · subst hij
        have HF := Lib.hid (show w3.ownsRow w.heap.size 156 2 (.slice va n vc) n (flat spCs (jL L (sp.take (k + 1)))) ∧ n ≤ k + 1 from ⟨by rw [HJ.out, jAdd_same]; exact O3.out, by omega⟩)
        have hb : ((si : Int) == (si : Int)) = true := by simp
        clear HJ O3 HO
        go_wp2_with fail
        go_roundg (len - (k + 1))
        case measure => omega
        case rel => exact ⟨k + 1, n, va, vc, rfl, rfl, by go_num, by omega, M3.out, HF⟩
      have hb : ((si : Int) == (sj : Int)) = false := by simp; omega
      have hne : ¬ (si : Int) = (sj : Int) := by omega
      have hlen := (O3.out).1
      rw [flat_length spCs_len] at hlen
      have hln : (jL L (sp.take k)).length = n := by omega
      clear hlen
      obtain ⟨va', vc', w4, hrun, hown, mg⟩ := app_gen (P := Tryz.prog) (W := w3.alloc (.cells #[.int .i64 (si : Int), .int .i64 (sj : Int)] 156)) (t := 155) (e := 156) Tryz.underlying155 infoPair rfl (by decide) (cs := [.int .i64 (si : Int), .int .i64 (sj : Int)]) rfl (fun u hu => by simp at hu; rcases hu with rfl | rfl <;> rfl)
        (ownsRow_mod O3.out ((Mod.refl none_ w3).alloc _) (fun _ _ e => e)) Blk.new (by omega) (by decide) (by rw [World.size_alloc]; have := M3.out.size; omega)
      have M4 := Lib.hid (show Mod none_ w w4 from ((M3.out.trans ((Mod.refl none_ w3).alloc _)).transIn mg (fun b hb e => by
        rcases ownsRow_blk O3.out with ⟨h1, _, _⟩ | ⟨g, cap, more, h1, hg, _⟩
        · rw [h1] at e; cases e
        · rw [h1] at e; have e' : g = b := Option.some.inj e; omega)))
      have HRUN := Lib.hid hrun
      have HOWN := Lib.hid hown
      clear hrun hown mg
      rcases Nat.eq_zero_or_pos n with hn0 | hn0
      · subst hn0
        have hnil : jL L (sp.take k) = [] := List.eq_nil_of_length_eq_zero hln
        have HF := Lib.hid (show w4.ownsRow w.heap.size 156 2 (.slice va' (0 + 1) vc') (0 + 1) (flat spCs (jL L (sp.take (k + 1)))) ∧ 0 + 1 ≤ k + 1 from ⟨by
          rw [HJ.out, hnil, jAdd_nil hne]
          have := HOWN.out
          rw [hnil] at this
          simpa using this, by omega⟩)
        clear HJ O3 HO hnil hln hne HOWN
        go_wp2_with (at_builtin; refine Lib.wpList_append_run _ rfl (.tmp 39) (.tmp 43) 155 155 rfl _ _ rfl rfl _ _ HRUN.out ?_)
        go_roundg (len - (k + 1))
        case measure => omega
        case rel => exact ⟨k + 1, 0 + 1, va', vc', rfl, rfl, by go_num, by omega, M4.out, HF⟩
      obtain ⟨n1, rfl⟩ : ∃ n1, n = n1 + 1 := ⟨n - 1, by omega⟩
      obtain ⟨⟨g, e⟩, hy⟩ : ∃ x, (jL L (sp.take k))[n1]? = some x := ⟨(jL L (sp.take k))[n1]'(by omega), by simp⟩
      rcases ownsRow_blk O3.out with ⟨_, h0, _⟩ | ⟨g2, cap2, more, hsl, hgb, kg, hnc, hcm, hll⟩
      · omega
      obtain ⟨rfl, rfl⟩ : va = some ⟨g2, 0, none⟩ ∧ vc = cap2 := by simpa using hsl
      have d1 : w3.cell? ⟨g2, n1 * 2 + 1, none⟩ = some (.int .i64 e) := Blk.elem spCs_len kg n1 1 _ hy (by decide)
      have f1 := kg.frozen (n1 * 2 + 1)
      have hadd := jAdd_some hln hy hne
      have hbd := jL_in L (sp.take k) _ (List.mem_of_getElem? hy)
      dsimp only at hbd hadd
      have hcm' := hcm
      unfold maxLen at hcm'
      have hn20 : (n1 : Int) + 1 ≤ 20001 := by omega
      have hix : ¬ ((n1 : Int) + 1 ≤ (n1 : Int)) := by omega
      have hge : decide (0 ≤ (n1 : Int)) = true := by rw [decide_eq_true_eq]; omega
      by_cases hee : e = si
      · subst hee
        have hb2 : ((si : Int) == (si : Int)) = true := by simp
        have HF := Lib.hid (show (w3.setCell ⟨g2, n1 * 2 + 1, none⟩ (.int .i64 (sj : Int))).ownsRow w.heap.size 156 2 (.slice (some ⟨g2, 0, none⟩) (n1 + 1) vc) (n1 + 1) (flat spCs (jL L (sp.take (k + 1)))) ∧ n1 + 1 ≤ k + 1 from by
          have hl2 : ((jL L (sp.take k)).dropLast ++ [(g, (sj : Int))]).length = n1 + 1 := by
            rw [List.length_append, List.length_dropLast, hln]; rfl
          have kg' := kg.set (n1 * 2 + 1) (.int .i64 (sj : Int))
          rw [flat_last _ n1 g (si : Int) (sj : Int) hln hy more] at kg'
          rw [HJ.out, hadd, if_pos rfl]
          exact ⟨blk_ownsRow hgb kg' (by rw [flat_length spCs_len, hl2]) hnc hcm (by rw [flat_length spCs_len, hl2]; rw [flat_length spCs_len, hln] at hll; exact hll), by omega⟩)
        have MF := Lib.hid (show Mod none_ w (w3.setCell ⟨g2, n1 * 2 + 1, none⟩ (.int .i64 (sj : Int))) from M3.out.setCell ⟨g2, n1 * 2 + 1, none⟩ (fun e => by have e' : g2 < w.heap.size := e; omega) _)
        clear HJ O3 HO hln hne HOWN HRUN M4 hy kg hadd hsl hll
        go_wp2_with fail
        go_roundg (len - (k + 1))
        case measure => omega
        case rel => exact ⟨k + 1, n1 + 1, _, vc, rfl, rfl, by go_num, by omega, MF.out, HF⟩
      · have hb2 : (e == (si : Int)) = false := by simp; omega
        have HF := Lib.hid (show w4.ownsRow w.heap.size 156 2 (.slice va' (n1 + 1 + 1) vc') (n1 + 1 + 1) (flat spCs (jL L (sp.take (k + 1)))) ∧ n1 + 1 + 1 ≤ k + 1 from ⟨by
          rw [HJ.out, hadd, if_neg hee, flat_append]
          simpa using HOWN.out, by omega⟩)
        clear HJ O3 HO hln hne HOWN hy kg hadd hsl hll
        go_wp2_with (at_builtin; refine Lib.wpList_append_run _ rfl (.tmp 39) (.tmp 43) 155 155 rfl _ _ rfl rfl _ _ HRUN.out ?_)
        go_roundg (len - (k + 1))
        case measure => omega
        case rel => exact ⟨k + 1, n1 + 1 + 1, va', vc', rfl, rfl, by go_num, by omega, M4.out, HF⟩
    · obtain rfl : k = len := by omega
      rw [List.take_of_length_le (by rw [HN.out]; omega)] at ho
      have HF := Lib.hid ho
      clear ho hst HO mx
      go_wp2_with fail
      go_ret
      exact ⟨⟨va, n, vc, rfl, HF.out, hnk⟩, MX.out⟩
end Go.Proofs.YtjgjjlolhdlofaaGreatDoor

namespace Go.Proofs.YtjgjjlolhdlofaaGreatDoor
open Go.RowKit Go.Shelf Go.Mine
attribute [local go_sem] Oper.semAt_some
attribute [local go_sem ↓] app_fold

/-- The pairs are runs of what is seen. -/
theorem seenN_live (L : List CellV) (p : Nat) : seenN L p ≤ liveN L := by
  unfold seenN
  have : liveN L = liveN (L.take p) + liveN (L.drop p) := by rw [← liveN_append, List.take_append_drop]
  omega
theorem seenN_mono (L : List CellV) (p q : Nat) (h : p ≤ q) : seenN L p ≤ seenN L q := by
  have h1 : seenN L p = seenN (L.take q) p := by
    unfold seenN
    rw [List.take_take]
    congr 2
    omega
  rw [h1]
  exact seenN_live _ _
theorem jAdd_run {n : Int} {out : List (Int × Int)} {i j : Int} (ho : ∀ y ∈ out, 0 ≤ y.1 ∧ y.1 ≤ y.2 ∧ y.2 ≤ n) (hi : 0 ≤ i ∧ i ≤ j ∧ j ≤ n) : ∀ y ∈ jAdd out i j, 0 ≤ y.1 ∧ y.1 ≤ y.2 ∧ y.2 ≤ n := by
  unfold jAdd
  split
  · exact ho
  · have hd : ∀ y ∈ out.dropLast, y ∈ out := fun y hy => List.dropLast_subset _ hy
    cases hl : out.getLast? with
    | none =>
      intro y hy
      rcases List.mem_append.1 hy with hy | hy
      · exact ho y hy
      · simp at hy; subst hy; exact hi
    | some z =>
      have hz := ho z (List.mem_of_getLast? hl)
      dsimp only
      split
      · rename_i he
        intro y hy
        rcases List.mem_append.1 hy with hy | hy
        · exact ho y (hd y hy)
        · simp at hy; subst hy; dsimp only; omega
      · intro y hy
        rcases List.mem_append.1 hy with hy | hy
        · exact ho y hy
        · simp at hy; subst hy; exact hi
theorem jL_run (L : List CellV) (l : List (Int × Int)) (hl : ∀ x ∈ l, 0 ≤ x.1 ∧ 0 ≤ x.2) : ∀ y ∈ jL L l, 0 ≤ y.1 ∧ y.1 ≤ y.2 ∧ y.2 ≤ (liveN L : Int) := by
  unfold jL
  suffices h : ∀ (l : List (Int × Int)) (out : List (Int × Int)), (∀ x ∈ l, 0 ≤ x.1 ∧ 0 ≤ x.2) → (∀ y ∈ out, 0 ≤ y.1 ∧ y.1 ≤ y.2 ∧ y.2 ≤ (liveN L : Int)) → ∀ y ∈ l.foldl (jStep L) out, 0 ≤ y.1 ∧ y.1 ≤ y.2 ∧ y.2 ≤ (liveN L : Int) from h l [] hl (fun y hy => by cases hy)
  intro l
  induction l with
  | nil => intro out _ h; exact h
  | cons x l ih =>
    intro out hx h
    refine ih _ (fun y hy => hx y (List.mem_cons_of_mem _ hy)) (jAdd_run h ?_)
    have h1 := hx x (List.mem_cons_self ..)
    have h2 := seenN_mono L x.1.toNat (x.1 + x.2).toNat (by omega)
    have h3 := seenN_live L (x.1 + x.2).toNat
    omega

/-- A step that is seen. -/
structure StepV where
  num : Int
  site : Int
  seq : Int
  at_ : Int
  inn : ByteArray
  out : ByteArray
abbrev StepV.cs (x : StepV) : List Value := [.int .i64 x.num, .int .i64 x.site, .int .i64 x.seq, .int .i64 x.at_, .string x.inn, .string x.out]
theorem StepV.len (x : StepV) : x.cs.length = 6 := rfl
def noB : ByteArray := ⟨#[]⟩
/-- The step of a run that goes. -/
def goneS (L : List CellV) (o : OpV) (y : Int × Int) : StepV := ⟨o.num, o.site, o.seq, y.1, noB, txt (((liveR L).drop y.1.toNat).take (y.2 - y.1).toNat)⟩
/-- The steps of an operation upon a document. -/
def stepsL (L : List CellV) (o : OpV) (sp : List (Int × Int)) : List StepV :=
  if o.kind = 1 then [⟨o.num, o.site, o.seq, (seenN L o.at_.toNat : Int), o.text, noB⟩] else (jL L sp).reverse.map (goneS L o)
theorem infoStep : (Tryz.prog.info? 44).map (fun i => (i.zero, i.size, i.bytes)) = some (some (.agg #[.int .i64 0, .int .i64 0, .int .i64 0, .int .i64 0, .string ⟨#[]⟩, .string ⟨#[]⟩]), 6, 64) := by kernel_rfl
theorem StepV.ones (x : StepV) : ∀ u ∈ x.cs, u.oneCell' = true := by
  intro u hu
  simp [StepV.cs] at hu
  rcases hu with rfl | rfl | rfl | rfl | rfl | rfl <;> rfl

theorem backward_any (a : Option Addr) (len cap : Nat) (w : World) : Calls Tryz.prog 90 #[.slice a len cap] w fun e w' =>
    e = .returned (.func (.func 113) #[] #[.pointer (some ⟨w.heap.size, 0, none⟩)]) ∧ w' = w.alloc (.cells #[.slice a len cap] 155) := by
  go_enter Tryz.func90, Tryz.ntmps90
  go_wp2
  go_ret
  exact ⟨rfl, rfl⟩
def backEnc (x : Nat × Int × Int) : Array Value := #[.int .i64 (x.1 : Int), .agg #[.int .i64 x.2.1, .int .i64 x.2.2]]
def backG (l : List (Int × Int)) (c : Nat) (x : Nat × Int × Int) : Prop := x.1 + 1 + c = l.length ∧ l[x.1]? = some x.2

set_option maxHeartbeats 4000000 in
set_option maxRecDepth 1000000 in
theorem back1_any (n0 : Nat) (bS B : Nat) (va : Option Addr) (n vc : Nat) (l : List (Int × Int)) (hb : n ≤ 1000000) (I : Nat → World → Prop) (hI : ∀ c W, I c W → Blk W bS [.slice va n vc] 155 ∧ W.ownsRow B 156 2 (.slice va n vc) n (flat spCs l))
    (lp : Nat) (J : Nat → World → Prop) (Jx : Code → Nat → World → Prop) (W : World) (hJI : ∀ s W, J s W → I s W)
    (hY : ∀ st (x : Nat × Int × Int) W1, J st W1 → backG l st x → YieldAt Fence.wide (n0 - 1) Tryz.prog lp (backEnc x) W1 fun e W' => (e = .returned (.bool true) ∧ J (st + 1) W') ∨ (e = .returned (.bool false) ∧ ∃ c, Jx c (st + 1) W'))
    (h0 : J 0 W) :
    CallsIn Fence.wide n0 Tryz.prog 113 (#[.func (.yield lp) #[] #[]] ++ #[.pointer (some ⟨bS, 0, none⟩)]) W fun e W' => (∃ v, e = .returned v) ∧ ((∃ s, s = n ∧ J s W') ∨ (∃ c st, Jx c st W')) := by
  have HI := Lib.hid hI
  have HJI := Lib.hid hJI
  have HY := Lib.hid hY
  have J0 := Lib.hid h0
  have hln : l.length = n := by
    have h1 := (hI _ _ (hJI _ _ h0)).2.1
    rw [flat_length spCs_len] at h1
    omega
  have hcap : vc ≤ 9223372036854775807 := by
    rcases ownsRow_blk (hI _ _ (hJI _ _ h0)).2 with ⟨h1, _, _⟩ | ⟨g, cap, more, h1, _, _, _, hm, _⟩
    · cases h1; omega
    · cases h1; unfold maxLen at hm; omega
  have c0 : W.cell? ⟨bS, 0, none⟩ = some (.slice va n vc) := (hI _ _ (hJI _ _ h0)).1.cell 0
  have HLN := Lib.hid hln
  clear hI hJI hY h0 hln
  refine callsIn_of_wp Tryz.func113 rfl trivial ?_ rfl
  simp only [Tryz.ntmps113, List.size_toArray, List.length_cons, List.length_nil, Nat.reduceAdd, Nat.reduceSub, Array.replicate_succ, Array.replicate_zero, List.push_toArray, List.append_toArray, List.nil_append, List.cons_append]
  gi_wp2_with fail
  gi_loopw [3] (fun s3 wr => ∃ (c j : Nat) (v : Int), s3 = .int .i64 v ∧ v = (j : Int) - 1 ∧ c + j = n ∧ J c wr) (fun s3 wr => (intOf s3 + 1).toNat)
  case atStart => exact ⟨0, n, _, rfl, rfl, by omega, J0.out⟩
  case round =>
    obtain ⟨c, j, v, rfl, hv, hcj, hJ0⟩ := hrel
    obtain ⟨ks, ho⟩ := HI.out _ _ (HJI.out _ _ hJ0)
    have cs : wr.cell? ⟨bS, 0, none⟩ = some (.slice va n vc) := ks.cell 0
    have HJ0 := Lib.hid hJ0
    clear c0
    cases j with
    | zero =>
      obtain rfl : v = -1 := by omega
      obtain rfl : c = n := by omega
      clear hv hcj ho ks hJ0
      gi_wp2_with fail
      go_end0
      exact ⟨⟨_, rfl⟩, .inl ⟨_, rfl, HJ0.out⟩⟩
    | succ j =>
      obtain rfl : v = (j : Int) := by omega
      obtain ⟨⟨f, m⟩, hx⟩ : ∃ x, l[j]? = some x := ⟨l[j]'(by rw [HLN.out]; omega), by simp⟩
      rcases ownsRow_blk ho with ⟨_, h0, _⟩ | ⟨g2, cap2, more, hsl, hgb, kg, hnc, hcm, hll⟩
      · omega
      obtain ⟨rfl, rfl⟩ : va = some ⟨g2, 0, none⟩ ∧ vc = cap2 := by simpa using hsl
      have d0 : wr.cell? ⟨g2, j * 2, none⟩ = some (.int .i64 f) := Blk.elem spCs_len kg j 0 _ hx (by decide)
      have d1 : wr.cell? ⟨g2, j * 2 + 1, none⟩ = some (.int .i64 m) := Blk.elem spCs_len kg j 1 _ hx (by decide)
      have hlj : j < n := by omega
      have hdj : decide (0 ≤ (j : Int)) = true := by simp
      obtain ⟨fn, tmps, assign, body, hy, hR⟩ := HY.out c (j, f, m) wr HJ0.out ⟨by have := HLN.out; dsimp only; omega, hx⟩
      unfold backEnc at hy
      dsimp only at hy hR
      clear hv ho ks hJ0 kg hx hsl hll
      gi_wp2_with fail
      refine ⟨fun h => (by cases h), ?_⟩
      refine hR.mono ?_
      rintro e W' (⟨rfl, hj⟩ | ⟨rfl, cc, hj⟩)
      · gi_wp2_with fail
        refine ⟨⟨c + 1, j, _, rfl, rfl, by omega, hj⟩, by simp [intOf]⟩
      · gi_wp2_with fail
        refine bodyPost_ret (results_none rfl _ _ _) rfl ?_
        exact ⟨⟨_, rfl⟩, .inr ⟨cc, _, hj⟩⟩

/-- What steps leaves. -/
def StepsTo (w : World) (L : List CellV) (o : OpV) (sp : List (Int × Int)) (e : Ending) (w' : World) : Prop :=
  (∃ va n vc, e = .returned (.slice va n vc) ∧ w'.ownsRow w.heap.size 44 6 (.slice va n vc) n (flat StepV.cs (stepsL L o sp)) ∧ n ≤ 1000000) ∧ Mine.Mod none_ w w'

set_option maxHeartbeats 8000000 in
set_option maxRecDepth 1000000 in
theorem stepsIns_any (w : World) (D : Nat) (L : List CellV) (o : OpV) (sp : List (Int × Int)) (hd : DocIs w 0 D L) (hL : L.length ≤ 20000) (hk : o.kind = 1) (hat : 0 ≤ o.at_ ∧ o.at_ ≤ (L.length : Int)) :
    Calls Tryz.prog 69 #[.pointer (some ⟨D, 0, none⟩), o.v] w (StepsTo w L o sp) := by
  have HST := Lib.hid (show stepsL L o sp = [⟨o.num, o.site, o.seq, (seenN L o.at_.toNat : Int), o.text, noB⟩] from by unfold stepsL; rw [if_pos hk])
  obtain ⟨si, hsi⟩ : ∃ si, si = seenN L o.at_.toNat := ⟨_, rfl⟩
  rw [← hsi] at HST
  have HS1 := Lib.hid (show ∀ W, Mine.Mod none_ w W → Calls Tryz.prog 89 #[.pointer (some ⟨D, 0, none⟩), .int .i64 o.at_] W fun e w' => e = .returned (.tuple #[.int .i64 (si : Int), .int .i64 0]) ∧ Mine.Mod none_ W w' from fun W m0 => by
    have := seen_any W 0 D L o.at_ (hd.grown m0) (by omega)
    unfold seenV at this
    rw [if_neg (by omega), ← hsi] at this
    exact this)
  unfold StepsTo
  rw [HST.out]
  clear hsi hat hd HST
  obtain ⟨site, seq, num, kind, at_, text, sa, slen, scap⟩ := o
  dsimp only at hk HS1 ⊢
  subst hk
  dsimp only [OpV.v]
  obtain ⟨W0, hW0⟩ : ∃ W0, ((w.alloc (.cells #[.pointer (some ⟨D, 0, none⟩)] 65)).alloc (.cells #[.int .i64 site, .int .i64 seq, .int .i64 num, .int .i64 1, .int .i64 at_, .string text, .slice sa slen scap] 58)).alloc (.cells #[.int .i64 num, .int .i64 site, .int .i64 seq, .int .i64 0, .string ⟨#[]⟩, .string ⟨#[]⟩] 44) = W0 := ⟨_, rfl⟩
  have m0 : Mine.Mod none_ w W0 := by rw [← hW0]; exact (((Mine.Mod.refl none_ w).alloc _).alloc _).alloc _
  have k0 : Blk W0 (w.heap.size) [.pointer (some ⟨D, 0, none⟩)] 65 := by
    have hb := Blk.new (w := w) (cs := [.pointer (some ⟨D, 0, none⟩)]) (t := 65)
    rw [← hW0]
    exact hb.mod (((Mine.Mod.refl none_ _).alloc _).alloc _) (fun e => e)
  have k1 : Blk W0 (w.heap.size + 1) [.int .i64 site, .int .i64 seq, .int .i64 num, .int .i64 1, .int .i64 at_, .string text, .slice sa slen scap] 58 := by
    have hb := Blk.new (w := (w.alloc (.cells #[.pointer (some ⟨D, 0, none⟩)] 65))) (cs := [.int .i64 site, .int .i64 seq, .int .i64 num, .int .i64 1, .int .i64 at_, .string text, .slice sa slen scap]) (t := 58)
    simp only [World.size_alloc] at hb
    rw [← hW0]
    exact hb.mod ((Mine.Mod.refl none_ _).alloc _) (fun e => e)
  have k2 : Blk W0 (w.heap.size + 1 + 1) [.int .i64 num, .int .i64 site, .int .i64 seq, .int .i64 0, .string ⟨#[]⟩, .string ⟨#[]⟩] 44 := by
    have hb := Blk.new (w := ((w.alloc (.cells #[.pointer (some ⟨D, 0, none⟩)] 65)).alloc (.cells #[.int .i64 site, .int .i64 seq, .int .i64 num, .int .i64 1, .int .i64 at_, .string text, .slice sa slen scap] 58))) (cs := [.int .i64 num, .int .i64 site, .int .i64 seq, .int .i64 0, .string ⟨#[]⟩, .string ⟨#[]⟩]) (t := 44)
    simp only [World.size_alloc] at hb
    rw [← hW0]
    exact hb.mod (Mine.Mod.refl none_ _) (fun e => e)
  have hs0 : W0.heap.size = w.heap.size + 1 + 1 + 1 := by rw [← hW0]; simp only [World.size_alloc]
  have M0 := Lib.hid m0
  have K1 := Lib.hid k1
  have K2 := Lib.hid k2
  have HC := Lib.hid (HS1.out W0 m0)
  have HW := Lib.hid hW0
  have a0 := k1.cell 0
  have a1 := k1.cell 1
  have a2 := k1.cell 2
  have a3 := k1.cell 3
  have a4 := k1.cell 4
  have a5 := k1.cell 5
  have a6 := k1.cell 6
  simp only [List.getElem?_cons_zero, List.getElem?_cons_succ] at a0 a1 a2 a3 a4 a5 a6
  have d0 : W0.cell? ⟨w.heap.size, 0, none⟩ = some (.pointer (some ⟨D, 0, none⟩)) := k0.cell 0
  clear m0 k0 k1 k2 HS1 hW0
  go_enter Tryz.func69, Tryz.ntmps69
  go_upto_region 3 with fail
  rw [HW.out]
  go_wp2_with fail
  refine HC.out.mono ?_
  rintro e w1 ⟨rfl, m1⟩
  have k1 := K1.out.mod m1 (fun e => e)
  have k2 := K2.out.mod m1 (fun e => e)
  have M1 := Lib.hid (M0.out.trans m1)
  clear a0 a1 a2 a3 a4 a5 a6 d0 m1 HC
  have a0 := k1.cell 0
  have a1 := k1.cell 1
  have a2 := k1.cell 2
  have a3 := k1.cell 3
  have a4 := k1.cell 4
  have a5 := k1.cell 5
  have a6 := k1.cell 6
  simp only [List.getElem?_cons_zero, List.getElem?_cons_succ] at a0 a1 a2 a3 a4 a5 a6
  have c0 := k2.cell 0
  have c1 := k2.cell 1
  have c2 := k2.cell 2
  have c3 := k2.cell 3
  have c4 := k2.cell 4
  have c5 := k2.cell 5
  simp only [List.getElem?_cons_zero, List.getElem?_cons_succ] at c0 c1 c2 c3 c4 c5
  have f0 := k2.frozen 0
  have f1 := k2.frozen 1
  have f2 := k2.frozen 2
  have f3 := k2.frozen 3
  have f4 := k2.frozen 4
  have f5 := k2.frozen 5
  have kF := (k2.set 3 (.int .i64 (si : Int))).set 4 (.string text)
  obtain ⟨K, hK⟩ : ∃ K, w.heap.size = K := ⟨_, rfl⟩
  have hs1 : K + 3 ≤ w1.heap.size := by have := M1.out.size; have := k2.lt; omega
  have HKK := Lib.hid hK
  rw [hK] at kF a0 a1 a2 a3 a4 a5 a6 c0 c1 c2 c3 c4 c5 f0 f1 f2 f3 f4 f5 ⊢
  have m2 : Mine.Mod none_ w ((w1.setCell ⟨K + 1 + 1, 3, none⟩ (.int .i64 (si : Int))).setCell ⟨K + 1 + 1, 4, none⟩ (.string text)) := (M1.out.setCell ⟨K + 1 + 1, 3, none⟩ (fun h => absurd (show K + 1 + 1 < w.heap.size from h) (by omega)) _).setCell ⟨K + 1 + 1, 4, none⟩ (fun h => absurd (show K + 1 + 1 < w.heap.size from h) (by omega)) _
  have kE := Blk.new (w := (w1.setCell ⟨K + 1 + 1, 3, none⟩ (.int .i64 (si : Int))).setCell ⟨K + 1 + 1, 4, none⟩ (.string text)) (cs := [.int .i64 num, .int .i64 site, .int .i64 seq, .int .i64 (si : Int), .string text, .string noB]) (t := 44)
  have hsz : ((w1.setCell ⟨K + 1 + 1, 3, none⟩ (.int .i64 (si : Int))).setCell ⟨K + 1 + 1, 4, none⟩ (.string text)).heap.size = w1.heap.size := by simp
  rw [hsz] at kE
  have FIN := Lib.hid (show (((w1.setCell ⟨K + 1 + 1, 3, none⟩ (.int .i64 (si : Int))).setCell ⟨K + 1 + 1, 4, none⟩ (.string text)).alloc (.cells #[.int .i64 num, .int .i64 site, .int .i64 seq, .int .i64 (si : Int), .string text, .string noB] 44)).ownsRow K 44 6 (.slice (some ⟨w1.heap.size, 0, none⟩) 1 1) 1 (flat StepV.cs [⟨num, site, seq, (si : Int), text, noB⟩]) from
    blk_ownsRow (more := []) (by omega) kE rfl (Nat.le_refl _) (by decide) rfl)
  have MF := Lib.hid (m2.alloc (.cells #[.int .i64 num, .int .i64 site, .int .i64 seq, .int .i64 (si : Int), .string text, .string noB] 44))
  clear k1 k2 m2 kE kF hK hsz
  go_wp2_with fail
  go_ret
  rw [HKK.out]
  exact ⟨⟨_, _, _, rfl, FIN.out, by decide⟩, MF.out⟩
end Go.Proofs.YtjgjjlolhdlofaaGreatDoor

namespace Go.Proofs.YtjgjjlolhdlofaaGreatDoor
open Go.RowKit Go.Shelf Go.Mine
attribute [local go_sem] Oper.semAt_some
attribute [local go_sem ↓] app_fold

/-- Where the steps of a deletion stand: so many pairs are behind. -/
def stpI (w : World) (K Z D bS : Nat) (L : List CellV) (o : OpV) (jl : List (Int × Int)) (ja : Option Addr) (jn jc : Nat) (c : Nat) (W : World) : Prop :=
  Mine.Mod none_ w W ∧ Blk W K [.pointer (some ⟨D, 0, none⟩)] 65 ∧ (∃ (at' : Int) (out' : ByteArray), Blk W (K + 1 + 1) [.int .i64 o.num, .int .i64 o.site, .int .i64 o.seq, .int .i64 at', .string noB, .string out'] 44) ∧
  (∃ va n vc, Blk W (K + 1 + 1 + 1) [.slice va n vc] 36 ∧ W.ownsRow (Z + 2) 44 6 (.slice va n vc) n (flat StepV.cs ((jl.reverse.take c).map (goneS L o)))) ∧
  Blk W bS [.slice ja jn jc] 155 ∧ W.ownsRow (K + 4) 156 2 (.slice ja jn jc) jn (flat spCs jl) ∧ ∀ b, (Value.slice ja jn jc).ownBlock = some b → b < Z
theorem stpI.mod {w : World} {K Z D bS : Nat} {L : List CellV} {o : OpV} {jl : List (Int × Int)} {ja : Option Addr} {jn jc c : Nat} {W W' : World} {T : Nat → Prop} (h : stpI w K Z D bS L o jl ja jn jc c W) (m : Mine.Mod T W W') (hK : K + 3 < Z) (hS : bS < Z) (hw : w.heap.size ≤ Z) (hT : ∀ k, T k → Z ≤ k ∧ k < Z + 2) : stpI w K Z D bS L o jl ja jn jc c W' := by
  obtain ⟨h1, h2, ⟨a', o', h3⟩, ⟨va, n, vc, h4, h5⟩, h6, h7, h8⟩ := h
  have ne : ∀ k, k < Z → ¬ T k := fun k hk e => by have := hT k e; omega
  refine ⟨h1.transIn m (fun b hb e => by have := hT b e; omega), h2.mod m (ne _ (by omega)), ⟨a', o', h3.mod m (ne _ (by omega))⟩, ⟨va, n, vc, h4.mod m (ne _ (by omega)), ownsRow_mod h5 m (fun k hk e => ?_)⟩, h6.mod m (ne _ hS), ownsRow_mod h7 m (fun k hk => ne _ (h8 k hk)), h8⟩
  have h9 := hT k e
  rcases ownsRow_blk h5 with ⟨h, _, _⟩ | ⟨g, cap, more, h, hg, _⟩
  · rw [h] at hk; cases hk
  · rw [h] at hk
    have : g = k := Option.some.inj hk
    omega

theorem enc_four (r : Int) : (Lib.encodeRune r).length ≤ 4 := by
  have h := flat_len [r]
  have : bytesOf [r] = Lib.encodeRune r := by rw [bytesOf_cons]; simp [bytesOf]
  rw [← this]
  have h2 := congrArg List.length (bytesOf_cells [r])
  rw [List.length_map] at h2
  simp only [List.length_cons, List.length_nil] at h
  omega

set_option maxHeartbeats 16000000 in
set_option maxRecDepth 1000000 in
theorem stepsDel_any (w : World) (S : Nat → Prop) (D : Nat) (L : List CellV) (o : OpV) (sp : List (Int × Int)) (hd : DocS w S D L) (hL : L.length ≤ 20000) (hok : ∀ c ∈ L, c.ok) (hv : vR (liveR L)) (ht : ∀ k, txtOk w (txt ((liveR L).drop k))) (hsp : IsSpans w o.sa o.slen o.scap sp) (hin : ∀ x ∈ sp, 0 ≤ x.1 ∧ 1 ≤ x.2 ∧ x.1 + x.2 ≤ (L.length : Int)) (hsl : o.slen ≤ 20001) (hk : ¬ o.kind = 1) :
    Calls Tryz.prog 69 #[.pointer (some ⟨D, 0, none⟩), o.v] w (StepsTo w L o sp) := by
  have HST := Lib.hid (show stepsL L o sp = (jL L sp).reverse.map (goneS L o) from by unfold stepsL; rw [if_neg hk])
  have hLV := liveN_le L
  have hRL := liveR_len L
  have hTX : (txt (liveR L)).size ≤ 1099511627776 := by
    have h1 : (txt (liveR L)).size ≤ 4 * (liveR L).length := by
      rw [txt_size, bytesOf_flat]
      have : ∀ l : List Int, (l.flatMap Lib.encodeRune).length ≤ 4 * l.length := fun l => by
        induction l with
        | nil => simp
        | cons r l ih =>
          rw [List.flatMap_cons, List.length_append, List.length_cons]
          have h4 : (Lib.encodeRune r).length ≤ 4 := enc_four r
          omega
      exact this _
    omega
  have HTEXT := Lib.hid (show ∀ W, Mine.Mod none_ w W → Calls Tryz.prog 25 #[.pointer (some ⟨D, 0, none⟩)] W fun e w' => e = .returned (.string (txt (liveR L))) ∧ Mine.Mod none_ W w' from fun W m0 => by
    obtain ⟨v, MB, bl, hdv, _, hcl, _⟩ := (hd.grown m0).ex
    have := text_cells W D MB v bl hdv (by rw [hcl]; exact hok) (by rw [hcl]; omega)
    rw [hcl, textB_valid hv] at this
    exact this)
  have HJOIN := Lib.hid (show ∀ W, Mine.Mod none_ w W → Calls Tryz.prog 91 #[.pointer (some ⟨D, 0, none⟩), .slice o.sa o.slen o.scap] W fun e w' => (∃ va n vc, e = .returned (.slice va n vc) ∧ w'.ownsRow W.heap.size 156 2 (.slice va n vc) n (flat spCs (jL L sp)) ∧ n ≤ o.slen) ∧ Mine.Mod none_ W w' from fun W m0 =>
    joined_any W D L o.sa o.slen o.scap sp (hd.grown m0).is hL (hsp.grown m0) hin hsl)
  have HCUT := Lib.hid (show ∀ (W : World) (y : Int × Int), Mine.Mod none_ w W → y ∈ jL L sp → Calls Tryz.prog 92 #[.string (txt (liveR L)), .int .i64 y.1, .int .i64 (y.2 - y.1)] W fun e w' => e = .returned (.tuple #[.string (txt (((liveR L).drop y.1.toNat).take (y.2 - y.1).toNat)), .int .i64 0]) ∧ Mine.Mod none_ W w' from fun W y m0 hy => by
    obtain ⟨h1, h2, h3⟩ := jL_run L sp (fun x hx => ⟨(hin x hx).1, by have := (hin x hx).2.1; omega⟩) y hy
    have := runeCut_any W (liveR L) y.1.toNat (y.2 - y.1).toNat hv (fun k => (ht k).grown m0) hTX (by rw [hRL]; omega)
    rw [Int.toNat_of_nonneg h1, Int.toNat_of_nonneg (by omega)] at this
    exact this)
  have HRUN := Lib.hid (fun y hy => jL_run L sp (fun x hx => ⟨(hin x hx).1, by have := (hin x hx).2.1; omega⟩) y hy)
  unfold StepsTo
  rw [HST.out]
  obtain ⟨jl, hjl⟩ : ∃ jl, jl = jL L sp := ⟨_, rfl⟩
  rw [← hjl] at HJOIN HCUT HRUN ⊢
  have HO := Lib.hid (show ∀ y, (goneS L o y).cs = [.int .i64 o.num, .int .i64 o.site, .int .i64 o.seq, .int .i64 y.1, .string noB, .string (txt (((liveR L).drop y.1.toNat).take (y.2 - y.1).toNat))] from fun _ => rfl)
  have hkb : (o.kind == 1) = false := by simpa using hk
  clear hjl hd ht hv hok hsp hin HST hTX hk
  have HGEN : ∃ o' : OpV, o' = o := ⟨_, rfl⟩
  obtain ⟨o', ho'⟩ := HGEN
  rw [show goneS L o = goneS L o' by rw [ho']]
  obtain ⟨site, seq, num, kind, at_, text, sa, slen, scap⟩ := o
  dsimp only at HJOIN HO hkb hsl ⊢
  have HOV := Lib.hid (show o'.num = num ∧ o'.site = site ∧ o'.seq = seq from by rw [ho']; exact ⟨rfl, rfl, rfl⟩)
  clear ho'
  dsimp only [OpV.v]
  obtain ⟨W0, hW0⟩ : ∃ W0, (((w.alloc (.cells #[.pointer (some ⟨D, 0, none⟩)] 65)).alloc (.cells #[.int .i64 site, .int .i64 seq, .int .i64 num, .int .i64 kind, .int .i64 at_, .string text, .slice sa slen scap] 58)).alloc (.cells #[.int .i64 num, .int .i64 site, .int .i64 seq, .int .i64 0, .string ⟨#[]⟩, .string ⟨#[]⟩] 44)).alloc (.cells #[.slice none 0 0] 36) = W0 := ⟨_, rfl⟩
  have m0 : Mine.Mod none_ w W0 := by rw [← hW0]; exact ((((Mine.Mod.refl none_ w).alloc _).alloc _).alloc _).alloc _
  have k0 : Blk W0 (w.heap.size) [.pointer (some ⟨D, 0, none⟩)] 65 := by
    have hb := Blk.new (w := w) (cs := [.pointer (some ⟨D, 0, none⟩)]) (t := 65)
    rw [← hW0]
    exact hb.mod ((((Mine.Mod.refl none_ _).alloc _).alloc _).alloc _) (fun e => e)
  have k1 : Blk W0 (w.heap.size + 1) [.int .i64 site, .int .i64 seq, .int .i64 num, .int .i64 kind, .int .i64 at_, .string text, .slice sa slen scap] 58 := by
    have hb := Blk.new (w := (w.alloc (.cells #[.pointer (some ⟨D, 0, none⟩)] 65))) (cs := [.int .i64 site, .int .i64 seq, .int .i64 num, .int .i64 kind, .int .i64 at_, .string text, .slice sa slen scap]) (t := 58)
    simp only [World.size_alloc] at hb
    rw [← hW0]
    exact hb.mod (((Mine.Mod.refl none_ _).alloc _).alloc _) (fun e => e)
  have k2 : Blk W0 (w.heap.size + 1 + 1) [.int .i64 num, .int .i64 site, .int .i64 seq, .int .i64 0, .string ⟨#[]⟩, .string ⟨#[]⟩] 44 := by
    have hb := Blk.new (w := ((w.alloc (.cells #[.pointer (some ⟨D, 0, none⟩)] 65)).alloc (.cells #[.int .i64 site, .int .i64 seq, .int .i64 num, .int .i64 kind, .int .i64 at_, .string text, .slice sa slen scap] 58))) (cs := [.int .i64 num, .int .i64 site, .int .i64 seq, .int .i64 0, .string ⟨#[]⟩, .string ⟨#[]⟩]) (t := 44)
    simp only [World.size_alloc] at hb
    rw [← hW0]
    exact hb.mod ((Mine.Mod.refl none_ _).alloc _) (fun e => e)
  have k3 : Blk W0 (w.heap.size + 1 + 1 + 1) [.slice none 0 0] 36 := by
    have hb := Blk.new (w := (((w.alloc (.cells #[.pointer (some ⟨D, 0, none⟩)] 65)).alloc (.cells #[.int .i64 site, .int .i64 seq, .int .i64 num, .int .i64 kind, .int .i64 at_, .string text, .slice sa slen scap] 58)).alloc (.cells #[.int .i64 num, .int .i64 site, .int .i64 seq, .int .i64 0, .string ⟨#[]⟩, .string ⟨#[]⟩] 44))) (cs := [.slice none 0 0]) (t := 36)
    simp only [World.size_alloc] at hb
    rw [← hW0]
    exact hb.mod (Mine.Mod.refl none_ _) (fun e => e)
  have hs0 : W0.heap.size = w.heap.size + 1 + 1 + 1 + 1 := by rw [← hW0]; simp only [World.size_alloc]
  have M0 := Lib.hid m0
  have K0 := Lib.hid k0
  have K1 := Lib.hid k1
  have K2 := Lib.hid k2
  have K3 := Lib.hid k3
  have HW := Lib.hid hW0
  have HC := Lib.hid (HJOIN.out W0 m0)
  have a0 := k1.cell 0
  have a1 := k1.cell 1
  have a2 := k1.cell 2
  have a3 := k1.cell 3
  have a4 := k1.cell 4
  have a5 := k1.cell 5
  have a6 := k1.cell 6
  simp only [List.getElem?_cons_zero, List.getElem?_cons_succ] at a0 a1 a2 a3 a4 a5 a6
  have d0 : W0.cell? ⟨w.heap.size, 0, none⟩ = some (.pointer (some ⟨D, 0, none⟩)) := k0.cell 0
  have hw4 : w.heap.size + 1 + 1 + 1 < W0.heap.size := by omega
  clear m0 k0 k1 k2 k3 hW0 hs0
  refine (callsIn_wide (n := 6)).1 ?_
  refine callsIn_of_wp_marks Tryz.func69 rfl trivial ?_ rfl
  refine wpIn_wide.2 (Code.wp_mono (Q := calmPost _) calmPost.out ?_)
  simp only [Tryz.ntmps69, List.size_toArray, List.length_cons, List.length_nil, Nat.reduceAdd, Nat.reduceSub, Array.replicate_succ, Array.replicate_zero, List.push_toArray, List.append_toArray, List.nil_append, List.cons_append]
  go_upto_region 7 with fail
  rw [HW.out]
  go_wp2_with fail
  refine HC.out.mono ?_
  rintro e w1 ⟨⟨ja, jn, jc, rfl, hjo, hjn⟩, m1⟩
  go_wp2_with fail
  refine (backward_any ja jn jc w1).mono ?_
  rintro e w2 ⟨rfl, hw2⟩
  have mB : Mine.Mod none_ w1 w2 := by rw [hw2]; exact (Mine.Mod.refl none_ w1).alloc _
  have m2 := m1.trans mB
  have hz2 : w2.heap.size = w1.heap.size + 1 := by rw [hw2, World.size_alloc]
  have kS : Blk w2 w1.heap.size [.slice ja jn jc] 155 := by rw [hw2]; exact Blk.new
  have hs1 := m1.size
  have hbJ : ∀ b, (Value.slice ja jn jc).ownBlock = some b → b < w1.heap.size := fun b hb => by
    rcases ownsRow_blk hjo with ⟨h, _, _⟩ | ⟨g, cap, more, h, _, hbk, _⟩
    · rw [h] at hb; cases hb
    · rw [h] at hb
      have : g = b := Option.some.inj hb
      have := hbk.lt
      omega
  have hI0 : stpI w w.heap.size w2.heap.size D w1.heap.size L o' jl ja jn jc 0 w2 := by
    refine ⟨M0.out.trans m2, K0.out.mod m2 (fun e => e), ⟨0, noB, ?_⟩, ⟨none, 0, 0, K3.out.mod m2 (fun e => e), rfl, .inl ⟨rfl, rfl⟩⟩, kS, ?_, fun b hb => by have := hbJ b hb; omega⟩
    · rw [HOV.out.1, HOV.out.2.1, HOV.out.2.2]; exact K2.out.mod m2 (fun e => e)
    · obtain ⟨h1, h2⟩ := ownsRow_mod hjo mB (fun _ _ e => e)
      exact ⟨h1, h2.imp id (fun ⟨g, cap, cur, hv, hg, r⟩ => ⟨g, cap, cur, hv, by omega, r⟩)⟩
  have HJN := Lib.hid (show jl.length = jn from by
    have h1 := hjo.1
    rw [flat_length spCs_len] at h1
    omega)
  have hjb : jn ≤ 20001 := by omega
  obtain ⟨K, hK⟩ : ∃ K, w.heap.size = K := ⟨_, rfl⟩
  have HKK := Lib.hid hK
  rw [hK] at hI0 hw4 ⊢
  have hwZ : K + 3 < w2.heap.size := by omega
  have hSZ : w1.heap.size < w2.heap.size := by omega
  have hKS : K + 3 < w1.heap.size := by omega
  clear hw2 mB m1 m2 kS hbJ hjo a0 a1 a2 a3 a4 a5 a6 d0 hK hs1 hz2 hw4
  go_wp2_with fail
  generalize w1.heap.size = bS at hI0 hSZ hKS ⊢
  refine wpIn_wide.1 (?_ : Code.wpIn Fence.wide 6 _ _ _ _ _)
  refine rangeFunc_box_upd (β := Nat) (fun t x b => ((t.setIfInBounds 35 (.int .i64 (x.1 : Int))).setIfInBounds 36 (.agg #[.int .i64 x.2.1, .int .i64 x.2.2])).setIfInBounds 8 (.pointer (some ⟨b, 0, none⟩))) rfl (by decide) (gf := 113) (lb := #[.pointer (some ⟨bS, 0, none⟩)]) rfl trivial (enters_of Tryz.func113 (by kernel_rfl) rfl)
    backEnc (fun _ => rfl) (stpI w K w2.heap.size D bS L o' jl ja jn jc) (fun _ _ _ => False) (fun c _ => c + 1) (backG jl) (fun c => c = jn) 0 ?hI ?hIx hI0
    (fun c x b W => stpI w K w2.heap.size D bS L o' jl ja jn jc c W ∧ backG jl c x ∧ Blk W b [.int .i64 x.2.1, .int .i64 x.2.2] 156 ∧ w2.heap.size + 2 ≤ b) ?hR ?hiter ?assign ?body ?done ?stop
  case hI => exact fun s W W' h m => h.mod m hwZ hSZ (by have := HKK.out; omega) (fun k e => by rcases e with e | e <;> omega)
  case hIx => intro _ _ _ _ h _; exact h.elim
  case hR =>
    rintro c x b W W' ⟨h1, h2, h3, h4⟩ m
    exact ⟨h1.mod m hwZ hSZ (by have := HKK.out; omega) (fun k e => by rcases e with e | e <;> omega), h2, h3.mod m (fun e => by rcases e with e | e <;> omega), h4⟩
  case hiter =>
    intro l J Jx W hJI hJ hY h0 hsz2 hsz3
    refine (back1_any (6 - 1) bS (K + 4) ja jn jc jl (by omega) (stpI w K w2.heap.size D bS L o' jl ja jn jc) (fun c W h => ⟨h.2.2.2.2.1, h.2.2.2.2.2.1⟩) l J Jx W hJI hY h0).mono ?_
    rintro e W' ⟨h1, h2⟩
    exact ⟨h1, h2⟩
  case assign =>
    intro l c x W K' hI hG hz hK'
    have FIN := Lib.hid (hK' W.heap.size (W.alloc (.cells #[.int .i64 x.2.1, .int .i64 x.2.2] 156)) ⟨hI.mod ((Mine.Mod.refl none_ W).alloc _) hwZ hSZ (by have := HKK.out; omega) (fun k e => e.elim), hG, Blk.new, hz⟩ (KeepTwo.of ((Mine.Mod.refl none_ W).alloc _) (by omega) (fun _ _ e => e)))
    simp only [List.setIfInBounds_toArray, List.set_cons_zero, List.set_cons_succ] at FIN
    unfold backEnc
    clear hK' hI hG
    gi_wp2
    exact FIN.out
  case body =>
    rintro l c ⟨i, f, m⟩ b W ⟨⟨hm, kD, ⟨at', out', kX⟩, ⟨va, n, vc, kO, ho⟩, kS, hj, hjb2⟩, ⟨hi1, hi2⟩, kP, hbz⟩ hz
    dsimp only at hi1 hi2 kP
    have hmem : (f, m) ∈ jl := List.mem_of_getElem? hi2
    obtain ⟨hf0, hfm, hml⟩ := HRUN.out _ hmem
    dsimp only at hf0 hfm hml
    have hjn := HJN.out
    have htk : jl.reverse.take (c + 1) = jl.reverse.take c ++ [(f, m)] := ents_snoc (by
      have hlt := (List.getElem?_eq_some_iff.1 hi2).1
      have hcl : c < jl.length := by omega
      rw [List.getElem?_reverse hcl, show jl.length - 1 - c = i by omega]; exact hi2)
    have HTK := Lib.hid htk
    have hX := kX
    have x0 : W.cell? ⟨b, 0, none⟩ = some (.int .i64 f) := kP.cell 0
    have x1 : W.cell? ⟨b, 1, none⟩ = some (.int .i64 m) := kP.cell 1
    have y3 : W.cell? ⟨K + 1 + 1, 3, none⟩ = some (.int .i64 at') := kX.cell 3
    have g3 := kX.frozen 3
    have hKw : w.heap.size ≤ K := by have := HKK.out; omega
    have M1 := (Mine.Mod.refl (one (K + 1 + 1)) W).setCell ⟨K + 1 + 1, 3, none⟩ (fun _ => rfl) (.int .i64 f)
    have ne : ∀ {u v : Nat}, u ≠ v → ¬ one v u := fun h e => h e
    have HM1 := Lib.hid (show Mine.Mod none_ w (W.setCell ⟨K + 1 + 1, 3, none⟩ (.int .i64 f)) from hm.transIn M1 (fun b' hb' e => by have e' : b' = K + 1 + 1 := e; omega))
    have D1 := Lib.hid (kD.mod M1 (ne (by omega)))
    have X1 := Lib.hid (kX.set 3 (.int .i64 f))
    have O1 := Lib.hid (kO.mod M1 (ne (by omega)))
    have S1 := Lib.hid (kS.mod M1 (ne (by omega)))
    have P1 := Lib.hid (kP.mod M1 (ne (by omega)))
    have HR1 := Lib.hid (ownsRow_mod ho M1 (fun k hk e => by
      rcases ownsRow_blk ho with ⟨h, _, _⟩ | ⟨g, cap, more, h, hg, _⟩
      · rw [h] at hk; cases hk
      · rw [h] at hk
        have h1 : g = k := Option.some.inj hk
        have h2 : k = K + 1 + 1 := e
        omega))
    have HJ1 := Lib.hid (ownsRow_mod hj M1 (fun k hk e => by
      have h2 : k = K + 1 + 1 := e
      rcases ownsRow_blk hj with ⟨h, _, _⟩ | ⟨g, cap, more, h, hg, _⟩
      · rw [h] at hk; cases hk
      · rw [h] at hk
        have h1 : g = k := Option.some.inj hk
        omega))
    have HK1 := Lib.hid (show KeepTwo w2.heap.size W (W.setCell ⟨K + 1 + 1, 3, none⟩ (.int .i64 f)) from KeepTwo.set (fun e => by rcases e with e | e <;> (have e' : K + 1 + 1 = _ := e; omega)))
    have HZ := Lib.hid hz
    have HBZ := Lib.hid hbz
    have HMEM := Lib.hid hmem
    have hjlb : jl.length ≤ 20001 := by omega
    clear hm kD kX kO ho kS hj kP htk hX hmem M1 hz hi2 hjn
    gi_wp2_with fail
    have hws : IntKind.i64.wrap (m - f) = m - f := by rw [IntKind.wrap_i64]; omega
    have mD := Mine.Mod.drew (Mine.Mod.refl none_ (W.setCell ⟨K + 1 + 1, 3, none⟩ (.int .i64 f)))
    have HZ1 := Lib.hid (show w2.heap.size + 2 ≤ (W.setCell ⟨K + 1 + 1, 3, none⟩ (.int .i64 f)).heap.size from by simp only [World.size_setCell]; exact HZ.out)
    have D2 := Lib.hid (D1.out.mod mD (fun e => e))
    have X2 := Lib.hid (X1.out.mod mD (fun e => e))
    have O2 := Lib.hid (O1.out.mod mD (fun e => e))
    have S2 := Lib.hid (S1.out.mod mD (fun e => e))
    have P2 := Lib.hid (P1.out.mod mD (fun e => e))
    have HR2 := Lib.hid (ownsRow_mod HR1.out mD (fun _ _ e => e))
    have HJ2 := Lib.hid (ownsRow_mod HJ1.out mD (fun _ _ e => e))
    have HM2 := Lib.hid (HM1.out.trans mD)
    have HK2 := Lib.hid (HK1.out.trans (KeepTwo.of mD (by have := HZ1.out; omega) (fun _ _ e => e)))
    have HZ2 := Lib.hid (Nat.le_trans HZ1.out mD.size)
    clear mD
    refine round_held (S := fun w' => w'.cell? ⟨K, 0, none⟩ = some (.pointer (some ⟨D, 0, none⟩)) ∧ w'.cell? ⟨b, 0, none⟩ = some (.int .i64 f) ∧ w'.cell? ⟨b, 1, none⟩ = some (.int .i64 m)) (by kernel_rfl) (by kernel_rfl) (fun ⟨_, _, h⟩ => h) ⟨by rw [D2.out.cell]; rfl, by rw [P2.out.cell]; rfl, by rw [P2.out.cell]; rfl⟩ (fun hS => ?_)
    refine wpAnyH_take (i := 0) (v := .pointer (some ⟨D, 0, none⟩)) rfl (by kernel_rfl) (by kernel_rfl) (by kernel_rfl) (fun _ _ _ h => h) (Or.inl ⟨by kernel_rfl, ?_⟩) hS ?_
    · rintro w' ⟨q0, q1, q2⟩; go_simp
    try simp only [Act.put, List.setIfInBounds_toArray, List.set_cons_zero, List.set_cons_succ]
    refine wpAnyH_take (i := 2) (v := .pointer (some ⟨b, 0, none⟩)) rfl (by kernel_rfl) (by kernel_rfl) (by kernel_rfl) (fun _ _ _ h => h) (Or.inl ⟨by kernel_rfl, ?_⟩) hS ?_
    · rintro w' ⟨q0, q1, q2⟩; go_simp
    try simp only [Act.put, List.setIfInBounds_toArray, List.set_cons_zero, List.set_cons_succ]
    refine wpAnyH_take (i := 3) (v := .int .i64 f) rfl (by kernel_rfl) (by kernel_rfl) (by kernel_rfl) (fun _ _ _ h => h) (Or.inl ⟨by kernel_rfl, ?_⟩) hS ?_
    · rintro w' ⟨q0, q1, q2⟩; go_simp
    try simp only [Act.put, List.setIfInBounds_toArray, List.set_cons_zero, List.set_cons_succ]
    refine wpAnyH_take (i := 4) (v := .pointer (some ⟨b, 1, none⟩)) rfl (by kernel_rfl) (by kernel_rfl) (by kernel_rfl) (fun _ _ _ h => h) (Or.inl ⟨by kernel_rfl, ?_⟩) hS ?_
    · rintro w' ⟨q0, q1, q2⟩; go_simp
    try simp only [Act.put, List.setIfInBounds_toArray, List.set_cons_zero, List.set_cons_succ]
    refine wpAnyH_take (i := 5) (v := .int .i64 m) rfl (by kernel_rfl) (by kernel_rfl) (by kernel_rfl) (fun _ _ _ h => h) (Or.inl ⟨by kernel_rfl, ?_⟩) hS ?_
    · rintro w' ⟨q0, q1, q2⟩; go_simp
    try simp only [Act.put, List.setIfInBounds_toArray, List.set_cons_zero, List.set_cons_succ]
    refine wpAnyH_take (i := 6) (v := .pointer (some ⟨b, 0, none⟩)) rfl (by kernel_rfl) (by kernel_rfl) (by kernel_rfl) (fun _ _ _ h => h) (Or.inl ⟨by kernel_rfl, ?_⟩) hS ?_
    · rintro w' ⟨q0, q1, q2⟩; go_simp
    try simp only [Act.put, List.setIfInBounds_toArray, List.set_cons_zero, List.set_cons_succ]
    refine wpAnyH_take (i := 7) (v := .int .i64 f) rfl (by kernel_rfl) (by kernel_rfl) (by kernel_rfl) (fun _ _ _ h => h) (Or.inl ⟨by kernel_rfl, ?_⟩) hS ?_
    · rintro w' ⟨q0, q1, q2⟩; go_simp
    try simp only [Act.put, List.setIfInBounds_toArray, List.set_cons_zero, List.set_cons_succ]
    refine wpAnyH_take (i := 8) (v := .int .i64 (m - f)) rfl (by kernel_rfl) (by kernel_rfl) (by kernel_rfl) (fun _ _ _ h => h) (Or.inl ⟨by kernel_rfl, ?_⟩) hS ?_
    · rintro w' ⟨q0, q1, q2⟩; go_simp
    try simp only [Act.put, List.setIfInBounds_toArray, List.set_cons_zero, List.set_cons_succ]
    refine wpAnyH_ready (rs := [1]) (by kernel_rfl) (by simp) (AllReadyH.cons rfl (fun J hJ => ?_) <| AllReadyH.nil)
    go_simp
    refine (HTEXT.out _ HM2.out).mono ?_
    rintro e w3 ⟨rfl, m3⟩
    have D3 := Lib.hid (D2.out.mod m3 (fun e => e))
    have X3 := Lib.hid (X2.out.mod m3 (fun e => e))
    have O3 := Lib.hid (O2.out.mod m3 (fun e => e))
    have S3 := Lib.hid (S2.out.mod m3 (fun e => e))
    have P3 := Lib.hid (P2.out.mod m3 (fun e => e))
    have HR3 := Lib.hid (ownsRow_mod HR2.out m3 (fun _ _ e => e))
    have HJ3 := Lib.hid (ownsRow_mod HJ2.out m3 (fun _ _ e => e))
    have HM3 := Lib.hid (HM2.out.trans m3)
    have HK3 := Lib.hid (HK2.out.trans (KeepTwo.of m3 (by have := HZ2.out; omega) (fun _ _ e => e)))
    have HZ3 := Lib.hid (Nat.le_trans HZ2.out m3.size)
    refine hJ.out _ _ ⟨by rw [D3.out.cell]; rfl, by rw [P3.out.cell]; rfl, by rw [P3.out.cell]; rfl⟩ (fun hS => ?_)
    clear hJ J m3
    try simp only [Act.put, List.setIfInBounds_toArray, List.set_cons_zero, List.set_cons_succ]
    refine wpAnyH_ready (rs := [9]) (by kernel_rfl) (by simp) (AllReadyH.cons rfl (fun J hJ => ?_) <| AllReadyH.nil)
    go_simp
    refine (HCUT.out _ (f, m) HM3.out HMEM.out).mono ?_
    rintro e w4 ⟨rfl, m4⟩
    dsimp only
    obtain ⟨TT, hTT⟩ : ∃ TT, TT = txt (((liveR L).drop f.toNat).take (m - f).toNat) := ⟨_, rfl⟩
    rw [← hTT]
    have HTT := Lib.hid hTT
    have D4 := Lib.hid (D3.out.mod m4 (fun e => e))
    have X4 := Lib.hid (X3.out.mod m4 (fun e => e))
    have O4 := Lib.hid (O3.out.mod m4 (fun e => e))
    have S4 := Lib.hid (S3.out.mod m4 (fun e => e))
    have P4 := Lib.hid (P3.out.mod m4 (fun e => e))
    have HR4 := Lib.hid (ownsRow_mod HR3.out m4 (fun _ _ e => e))
    have HJ4 := Lib.hid (ownsRow_mod HJ3.out m4 (fun _ _ e => e))
    have HM4 := Lib.hid (HM3.out.trans m4)
    have HK4 := Lib.hid (HK3.out.trans (KeepTwo.of m4 (by have := HZ3.out; omega) (fun _ _ e => e)))
    have HZ4 := Lib.hid (Nat.le_trans HZ3.out m4.size)
    refine hJ.out _ _ ⟨by rw [D4.out.cell]; rfl, by rw [P4.out.cell]; rfl, by rw [P4.out.cell]; rfl⟩ (fun hS => ?_)
    clear hJ J m4 hTT
    try simp only [Act.put, List.setIfInBounds_toArray, List.set_cons_zero, List.set_cons_succ]
    refine wpAnyH_take (i := 10) (v := .tuple #[.string TT, .int .i64 0]) rfl (by kernel_rfl) (by kernel_rfl) (by kernel_rfl) (fun _ _ _ h => h) (Or.inl ⟨by kernel_rfl, ?_⟩) hS ?_
    · rintro w' ⟨q0, q1, q2⟩; go_simp
    try simp only [Act.put, List.setIfInBounds_toArray, List.set_cons_zero, List.set_cons_succ]
    refine wpAnyH_take (i := 11) (v := .string TT) rfl (by kernel_rfl) (by kernel_rfl) (by kernel_rfl) (fun _ _ _ h => h) (Or.inl ⟨by kernel_rfl, ?_⟩) hS ?_
    · rintro w' ⟨q0, q1, q2⟩; go_simp
    try simp only [Act.put, List.setIfInBounds_toArray, List.set_cons_zero, List.set_cons_succ]
    refine wpAnyH_take (i := 12) (v := .int .i64 0) rfl (by kernel_rfl) (by kernel_rfl) (by kernel_rfl) (fun _ _ _ h => h) (Or.inl ⟨by kernel_rfl, ?_⟩) hS ?_
    · rintro w' ⟨q0, q1, q2⟩; go_simp
    try simp only [Act.put, List.setIfInBounds_toArray, List.set_cons_zero, List.set_cons_succ]
    refine wpAnyH_take (i := 13) (v := .pointer (some ⟨K + 1 + 1, 5, none⟩)) rfl (by kernel_rfl) (by kernel_rfl) (by kernel_rfl) (fun _ _ _ h => h) (Or.inl ⟨by kernel_rfl, ?_⟩) hS ?_
    · rintro w' ⟨q0, q1, q2⟩; go_simp
    try simp only [Act.put, List.setIfInBounds_toArray, List.set_cons_zero, List.set_cons_succ]
    have z5 := X4.out.cell 5
    have g5 := X4.out.frozen 5
    simp only [List.set_cons_zero, List.set_cons_succ, List.getElem?_cons_zero, List.getElem?_cons_succ] at z5
    have M5 := (Mine.Mod.refl (one (K + 1 + 1)) w4).setCell ⟨K + 1 + 1, 5, none⟩ (fun _ => rfl) (.string TT)
    have D5 := Lib.hid (D4.out.mod M5 (ne (by omega)))
    have X5 := Lib.hid (show Blk (w4.setCell ⟨K + 1 + 1, 5, none⟩ (.string TT)) (K + 1 + 1) [.int .i64 o'.num, .int .i64 o'.site, .int .i64 o'.seq, .int .i64 f, .string noB, .string TT] 44 from X4.out.set 5 (.string TT))
    have O5 := Lib.hid (O4.out.mod M5 (ne (by omega)))
    have S5 := Lib.hid (S4.out.mod M5 (ne (by omega)))
    have P5 := Lib.hid (P4.out.mod M5 (ne (by omega)))
    have HR5 := Lib.hid (ownsRow_mod HR4.out M5 (fun k hk e => by
      rcases ownsRow_blk HR4.out with ⟨h, _, _⟩ | ⟨g, cap, more, h, hg, _⟩
      · rw [h] at hk; cases hk
      · rw [h] at hk
        have h1 : g = k := Option.some.inj hk
        have h2 : k = K + 1 + 1 := e
        omega))
    have HJ5 := Lib.hid (ownsRow_mod HJ4.out M5 (fun k hk e => by
      have h2 : k = K + 1 + 1 := e
      rcases ownsRow_blk HJ4.out with ⟨h, _, _⟩ | ⟨g, cap, more, h, hg, _⟩
      · rw [h] at hk; cases hk
      · rw [h] at hk
        have h1 : g = k := Option.some.inj hk
        omega))
    have HM5 := Lib.hid (HM4.out.transIn M5 (fun b' hb' e => by have e' : b' = K + 1 + 1 := e; omega))
    have HK5 := Lib.hid (HK4.out.trans (KeepTwo.set (W := w4) (p := ⟨K + 1 + 1, 5, none⟩) (v := .string TT) (fun e => by rcases e with e | e <;> (have e' : K + 1 + 1 = _ := e; omega))))
    have HZ5 := Lib.hid (show w2.heap.size + 2 ≤ (w4.setCell ⟨K + 1 + 1, 5, none⟩ (.string TT)).heap.size from by simp only [World.size_setCell]; exact HZ4.out)
    refine wpAnyH_ready (rs := [14]) (by kernel_rfl) (by simp) (AllReadyH.cons rfl (fun J hJ => ?_) <| AllReadyH.nil)
    go_simp
    refine hJ.out _ _ ⟨by rw [D5.out.cell]; rfl, by rw [P5.out.cell]; rfl, by rw [P5.out.cell]; rfl⟩ (fun hS => ?_)
    clear hJ J M5 z5 g5
    try simp only [Act.put, List.setIfInBounds_toArray, List.set_cons_zero, List.set_cons_succ]
    refine wpAnyH_done (by kernel_rfl) ?_ _
    try simp only [List.getElem_toArray, List.getElem_cons_succ, List.getElem_cons_zero]
    try simp only [Act.put, List.setIfInBounds_toArray, List.set_cons_zero, List.set_cons_succ]
    clear hS
    generalize w4.setCell ⟨K + 1 + 1, 5, none⟩ (.string TT) = w5 at D5 X5 O5 S5 P5 HR5 HJ5 HM5 HK5 HZ5 ⊢
    have c0 := X5.out.cell 0
    have c1 := X5.out.cell 1
    have c2 := X5.out.cell 2
    have c3 := X5.out.cell 3
    have c4 := X5.out.cell 4
    have c5 := X5.out.cell 5
    simp only [List.getElem?_cons_zero, List.getElem?_cons_succ] at c0 c1 c2 c3 c4 c5
    have o0 : w5.cell? ⟨K + 1 + 1 + 1, 0, none⟩ = some (.slice va n vc) := O5.out.cell 0
    have hn : n ≤ 1000000 := by
      have h1 := HR5.out.1
      rw [flat_length StepV.len, List.length_map, List.length_take, List.length_reverse] at h1
      omega
    have mA := (Mine.Mod.refl none_ w5).alloc (.cells #[.int .i64 o'.num, .int .i64 o'.site, .int .i64 o'.seq, .int .i64 f, .string noB, .string TT] 44)
    obtain ⟨va', vc', w6, hrun, hown, mg⟩ := app_gen (P := Tryz.prog) (W := w5.alloc (.cells #[.int .i64 o'.num, .int .i64 o'.site, .int .i64 o'.seq, .int .i64 f, .string noB, .string TT] 44)) (t := 36) (e := 44) Tryz.underlying36 infoStep rfl (by decide)
      (cs := [.int .i64 o'.num, .int .i64 o'.site, .int .i64 o'.seq, .int .i64 f, .string noB, .string TT]) rfl (StepV.ones ⟨o'.num, o'.site, o'.seq, f, noB, TT⟩) (ownsRow_mod HR5.out mA (fun _ _ e => e)) Blk.new hn (by decide) (by rw [World.size_alloc]; have := HZ5.out; omega)
    have hgz : ∀ k, (Value.slice va n vc).ownBlock = some k → w2.heap.size + 2 ≤ k := fun k hk => by
      rcases ownsRow_blk HR5.out with ⟨h, _, _⟩ | ⟨g, cap, more, h, hg, _⟩
      · rw [h] at hk; cases hk
      · rw [h] at hk
        have h1 : g = k := Option.some.inj hk
        omega
    have mx : Mine.Mod (fun k => (Value.slice va n vc).ownBlock = some k) w5 w6 := (mA.mono (fun _ _ e => e.elim)).trans mg
    have nk : ∀ k, k < w2.heap.size → ¬ (Value.slice va n vc).ownBlock = some k := fun k hk e => by have := hgz k e; omega
    have D6 := D5.out.mod mx (nk _ (by omega))
    have X6 := X5.out.mod mx (nk _ (by omega))
    have O6 := O5.out.mod mx (nk _ (by omega))
    have S6 := S5.out.mod mx (nk _ hSZ)
    have J6 := ownsRow_mod HJ5.out mx (fun k hk => nk _ (hjb2 k hk))
    have HMg := HM5.out.transIn mx (fun b' hb' e => by have := hgz b' e; omega)
    have HKg := HK5.out.trans (KeepTwo.of mx (by have := HZ5.out; omega) (fun k hk e => by have := hgz k e; rcases hk with h | h <;> omega))
    have p0 : w6.cell? ⟨K + 1 + 1 + 1, 0, none⟩ = some (.slice va n vc) := O6.cell 0
    have r0 := O6.frozen 0
    have M7 := (Mine.Mod.refl (one (K + 1 + 1 + 1)) w6).setCell ⟨K + 1 + 1 + 1, 0, none⟩ (fun _ => rfl) (.slice va' (n + 1) vc')
    have hgv : ∀ k, (Value.slice va' (n + 1) vc').ownBlock = some k → w2.heap.size + 2 ≤ k := fun k hk => by
      rcases ownsRow_blk hown with ⟨h, _, _⟩ | ⟨g, cap, more, h, hg, _⟩
      · rw [h] at hk; cases hk
      · rw [h] at hk
        have h1 : g = k := Option.some.inj hk
        omega
    have FIN := Lib.hid (show KeepTwo w2.heap.size W (w6.setCell ⟨K + 1 + 1 + 1, 0, none⟩ (.slice va' (n + 1) vc')) ∧ stpI w K w2.heap.size D bS L o' jl ja jn jc (c + 1) (w6.setCell ⟨K + 1 + 1 + 1, 0, none⟩ (.slice va' (n + 1) vc')) from
      ⟨HKg.trans (KeepTwo.set (W := w6) (p := ⟨K + 1 + 1 + 1, 0, none⟩) (v := .slice va' (n + 1) vc') (fun e => by rcases e with e | e <;> (have e' : K + 1 + 1 + 1 = _ := e; omega))),
       HMg.transIn M7 (fun b' hb' e => by have e' : b' = K + 1 + 1 + 1 := e; omega), D6.mod M7 (ne (by omega)), ⟨f, TT, X6.mod M7 (ne (by omega))⟩,
       ⟨va', n + 1, vc', O6.set 0 (.slice va' (n + 1) vc'), by
         refine ownsRow_mod ?_ M7 (fun k hk e => by have := hgv k hk; have e' : k = K + 1 + 1 + 1 := e; omega)
         rw [HTK.out, List.map_append, flat_append]
         have hone : flat StepV.cs (List.map (goneS L o') [(f, m)]) = [.int .i64 o'.num, .int .i64 o'.site, .int .i64 o'.seq, .int .i64 f, .string noB, .string TT] := by
           rw [HTT.out]; rfl
         rw [hone]
         exact hown⟩,
       S6.mod M7 (ne (by omega)), ownsRow_mod J6 M7 (fun k hk e => by
         have h2 : k = K + 1 + 1 + 1 := e
         rcases ownsRow_blk J6 with ⟨h, _, _⟩ | ⟨g, cap, more, h, hg, _⟩
         · rw [h] at hk; cases hk
         · rw [h] at hk
           have h1 : g = k := Option.some.inj hk
           omega), hjb2⟩)
    have hrun2 : (appSem #[36, 36] 36 #[.slice va n vc, .slice (some ⟨w5.heap.size, 0, none⟩) 1 1]).run Tryz.prog (w5.alloc (.cells #[.int .i64 o'.num, .int .i64 o'.site, .int .i64 o'.seq, .int .i64 f, .string noB, .string TT] 44)) = .ok (.slice va' (n + 1) vc') w6 := hrun
    clear hrun mA hown mg hgz mx nk D6 X6 O6 S6 J6 HMg HKg M7 hgv
    gi_wp2_with fail
    exact FIN.out
  case done =>
    rintro Df c W rfl ⟨hm, kD, -, ⟨va, n, vc, kO, ho⟩, -, -, -⟩ hDf rfl
    have c0 : W.cell? ⟨K + 1 + 1 + 1, 0, none⟩ = some (.slice va n vc) := kO.cell 0
    have HDF := Lib.hid hDf
    have mP : Mine.Mod (two w2.heap.size) W (W.putObj w2.heap.size (.deferred none)) := ⟨rfl, rfl, rfl, by simp, fun k _ hs => World.putObj_heap_other (fun e => hs (Or.inl e))⟩
    have hn : n ≤ 1000000 := by
      have hjn := HJN.out
      have h1 := ho.1
      rw [flat_length StepV.len, List.length_map, List.length_take, List.length_reverse] at h1
      omega
    have hjn := HJN.out
    have htake : jl.reverse.take c = jl.reverse := List.take_of_length_le (by rw [List.length_reverse]; omega)
    rw [htake] at ho
    have HOW := Lib.hid (show (W.putObj w2.heap.size (.deferred none)).ownsRow w.heap.size 44 6 (.slice va n vc) n (flat StepV.cs (jl.reverse.map (goneS L o'))) from by
      obtain ⟨h1, h2⟩ := ownsRow_mod ho mP (fun k hk e => by
        rcases ownsRow_blk ho with ⟨h, _, _⟩ | ⟨g, cap, more, h, hg, _⟩
        · rw [h] at hk; cases hk
        · rw [h] at hk
          have h1 : g = k := Option.some.inj hk
          rcases e with e | e <;> omega)
      exact ⟨h1, h2.imp id (fun ⟨g, cap, cur, hv, hg, r⟩ => ⟨g, cap, cur, hv, by have := HKK.out; omega, r⟩)⟩)
    have MF := Lib.hid (show Mine.Mod none_ w (W.putObj w2.heap.size (.deferred none)) from hm.transIn mP (fun b hb e => by have := HKK.out; rcases e with e | e <;> omega))
    clear hm kD kO ho hDf mP htake hjn
    go_wp2_with fail
    refine ⟨by simp, .inl ⟨_, _, rfl, run_takeDeferred HDF.out, ?_⟩⟩
    exact ⟨_, results_tmp rfl _ _ _, ⟨va, n, vc, rfl, HOW.out, hn⟩, MF.out⟩
  case stop =>
    rintro Df c st W h
    exact h.elim
end Go.Proofs.YtjgjjlolhdlofaaGreatDoor

namespace Go.Proofs.YtjgjjlolhdlofaaGreatDoor
open Go.RowKit Go.Shelf Go.Mine
open Classical

theorem spansFrom_count : ∀ (l : List (Int × Int)) (last : Int), spansFrom last l = true → -1 ≤ last → last ≤ 20000 → (l.length : Int) ≤ 20000 - last
  | [], last, _, _, h => by simp; omega
  | (f, n) :: r, last, h, h1, h2 => by
    rw [spansFrom_cons, Bool.and_eq_true, decide_eq_true_eq] at h
    have := spansFrom_count r (f + n) h.2 (by omega) (by omega)
    rw [List.length_cons]
    omega
/-- The steps of an operation that may be upon a document's cells. -/
theorem steps_past (w : World) (S : Nat → Prop) (D : Nat) (L : List CellV) (o : OpV) (sp : List (Int × Int)) (hd : DocS w S D L) (hg : Good L) (ht : tabsOk w) (ho : o.ok w sp) (hm : opMay o sp L.length = true) :
    Calls Tryz.prog 69 #[.pointer (some ⟨D, 0, none⟩), o.v] w (StepsTo w L o sp) := by
  unfold opMay at hm
  rw [Bool.and_eq_true, Bool.and_eq_true] at hm
  obtain ⟨-, hm⟩ := hm
  by_cases hk : o.kind = 1
  · rw [if_pos hk] at hm
    simp only [insOk, Bool.and_eq_true, decide_eq_true_eq, inB] at hm
    exact stepsIns_any w D L o sp hd.is hg.cl.big hk hm.1.1.1
  · rw [if_neg hk] at hm
    by_cases hk2 : o.kind = 2
    · rw [if_pos hk2] at hm
      unfold delOk at hm
      rw [Bool.and_eq_true, Bool.and_eq_true] at hm
      obtain ⟨⟨-, hs⟩, hl⟩ := hm
      rw [lastLe_all hs] at hl
      refine stepsDel_any w S D L o sp hd hg.cl.big hg.cl.ok (liveR_good hg) (fun _ => .inl ht) ho.sp (fun x hx => ?_) ?_ hk
      · have h1 := spansFrom_ok sp (-1) hs x hx
        have h2 := List.all_eq_true.1 hl x hx
        rw [decide_eq_true_eq] at h2
        exact ⟨h1.1, h1.2.2.1, h2⟩
      · have := spansFrom_count sp (-1) hs (by decide) (by decide)
        rw [ho.sp.n] at this
        omega
    · rw [if_neg hk2] at hm; cases hm
/-- The steps of a history's first entries. -/
noncomputable def pastL (B : List CellV) (E : List EntV) : Nat → List StepV
  | 0 => []
  | i + 1 => pastL B E i ++ match E[i]? with
    | some x => stepsL (repL B (E.take i)) x.o x.sp
    | none => []
theorem pastL_step {B : List CellV} {E : List EntV} {i : Nat} {x : EntV} (h : E[i]? = some x) : pastL B E (i + 1) = pastL B E i ++ stepsL (repL B (E.take i)) x.o x.sp := by
  rw [pastL, h]
theorem good_rep {V : List Int} {n : Int} {B : List CellV} {E : List EntV} (hg : Good B) (hr : Rep V n B E) (hE : ∀ x ∈ E, (-9223372036854775808 ≤ x.o.site ∧ x.o.site ≤ 9223372036854775807) ∧ (-9223372036854775808 ≤ x.o.seq ∧ x.o.seq ≤ 9223372036854775807)) :
    ∀ k, k ≤ E.length → Good (repL B (E.take k))
  | 0, _ => by simpa [repL] using hg
  | k + 1, hk => by
    have ih := good_rep hg hr hE k (by omega)
    have hx : E[k]? = some (E[k]'(by omega)) := List.getElem?_eq_getElem _
    obtain ⟨V', n', h'⟩ := Rep.upto k (by omega) hr
    rw [drop_cons hx] at h'
    rw [repL_snoc hx, ← h'.step.2.2.1]
    have := hE _ (List.mem_of_getElem? hx)
    exact ih.doL this.1 this.2
end Go.Proofs.YtjgjjlolhdlofaaGreatDoor

namespace Go.Proofs.YtjgjjlolhdlofaaGreatDoor
open Go.RowKit Go.Shelf Go.Mine
open Classical
attribute [local go_sem] Oper.semAt_some

theorem jAdd_len (out : List (Int × Int)) (i j : Int) : (jAdd out i j).length ≤ out.length + 1 := by
  unfold jAdd
  split
  · omega
  · cases hl : out.getLast? with
    | none => simp
    | some z =>
      dsimp only
      split
      · rw [List.length_append, List.length_dropLast]; simp
      · simp
theorem jL_len (L : List CellV) (l : List (Int × Int)) : (jL L l).length ≤ l.length := by
  unfold jL
  suffices h : ∀ (l out : List (Int × Int)), (l.foldl (jStep L) out).length ≤ out.length + l.length by simpa using h l []
  intro l
  induction l with
  | nil => intro out; simp
  | cons x l ih =>
    intro out
    rw [List.foldl_cons, List.length_cons]
    have h1 := ih (jStep L out x)
    have h2 : (jStep L out x).length ≤ out.length + 1 := jAdd_len _ _ _
    omega
theorem stepsL_len (L : List CellV) (o : OpV) (sp : List (Int × Int)) : (stepsL L o sp).length ≤ sp.length + 1 := by
  unfold stepsL
  split
  · simp
  · rw [List.length_map, List.length_reverse]
    have := jL_len L sp
    omega
theorem pastL_len {B : List CellV} {E : List EntV} (hE : ∀ x ∈ E, x.sp.length ≤ 1000) : ∀ i, (pastL B E i).length ≤ i * 1001
  | 0 => by simp [pastL]
  | i + 1 => by
    have ih := pastL_len (B := B) hE i
    rw [pastL, List.length_append, Nat.succ_mul]
    refine Nat.add_le_add ih ?_
    cases hx : E[i]? with
    | none => simp
    | some x => exact Nat.le_trans (stepsL_len (repL B (E.take i)) x.o x.sp) (by have := hE x (List.mem_of_getElem? hx); omega)

/-- Where the iterator, and what collects its steps, stand: the steps that were collected; the document, and how many entries are behind; the row of steps that is gone along. -/
structure PS where
  T : List StepV
  doc : Option (Nat × Nat)
  row : Option (Option Addr × Nat × Nat × List StepV)
/-- The blocks that the document leaves alone. -/
def prot (Z bH bT : Nat) (va : Option Addr) (n vc k : Nat) : Prop := k = bH ∨ k = bT ∨ k = Z ∨ k = Z + 1 ∨ (Value.slice va n vc).ownBlock = some k
def pastI (w : World) (Z bH bT : Nat) (hv : HistV) (B : List CellV) (E : List EntV) (s : PS) (W : World) : Prop :=
  Mine.Mod none_ w W ∧ Blk W bH hv.cs 32 ∧ ∃ va n vc, Blk W bT [.slice va n vc] 36 ∧ W.ownsRow (Z + 2) 44 6 (.slice va n vc) n (flat StepV.cs s.T) ∧
  (∀ D i, s.doc = some (D, i) → ∃ Ex, DocF w Ex W D (repL B (E.take i)) ∧ (∀ k, Ex k → w.heap.size ≤ k) ∧ (∀ k, prot Z bH bT va n vc k → Ex k) ∧ ∀ ra rn rc LS, s.row = some (ra, rn, rc, LS) → ∀ k, (Value.slice ra rn rc).ownBlock = some k → Ex k) ∧
  ∀ ra rn rc LS, s.row = some (ra, rn, rc, LS) → W.ownsRow (Z + 2) 44 6 (.slice ra rn rc) rn (flat StepV.cs LS) ∧ ∀ k, (Value.slice va n vc).ownBlock = some k → (Value.slice ra rn rc).ownBlock ≠ some k
theorem own_ge {W : World} {B e size n : Nat} {v : Value} {xs : List Value} (h : W.ownsRow B e size v n xs) : ∀ k, v.ownBlock = some k → B ≤ k ∧ k < W.heap.size := fun k hk => by
  rcases ownsRow_blk h with ⟨rfl, _, _⟩ | ⟨g, cap, more, rfl, hg, hb, _⟩
  · cases hk
  · have h1 : g = k := Option.some.inj hk
    have := hb.lt
    omega
theorem own_same {W W' : World} {B e size n : Nat} {v : Value} {xs : List Value} (h : W.ownsRow B e size v n xs) (hs : ∀ k, v.ownBlock = some k → W'.heap[k]? = W.heap[k]?) : W'.ownsRow B e size v n xs :=
  ⟨h.1, h.2.imp id (fun ⟨g, cap, cur, hv, hg, hb, r⟩ => ⟨g, cap, cur, hv, hg, (hs g (by rw [hv]; rfl)).trans hb, r⟩)⟩
theorem own_less {W : World} {B B' e size n : Nat} {v : Value} {xs : List Value} (h : W.ownsRow B e size v n xs) (hB : B' ≤ B) : W.ownsRow B' e size v n xs :=
  ⟨h.1, h.2.imp id (fun ⟨g, cap, cur, hv, hg, r⟩ => ⟨g, cap, cur, hv, Nat.le_trans hB hg, r⟩)⟩
theorem pastI.mod {w : World} {Z bH bT : Nat} {hv : HistV} {B : List CellV} {E : List EntV} {s : PS} {W W' : World} {T : Nat → Prop} (h : pastI w Z bH bT hv B E s W) (m : Mine.Mod T W W') (hw : w.heap.size ≤ Z) (h1 : bH < Z) (h2 : bT < Z) (hT : ∀ k, T k → two Z k) : pastI w Z bH bT hv B E s W' := by
  obtain ⟨m0, kH, va, n, vc, kT, ho, hd, hr⟩ := h
  have ne : ∀ k, k < Z → ¬ T k := fun k hk e => by rcases hT k e with e | e <;> omega
  have nr : ∀ {v : Value} {nn : Nat} {xs : List Value}, W.ownsRow (Z + 2) 44 6 v nn xs → ∀ k, v.ownBlock = some k → ¬ T k := fun ho k hk e => by have := own_ge ho k hk; rcases hT k e with e | e <;> omega
  refine ⟨m0.transIn m (fun b hb e => by rcases hT b e with e | e <;> omega), kH.mod m (ne _ h1), va, n, vc, kT.mod m (ne _ h2), ownsRow_mod ho m (nr ho), fun D i hs => ?_, fun ra rn rc LS hs => ?_⟩
  · obtain ⟨Ex, hf, h3, h4, h5⟩ := hd D i hs
    exact ⟨Ex, hf.put (m.mono (fun k _ e => h4 k (by rcases hT k e with e | e; exact .inr (.inr (.inl e)); exact .inr (.inr (.inr (.inl e)))))) h3, h3, h4, h5⟩
  · obtain ⟨h3, h4⟩ := hr ra rn rc LS hs
    exact ⟨ownsRow_mod h3 m (nr h3), h4⟩
def pastEnc (x : StepV) : Array Value := #[.agg x.cs.toArray]
def pastG (s : PS) (_ : StepV) : Prop := s.T.length ≤ 500000
def pastStep (s : PS) (x : StepV) : PS := { s with T := s.T ++ [x] }

set_option maxHeartbeats 16000000 in
set_option maxRecDepth 1000000 in
theorem all1_any (n0 : Nat) (w : World) (Z bH bT : Nat) (hv : HistV) (B : List CellV) (V : List Int) (E : List EntV) (hh : HistIs w hv B V E) (hbl : hv.bl ≤ 1000) (hok : histOk hv B V E = true) (htab : tabsOk w) (hT : ∀ x ∈ E, x.o.text.size ≤ 1099511627776) (hsp : ∀ x ∈ E, x.sp.length ≤ 1000)
    (hw : w.heap.size ≤ Z) (b1 : bH < Z) (b2 : bT < Z) (c1 : w.heap.size ≤ bH) (c2 : w.heap.size ≤ bT)
    (l : Nat) (J : PS → World → Prop) (Jx : Code → PS → World → Prop) (W : World) (hJI : ∀ s W, J s W → pastI w Z bH bT hv B E s W)
    (hJ : ∀ s s' W W', J s W → pastI w Z bH bT hv B E s' W' → KeepTwo Z W W' → J s' W')
    (hY : ∀ st (x : StepV) W1, J st W1 → pastG st x → YieldAt Fence.wide (n0 - 1) Tryz.prog l (pastEnc x) W1 fun e W' => (e = .returned (.bool true) ∧ J (pastStep st x) W') ∨ (e = .returned (.bool false) ∧ ∃ c, Jx c (pastStep st x) W'))
    (h0 : J ⟨[], none, none⟩ W) (hsz : ∀ s W, J s W → Z + 2 ≤ W.heap.size) :
    CallsIn Fence.wide n0 Tryz.prog 68 (#[.func (.yield l) #[] #[]] ++ #[.pointer (some ⟨bH, 0, none⟩)]) W fun e W' => (∃ v, e = .returned v) ∧ ((∃ s : PS, s.T = pastL B E E.length ∧ J s W') ∨ (∃ c st, Jx c st W')) := by
  have hEn := hh.e.n
  have hEl := hh.e.le
  have hcap := hh.e.big
  unfold maxLen at hcap
  have hns := histOk_nums hok
  have hll : hv.ll ≤ 400 := hns.2.2.2
  have hI := hJI _ _ h0
  have hREP := replay_any W hv 0 B V E (hh.grown hI.1) hbl hT (by decide)
  rw [hok] at hREP
  have kH := hI.2.1
  have H0 := Lib.hid h0
  have HH := Lib.hid hh
  have HRP := Lib.hid (histOk_rep hok hh.b.n)
  have HGOOD := Lib.hid (show ∀ k, k ≤ E.length → Good (repL B (E.take k)) from good_rep (Good.of HRP.out.1 hh.b.ok (by have := hh.b.n; omega)) HRP.out.2 (fun x hx => ⟨(hh.e.ok x hx).1.i1, (hh.e.ok x hx).1.i2⟩))
  have HTAB := Lib.hid htab
  have HTX := Lib.hid hT
  have HSP := Lib.hid hsp
  have HJI := Lib.hid hJI
  have HJ := Lib.hid hJ
  have HY := Lib.hid hY
  have HSZ := Lib.hid hsz
  have HREP := Lib.hid hREP
  have HEN := Lib.hid hEn
  clear hI h0 hh hok htab hT hsp hJI hJ hY hsz hREP hns hEn
  obtain ⟨xba, xbl, xbc, xva, xvl, xvc, xfr, xnum, xla, xll, xlc⟩ := hv
  dsimp only at hbl hEl hcap hll HREP kH HEN
  have a0 := kH.cell 0
  have a1 := kH.cell 1
  have a2 := kH.cell 2
  have a3 := kH.cell 3
  have a4 := kH.cell 4
  simp only [List.getElem?_cons_zero, List.getElem?_cons_succ] at a0 a1 a2 a3 a4
  clear kH
  refine callsIn_of_wp Tryz.func68 rfl trivial ?_ rfl
  simp only [Tryz.ntmps68, List.size_toArray, List.length_cons, List.length_nil, Nat.reduceAdd, Nat.reduceSub, Array.replicate_succ, Array.replicate_zero, List.push_toArray, List.append_toArray, List.nil_append, List.cons_append]
  gi_wp2_with fail
  refine ⟨trivial, fun h => (by cases h), ?_⟩
  refine (callsIn_wide.2 HREP.out).mono ?_
  rintro e w3 ⟨-, -, h3⟩
  obtain ⟨D, Ex, rfl, hf⟩ := h3 rfl (by decide) (by omega)
  simp only [Int.toNat_zero, List.take_zero] at hf
  have hrep0 : repL B [] = B := by simp [repL]
  obtain ⟨m0, kH, va, n, vc, kT, ho, -, -⟩ := HJI.out _ _ H0.out
  have m3 : Mine.Mod none_ W w3 := hf.m
  have hWZ := HSZ.out _ _ H0.out
  have hI3 : pastI w Z bH bT ⟨xba, xbl, xbc, xva, xvl, xvc, xfr, xnum, xla, xll, xlc⟩ B E ⟨[], some (D, 0), none⟩ w3 := by
    refine ⟨m0.trans m3, kH.mod m3 (fun e => e), va, n, vc, kT.mod m3 (fun e => e), ownsRow_mod ho m3 (fun _ _ e => e), fun D' i' hs => ?_, fun _ _ _ _ hs => by cases hs⟩
    obtain ⟨rfl, rfl⟩ : D = D' ∧ 0 = i' := by simpa using hs
    obtain ⟨S, hd, hS⟩ := hf.doc
    refine ⟨fun k => w.heap.size ≤ k ∧ k < W.heap.size, ⟨m0.trans m3, ⟨S, by rw [List.take_zero]; exact hd, fun k hk => ⟨Nat.le_trans m0.size (hS k hk).1, fun e => by have := (hS k hk).1; omega⟩⟩, fun k hk => Nat.lt_of_lt_of_le hk.2 m3.size, by rw [List.take_zero]; exact hf.cl⟩, fun k hk => hk.1, fun k hk => ?_, fun _ _ _ _ hs => by cases hs⟩
    rcases hk with rfl | rfl | rfl | rfl | hk
    · exact ⟨c1, by omega⟩
    · exact ⟨c2, by omega⟩
    · exact ⟨hw, by omega⟩
    · exact ⟨by omega, by omega⟩
    · have := own_ge ho k hk
      exact ⟨by omega, this.2⟩
  have J0 := Lib.hid (HJ.out _ ⟨[], some (D, 0), none⟩ _ _ H0.out hI3 (KeepTwo.of m3 (by omega) (fun _ _ e => e)))
  clear hf h3 m0 kH kT ho m3 hI3 HREP a0 a1 a2 a3 a4 hWZ hrep0
  gi_wp2_with fail
  gi_loopw [4, 5] (fun s4 s5 wr => ∃ i : Nat, s4 = .int .i64 0 ∧ s5 = .int .i64 (i : Int) ∧ i ≤ xll ∧ J ⟨pastL B E i, some (D, i), none⟩ wr) (fun s4 s5 wr => xll - (intOf s5).toNat)
  case atStart => exact ⟨0, rfl, rfl, Nat.zero_le _, J0.out⟩
  case round =>
    obtain ⟨i, rfl, rfl, hi, hJ0⟩ := hrel
    have hIr := HJI.out _ _ hJ0
    obtain ⟨m0, kH, va, n, vc, kT, ho, hd, -⟩ := hIr
    have a4 : wr.cell? ⟨bH, 4, none⟩ = some (.slice xla xll xlc) := by rw [kH.cell]; rfl
    have HJ0 := Lib.hid hJ0
    by_cases hlt : i < xll
    · obtain ⟨x, hx⟩ : ∃ x, E[i]? = some x := ⟨E[i]'(by rw [HEN.out]; exact hlt), by simp⟩
      have hmem := List.mem_of_getElem? hx
      obtain ⟨V', n', hrp⟩ := Rep.upto i (by have := HEN.out; omega) HRP.out.2
      rw [drop_cons hx] at hrp
      obtain ⟨hmay, hE0, hL0, -⟩ := hrp.step
      obtain ⟨Ex, hf, hex1, hex2, -⟩ := hd D i rfl
      obtain ⟨S, hds, hS⟩ := hf.doc
      have hxo := (HH.out.e.ok x hmem).1
      obtain ⟨LS, hLS⟩ : ∃ LS, LS = stepsL (repL B (E.take i)) x.o x.sp := ⟨_, rfl⟩
      have HLS := Lib.hid hLS
      have HSTL := Lib.hid (show LS.length ≤ 1001 from by rw [hLS]; exact Nat.le_trans (stepsL_len _ _ _) (by have := HSP.out x hmem; omega))
      have HPL := Lib.hid (show (pastL B E i).length ≤ i * 1001 from pastL_len HSP.out i)
      have HPS := Lib.hid (show pastL B E (i + 1) = pastL B E i ++ LS from by rw [pastL_step hx, hLS])
      have HDOX := Lib.hid (show ∀ (Ex : Nat → Prop) (wx : World), DocF w Ex wx D (repL B (E.take i)) → Calls Tryz.prog 70 #[.pointer (some ⟨D, 0, none⟩), x.o.v] wx fun e w' => e = .returned (.int .i64 0) ∧ DocF w Ex w' D (repL B (E.take (i + 1))) ∧ ∀ k, Ex k → w'.heap[k]? = wx.heap[k]? from fun Ex wx hf => by
        have hdo := hf.do2 x.o x.sp (HH.out.e.ok x hmem).1 (HTX.out x hmem)
        rw [hE0, hL0, ← repL_snoc hx] at hdo
        exact hdo)
      have HST := Lib.hid (steps_past wr S D (repL B (E.take i)) x.o x.sp hds (HGOOD.out i (by have := HEN.out; omega)) (HTAB.out.mod m0 (fun _ _ _ e => e)) (hxo.grown m0) hmay)
      have HX := Lib.hid hx
      obtain ⟨b, off, rfl, hr⟩ := (HH.out.e.grown m0).ents i x hx
      have x0 := hr 0 _ rfl
      have x1 := hr 1 _ rfl
      have x2 := hr 2 _ rfl
      have x3 := hr 3 _ rfl
      have x4 := hr 4 _ rfl
      have x5 := hr 5 _ rfl
      have x6 := hr 6 _ rfl
      rw [Nat.add_zero] at x0
      clear hx hmem hrp hmay hE0 hL0 hf hex1 hex2 hd hds hS hxo hr m0 kH kT ho hJ0
      gi_wp2_with fail
      refine ⟨trivial, fun h => (by cases h), ?_⟩
      refine (callsIn_wide.2 HST.out).mono ?_
      rintro e w4 ⟨⟨ra, rn, rc, rfl, hro, hrn⟩, m4⟩
      rw [← HLS.out] at hro
      have hLn : LS.length = rn := by
        have h1 := hro.1
        rw [flat_length StepV.len] at h1
        omega
      have hrc : rc ≤ 9223372036854775807 := by
        rcases ownsRow_blk hro with ⟨h1, _, _⟩ | ⟨g, cap, more, h1, _, _, _, hm, _⟩
        · cases h1; omega
        · cases h1; unfold maxLen at hm; omega
      have hsz4 := HSZ.out _ _ HJ0.out
      have hI4 : pastI w Z bH bT ⟨xba, xbl, xbc, xva, xvl, xvc, xfr, xnum, some ⟨b, off, none⟩, xll, xlc⟩ B E ⟨pastL B E i, some (D, i), some (ra, rn, rc, LS)⟩ w4 := by
        obtain ⟨m0, kH, va, n, vc, kT, ho, hd, -⟩ := HJI.out _ _ HJ0.out
        obtain ⟨Ex, hf, hex1, hex2, -⟩ := hd D i rfl
        refine ⟨m0.trans m4, kH.mod m4 (fun e => e), va, n, vc, kT.mod m4 (fun e => e), ownsRow_mod ho m4 (fun _ _ e => e), fun D' i' hs => ?_, fun ra' rn' rc' LS' hs => ?_⟩
        · obtain ⟨rfl, rfl⟩ : D = D' ∧ i = i' := by simpa using hs
          refine ⟨_, hf.box m4, fun k hk => ?_, fun k hk => .inl (hex2 k hk), fun ra' rn' rc' LS' hs k hk => ?_⟩
          · rcases hk with hk | hk
            · exact hex1 k hk
            · have := m0.size; omega
          · obtain ⟨rfl, rfl, rfl, rfl⟩ : ra = ra' ∧ rn = rn' ∧ rc = rc' ∧ LS = LS' := by simpa using hs
            exact .inr (own_ge hro k hk)
        · obtain ⟨rfl, rfl, rfl, rfl⟩ : ra = ra' ∧ rn = rn' ∧ rc = rc' ∧ LS = LS' := by simpa using hs
          exact ⟨own_less hro hsz4, fun k hk e => by have h1 := (own_ge ho k hk).2; have h2 := (own_ge hro k e).1; omega⟩
      have J4 := Lib.hid (HJ.out _ ⟨pastL B E i, some (D, i), some (ra, rn, rc, LS)⟩ _ _ HJ0.out hI4 (KeepTwo.of m4 (by omega) (fun _ _ e => e)))
      clear hI4 hsz4 m4 hro x0 x1 x2 x3 x4 x5 x6 a4
      gi_wp2_with fail
      gi_loopw [33] (fun s33 wr => ∃ j : Nat, s33 = .int .i64 (j : Int) ∧ j ≤ rn ∧ J ⟨pastL B E i ++ LS.take j, some (D, i), some (ra, rn, rc, LS)⟩ wr) (fun s33 wr => rn - (intOf s33).toNat)
      case atStart => exact ⟨0, rfl, Nat.zero_le _, by rw [List.take_zero, List.append_nil]; exact J4.out⟩
      case round =>
        obtain ⟨j, rfl, hj, hJ1⟩ := hrel
        have HJ1 := Lib.hid hJ1
        obtain ⟨m0, kH, va, n, vc, kT, ho, hd, hrr⟩ := HJI.out _ _ hJ1
        by_cases hjl : j < rn
        · obtain ⟨y, hy⟩ : ∃ y, LS[j]? = some y := ⟨LS[j]'(by omega), by simp⟩
          obtain ⟨hro, -⟩ := hrr ra rn rc LS rfl
          rcases ownsRow_blk hro with ⟨_, h0, _⟩ | ⟨g2, cap2, more, hsl, hgb, kg, hnc, hcm, hll2⟩
          · omega
          obtain ⟨rfl, rfl⟩ : ra = some ⟨g2, 0, none⟩ ∧ rc = cap2 := by simpa using hsl
          have y0 := Blk.elem StepV.len kg j 0 _ hy (by decide)
          have y1 := Blk.elem StepV.len kg j 1 _ hy (by decide)
          have y2 := Blk.elem StepV.len kg j 2 _ hy (by decide)
          have y3 := Blk.elem StepV.len kg j 3 _ hy (by decide)
          have y4 := Blk.elem StepV.len kg j 4 _ hy (by decide)
          have y5 := Blk.elem StepV.len kg j 5 _ hy (by decide)
          rw [Nat.add_zero] at y0
          simp only [StepV.cs, List.getElem?_cons_zero, List.getElem?_cons_succ] at y0 y1 y2 y3 y4 y5
          have hTK := Lib.hid (ents_snoc hy)
          have hszr := HSZ.out _ _ hJ1
          have mA := (Mine.Mod.refl none_ wr).alloc (.cells #[.int .i64 y.num, .int .i64 y.site, .int .i64 y.seq, .int .i64 y.at_, .string y.inn, .string y.out] 44)
          have kY := Lib.hid (Blk.new (w := wr) (cs := y.cs) (t := 44))
          have J5 := Lib.hid (HJ.out _ ⟨pastL B E i ++ LS.take j, some (D, i), some (some ⟨g2, 0, none⟩, rn, rc, LS)⟩ _ _ hJ1 ((HJI.out _ _ hJ1).mod mA hw b1 b2 (fun k e => e.elim)) (KeepTwo.of mA (by omega) (fun _ _ e => e)))
          obtain ⟨fn, tmps, assign, body, hyy, hR⟩ := HY.out _ y _ J5.out (by
            show (pastL B E i ++ LS.take j).length ≤ 500000
            rw [List.length_append]
            have h1 := HPL.out
            have h2 := HSTL.out
            have h3 : (LS.take j).length ≤ LS.length := by rw [List.length_take]; omega
            have h4 : i * 1001 ≤ 400 * 1001 := Nat.mul_le_mul_right _ (by omega)
            omega)
          unfold pastEnc at hyy
          dsimp only [StepV.cs] at hyy
          clear hJ1 m0 kH kT ho hd hrr hro kg hy mA hsl hll2
          gi_wp2_with fail
          refine ⟨fun h => (by cases h), ?_⟩
          refine hR.mono ?_
          rintro e W' (⟨rfl, hj2⟩ | ⟨rfl, cc, hj2⟩)
          · have HJ2 := Lib.hid (show J ⟨pastL B E i ++ LS.take (j + 1), some (D, i), some (some ⟨g2, 0, none⟩, rn, rc, LS)⟩ W' from by rw [hTK.out, ← List.append_assoc]; exact hj2)
            clear hj2
            gi_wp2_with fail
            refine ⟨⟨j + 1, by simp, by omega, HJ2.out⟩, by simp [intOf]; omega⟩
          · gi_wp2_with fail
            refine bodyPost_ret (results_none rfl _ _ _) rfl ?_
            exact ⟨⟨_, rfl⟩, .inr ⟨cc, _, hj2⟩⟩
        · obtain rfl : j = rn := by omega
          have htk : LS.take j = LS := List.take_of_length_le (by omega)
          obtain ⟨Ex, hf, hex1, hex2, hex3⟩ := hd D i rfl
          have HDO := Lib.hid (HDOX.out Ex wr hf)
          obtain ⟨b', off', e', hr⟩ := (HH.out.e.grown m0).ents i x HX.out
          cases e'
          have x0 := hr 0 _ rfl
          have x1 := hr 1 _ rfl
          have x2 := hr 2 _ rfl
          have x3 := hr 3 _ rfl
          have x4 := hr 4 _ rfl
          have x5 := hr 5 _ rfl
          have x6 := hr 6 _ rfl
          rw [Nat.add_zero] at x0
          have a4 : wr.cell? ⟨bH, 4, none⟩ = some (.slice (some ⟨b, off, none⟩) xll xlc) := by rw [kH.cell]; rfl
          rw [htk] at ho
          have HKH := Lib.hid kH
          have HKT := Lib.hid kT
          have HO := Lib.hid ho
          have HE1 := Lib.hid hex1
          have HE2 := Lib.hid hex2
          clear hr hf m0 kH kT ho hd hrr hex1 hex2 hex3 htk hJ1
          gi_wp2_with fail
          refine ⟨trivial, fun h => (by cases h), ?_⟩
          refine (callsIn_wide.2 HDO.out).mono ?_
          rintro e w6 ⟨rfl, hf6, hk6⟩
          have J6 := Lib.hid (HJ.out _ ⟨pastL B E (i + 1), some (D, i + 1), none⟩ _ _ HJ1.out (show pastI w Z bH bT ⟨xba, xbl, xbc, xva, xvl, xvc, xfr, xnum, some ⟨b, off, none⟩, xll, xlc⟩ B E ⟨pastL B E (i + 1), some (D, i + 1), none⟩ w6 from by
            refine ⟨hf6.m, (hk6 _ (HE2.out _ (.inl rfl))).trans HKH.out, va, n, vc, (hk6 _ (HE2.out _ (.inr (.inl rfl)))).trans HKT.out, ?_, fun D' i' hs => ?_, fun _ _ _ _ hs => by cases hs⟩
            · show w6.ownsRow (Z + 2) 44 6 (.slice va n vc) n (flat StepV.cs (pastL B E (i + 1)))
              rw [HPS.out]
              exact own_same HO.out (fun k hk => hk6 k (HE2.out _ (.inr (.inr (.inr (.inr hk))))))
            · obtain ⟨rfl, rfl⟩ : D = D' ∧ i + 1 = i' := by simpa using hs
              exact ⟨Ex, hf6, HE1.out, HE2.out, fun _ _ _ _ hs => by cases hs⟩) (fun k hk => hk6 k (HE2.out _ (by rcases hk with e | e; exact .inr (.inr (.inl e)); exact .inr (.inr (.inr (.inl e)))))))
          clear hf6 hk6 x0 x1 x2 x3 x4 x5 x6 a4
          gi_wp2_with fail
          refine ⟨⟨i + 1, rfl, by simp, by omega, J6.out⟩, by simp [intOf]; omega⟩
    · obtain rfl : i = xll := by omega
      have hfin : pastL B E i = pastL B E E.length := by rw [HEN.out]
      gi_wp2_with fail
      go_end0
      exact ⟨⟨_, rfl⟩, .inl ⟨_, hfin, HJ0.out⟩⟩
end Go.Proofs.YtjgjjlolhdlofaaGreatDoor

namespace Go.Proofs.YtjgjjlolhdlofaaGreatDoor
open Go.RowKit Go.Shelf Go.Mine
open Classical
attribute [local go_sem] Oper.semAt_some
attribute [local go_sem ↓] app_fold

theorem DocF.boxT {w wx wy : World} {E T : Nat → Prop} {D : Nat} {L : List CellV} (h : DocF w E wx D L) (m : Mine.Mod T wx wy) (hT : ∀ k, T k → E k) (hE : ∀ k, E k → w.heap.size ≤ k) : DocF w (fun k => E k ∨ (wx.heap.size ≤ k ∧ k < wy.heap.size)) wy D L := by
  obtain ⟨S, h1, h2⟩ := h.doc
  refine ⟨h.m.transIn m (fun b hb e => by have := hE b (hT b e); omega), ⟨fun k => S k ∧ k < wx.heap.size, (h1.mono (T := fun k => S k ∧ k < wx.heap.size) (fun k hk hs => ⟨hs, hk⟩)).mod m (fun k hk e => (h2 k hk.1).2 (hT k e)), fun k hk => ⟨(h2 k hk.1).1, ?_⟩⟩, ?_, h.cl⟩
  · rintro (he | ⟨he, _⟩)
    · exact (h2 k hk.1).2 he
    · have := hk.2; omega
  · rintro k (hk | hk)
    · exact Nat.lt_of_lt_of_le (h.ex k hk) m.size
    · exact hk.2

/-- A step more. -/
theorem pastI.add {w : World} {Z bH bT : Nat} {hv : HistV} {B : List CellV} {E : List EntV} {s : PS} {W W6 : World} {x : StepV} {va va' : Option Addr} {n vc vc' : Nat} (h1 : bH < Z) (h2 : bT < Z) (hne : bH ≠ bT) (hw : w.heap.size ≤ bT)
    (m0 : Mine.Mod none_ w W) (kH : Blk W bH hv.cs 32) (kT : Blk W bT [.slice va n vc] 36) (ho : W.ownsRow (Z + 2) 44 6 (.slice va n vc) n (flat StepV.cs s.T))
    (hd : ∀ D i, s.doc = some (D, i) → ∃ Ex, DocF w Ex W D (repL B (E.take i)) ∧ (∀ k, Ex k → w.heap.size ≤ k) ∧ (∀ k, prot Z bH bT va n vc k → Ex k) ∧ ∀ ra rn rc LS, s.row = some (ra, rn, rc, LS) → ∀ k, (Value.slice ra rn rc).ownBlock = some k → Ex k)
    (hr : ∀ ra rn rc LS, s.row = some (ra, rn, rc, LS) → W.ownsRow (Z + 2) 44 6 (.slice ra rn rc) rn (flat StepV.cs LS) ∧ ∀ k, (Value.slice va n vc).ownBlock = some k → (Value.slice ra rn rc).ownBlock ≠ some k)
    (mx : Mine.Mod (fun k => (Value.slice va n vc).ownBlock = some k) W W6) (hown : W6.ownsRow (Z + 2) 44 6 (.slice va' (n + 1) vc') (n + 1) (flat StepV.cs s.T ++ x.cs)) (hat : ∀ k, (Value.slice va' (n + 1) vc').ownBlock = some k → (Value.slice va n vc).ownBlock = some k ∨ W.heap.size ≤ k) (hz : Z + 2 ≤ W.heap.size) :
    KeepTwo Z W (W6.setCell ⟨bT, 0, none⟩ (.slice va' (n + 1) vc')) ∧ pastI w Z bH bT hv B E (pastStep s x) (W6.setCell ⟨bT, 0, none⟩ (.slice va' (n + 1) vc')) := by
  have hgz : ∀ k, (Value.slice va n vc).ownBlock = some k → Z + 2 ≤ k := fun k hk => (own_ge ho k hk).1
  have nk : ∀ k, k < Z → ¬ (Value.slice va n vc).ownBlock = some k := fun k hk e => by have := hgz k e; omega
  have M7 := (Mine.Mod.refl (one bT) W6).setCell ⟨bT, 0, none⟩ (fun _ => rfl) (.slice va' (n + 1) vc')
  have no : ∀ k, k ≠ bT → ¬ one bT k := fun k hk e => hk e
  have hor : ∀ {v : Value} {nn : Nat} {xs : List Value}, W6.ownsRow (Z + 2) 44 6 v nn xs → (W6.setCell ⟨bT, 0, none⟩ (.slice va' (n + 1) vc')).ownsRow (Z + 2) 44 6 v nn xs := fun hh => ownsRow_mod hh M7 (fun k hk => no k (by have := own_ge hh k hk; omega))
  refine ⟨(KeepTwo.of mx (by omega) (fun k hk e => by have := hgz k e; rcases hk with h | h <;> omega)).trans (KeepTwo.set (fun e => by rcases e with e | e <;> (have e' : bT = _ := e; omega))), (m0.transIn mx (fun b hb e => by have := hgz b e; omega)).transIn M7 (fun b hb e => by have e' : b = bT := e; omega), (kH.mod mx (nk _ h1)).mod M7 (no _ hne), va', n + 1, vc', (kT.mod mx (nk _ h2)).set 0 _, ?_, fun D i hs => ?_, fun ra rn rc LS hs => ?_⟩
  · have := hor hown
    show World.ownsRow _ _ _ _ _ _ (flat StepV.cs (s.T ++ [x]))
    rw [flat_append]
    have e : flat StepV.cs [x] = x.cs := by simp [flat]
    rw [e]
    exact this
  · obtain ⟨Ex, hf, e1, e2, e3⟩ := hd D i hs
    have hf6 := hf.boxT mx (fun k hk => e2 k (.inr (.inr (.inr (.inr hk))))) e1
    have hE : ∀ k, Ex k ∨ (W.heap.size ≤ k ∧ k < W6.heap.size) → w.heap.size ≤ k := fun k hk => by
      rcases hk with hk | hk
      · exact e1 k hk
      · have := m0.size; omega
    refine ⟨_, hf6.put (M7.mono (fun k _ e => .inl (e2 k (.inr (.inl e))))) hE, hE, fun k hk => ?_, fun ra rn rc LS hs k hk => .inl (e3 ra rn rc LS hs k hk)⟩
    rcases hk with hk | hk | hk | hk | hk
    · exact .inl (e2 k (.inl hk))
    · exact .inl (e2 k (.inr (.inl hk)))
    · exact .inl (e2 k (.inr (.inr (.inl hk))))
    · exact .inl (e2 k (.inr (.inr (.inr (.inl hk)))))
    · rcases hat k hk with e | e
      · exact .inl (e2 k (.inr (.inr (.inr (.inr e)))))
      · exact .inr ⟨e, (own_ge hown k hk).2⟩
  · obtain ⟨r1, r2⟩ := hr ra rn rc LS hs
    refine ⟨hor (ownsRow_mod r1 mx (fun k hk e => r2 k e hk)), fun k hk e => ?_⟩
    rcases hat k hk with h | h
    · exact r2 k h e
    · have := (own_ge r1 k e).2
      omega

set_option maxHeartbeats 16000000 in
set_option maxRecDepth 1000000 in
theorem appendSeq_any (w W : World) (bH : Nat) (hv : HistV) (B : List CellV) (V : List Int) (E : List EntV) (hh : HistIs w hv B V E) (hbl : hv.bl ≤ 1000) (hok : histOk hv B V E = true) (htab : tabsOk w) (hT : ∀ x ∈ E, x.o.text.size ≤ 1099511627776) (hsp : ∀ x ∈ E, x.sp.length ≤ 1000)
    (mW : Mine.Mod none_ w W) (kH : Blk W bH hv.cs 32) (c1 : w.heap.size ≤ bH) :
    Calls Tryz.prog 67 #[.slice none 0 0, .func (.func 68) #[] #[.pointer (some ⟨bH, 0, none⟩)]] W fun e w' => (∃ va n vc, e = .returned (.slice va n vc) ∧ w'.ownsRow w.heap.size 44 6 (.slice va n vc) n (flat StepV.cs (pastL B E E.length))) ∧ Mine.Mod none_ w w' := by
  obtain ⟨W1, hW1⟩ : ∃ W1, W.alloc (.cells #[.slice none 0 0] 36) = W1 := ⟨_, rfl⟩
  have mB : Mine.Mod none_ W W1 := by rw [← hW1]; exact (Mine.Mod.refl none_ W).alloc _
  have kT : Blk W1 W.heap.size [.slice none 0 0] 36 := by rw [← hW1]; exact Blk.new
  have hz1 : W1.heap.size = W.heap.size + 1 := by rw [← hW1, World.size_alloc]
  have hbH := kH.lt
  have hWs := mW.size
  have hI0 : pastI w W1.heap.size bH W.heap.size hv B E ⟨[], none, none⟩ W1 :=
    ⟨mW.trans mB, kH.mod mB (fun e => e), none, 0, 0, kT, ⟨rfl, .inl ⟨rfl, rfl⟩⟩, (fun D i hs => by cases hs), (fun _ _ _ _ hs => by cases hs)⟩
  obtain ⟨bT, hbT⟩ : ∃ bT, W.heap.size = bT := ⟨_, rfl⟩
  have HBT := Lib.hid hbT
  rw [hbT] at hI0 hbH hWs hz1
  have b1 : bH < W1.heap.size := by omega
  have b2 : bT < W1.heap.size := by omega
  have b3 : w.heap.size ≤ W1.heap.size := by omega
  have HH := Lib.hid hh
  have HOK := Lib.hid hok
  have HTAB := Lib.hid htab
  have HTX := Lib.hid hT
  have HSP := Lib.hid hsp
  have HW := Lib.hid hW1
  clear mB kT mW kH hh hok htab hT hsp hW1 hz1
  refine (callsIn_wide (n := 8)).1 ?_
  refine callsIn_of_wp_marks Tryz.func67 rfl trivial ?_ rfl
  refine wpIn_wide.2 (Code.wp_mono (Q := calmPost _) calmPost.out ?_)
  simp only [Tryz.ntmps67, List.size_toArray, List.length_cons, List.length_nil, Nat.reduceAdd, Nat.reduceSub, Array.replicate_succ, Array.replicate_zero, List.push_toArray, List.append_toArray, List.nil_append, List.cons_append]
  go_upto_region 1 with fail
  rw [HW.out]
  clear hbT
  go_wp2_with fail
  refine wpIn_wide.1 (?_ : Code.wpIn Fence.wide 8 _ _ _ _ _)
  refine rangeFunc_box_upd (β := Nat) (fun t x b => (t.setIfInBounds 7 (.agg x.cs.toArray)).setIfInBounds 5 (.pointer (some ⟨b, 0, none⟩))) rfl (by decide) (gf := 68) (lb := #[.pointer (some ⟨bH, 0, none⟩)]) rfl trivial (enters_of Tryz.func68 (by kernel_rfl) rfl)
    pastEnc (fun _ => rfl) (pastI w W1.heap.size bH bT hv B E) (fun _ _ _ => False) pastStep pastG (fun s => s.T = pastL B E E.length) ⟨[], none, none⟩ ?hI ?hIx hI0
    (fun s x b W' => pastI w W1.heap.size bH bT hv B E s W' ∧ pastG s x ∧ Blk W' b x.cs 44 ∧ W1.heap.size + 2 ≤ b) ?hR ?hiter ?assign ?body ?done ?stop
  case hI => exact fun s W2 W3 h m => h.mod m b3 b1 b2 (fun k e => e)
  case hIx => intro _ _ _ _ h _; exact h.elim
  case hR =>
    rintro s x b W2 W3 ⟨h1, h2, h3, h4⟩ m
    exact ⟨h1.mod m b3 b1 b2 (fun k e => e), h2, h3.mod m (fun e => by rcases e with e | e <;> omega), h4⟩
  case hiter =>
    intro l J Jx W2 hJI hJ hY h0 hsz2 hsz3
    refine (all1_any (8 - 1) w W1.heap.size bH bT hv B V E HH.out hbl HOK.out HTAB.out HTX.out HSP.out b3 b1 b2 c1 hWs l J Jx W2 hJI hJ hY h0 hsz3).mono ?_
    rintro e W' ⟨h1, h2⟩
    exact ⟨h1, h2⟩
  case assign =>
    intro l s x W2 K' hI hG hz hK'
    have FIN := Lib.hid (hK' W2.heap.size (W2.alloc (.cells x.cs.toArray 44)) ⟨hI.mod ((Mine.Mod.refl none_ W2).alloc _) b3 b1 b2 (fun k e => e.elim), hG, Blk.new, hz⟩ (KeepTwo.of ((Mine.Mod.refl none_ W2).alloc _) (by omega) (fun _ _ e => e)))
    simp only [List.setIfInBounds_toArray, List.set_cons_zero, List.set_cons_succ] at FIN
    unfold pastEnc
    dsimp only [StepV.cs] at FIN ⊢
    clear hK' hI hG
    gi_wp2
    exact FIN.out
  case body =>
    rintro l s x b W2 ⟨⟨m0, kH2, va, n, vc, kT2, ho, hd, hr⟩, hG, kX, hbz⟩ hz
    have hn : n ≤ 1000000 := by
      have h1 := ho.1
      rw [flat_length StepV.len] at h1
      have h2 : s.T.length ≤ 500000 := hG
      omega
    have mA := (Mine.Mod.refl none_ W2).alloc (.cells x.cs.toArray 44)
    obtain ⟨va', vc', w6, hrun, hown, mg, hat⟩ := app_at (P := Tryz.prog) (W := W2.alloc (.cells x.cs.toArray 44)) (t := 36) (e := 44) Tryz.underlying36 infoStep rfl (by decide)
      (cs := x.cs) rfl (StepV.ones x) (ownsRow_mod ho mA (fun _ _ e => e)) Blk.new hn (by decide) (by rw [World.size_alloc]; omega)
    have mx : Mine.Mod (fun k => (Value.slice va n vc).ownBlock = some k) W2 w6 := (mA.mono (fun _ _ e => e.elim)).trans mg
    have hgz : ∀ k, (Value.slice va n vc).ownBlock = some k → W1.heap.size + 2 ≤ k := fun k hk => (own_ge ho k hk).1
    have hne : bH ≠ bT := by omega
    have FIN := Lib.hid (pastI.add (hv := hv) (B := B) (E := E) (s := s) (x := x) b1 b2 hne hWs m0 kH2 kT2 ho hd hr mx hown (fun k hk => by
      rcases hat with h | h
      · exact .inl (h ▸ hk)
      · rw [h] at hk
        have e : (W2.alloc (.cells x.cs.toArray 44)).heap.size = k := Option.some.inj hk
        rw [World.size_alloc] at e
        exact .inr (by omega)) hz)
    have c0 : W2.cell? ⟨bT, 0, none⟩ = some (.slice va n vc) := kT2.cell 0
    have x0 := kX.cell 0
    have x1 := kX.cell 1
    have x2 := kX.cell 2
    have x3 := kX.cell 3
    have x4 := kX.cell 4
    have x5 := kX.cell 5
    simp only [StepV.cs, List.getElem?_cons_zero, List.getElem?_cons_succ] at x0 x1 x2 x3 x4 x5
    have kT6 := kT2.mod mx (fun e => by have := hgz _ e; omega)
    have p0 : w6.cell? ⟨bT, 0, none⟩ = some (.slice va n vc) := kT6.cell 0
    have r0 := kT6.frozen 0
    have hrun2 : (appSem #[36, 36] 36 #[.slice va n vc, .slice (some ⟨W2.heap.size, 0, none⟩) 1 1]).run Tryz.prog (W2.alloc (.cells #[.int .i64 x.num, .int .i64 x.site, .int .i64 x.seq, .int .i64 x.at_, .string x.inn, .string x.out] 44)) = .ok (.slice va' (n + 1) vc') w6 := hrun
    clear m0 kH2 kT2 ho hd hr hG kX hz mA hrun hown mg hat mx hgz hne kT6
    gi_wp2_with fail
    exact FIN.out
  case done =>
    rintro Df s W2 hsT ⟨m0, kH2, va, n, vc, kT2, ho, hd, hr⟩ hDf rfl
    have c0 : W2.cell? ⟨bT, 0, none⟩ = some (.slice va n vc) := kT2.cell 0
    have HDF := Lib.hid hDf
    have mP : Mine.Mod (two W1.heap.size) W2 (W2.putObj W1.heap.size (.deferred none)) := ⟨rfl, rfl, rfl, by simp, fun k _ hs => World.putObj_heap_other (fun e => hs (Or.inl e))⟩
    rw [hsT] at ho
    have HO := Lib.hid (own_less (ownsRow_mod ho mP (fun k hk e => by have := own_ge ho k hk; rcases e with e | e <;> omega)) (show w.heap.size ≤ W1.heap.size + 2 by omega))
    have MF := Lib.hid (show Mine.Mod none_ w (W2.putObj W1.heap.size (.deferred none)) from m0.transIn mP (fun b hb e => by rcases e with e | e <;> omega))
    clear m0 kH2 kT2 ho hd hr hDf mP hsT
    go_wp2_with fail
    refine ⟨by simp, .inl ⟨_, _, rfl, run_takeDeferred HDF.out, ?_⟩⟩
    exact ⟨_, results_tmp rfl _ _ _, ⟨va, n, vc, rfl, HO.out⟩, MF.out⟩
  case stop =>
    rintro Df c s W2 h
    exact h.elim

theorem allF_any (h : HistV) (w : World) : Calls Tryz.prog 35 #[h.v] w fun e w' => e = .returned (.func (.func 68) #[] #[.pointer (some ⟨w.heap.size, 0, none⟩)]) ∧ w' = w.alloc (.cells h.cs.toArray 32) := by
  dsimp only [HistV.v, HistV.cs]
  go_enter Tryz.func35, Tryz.ntmps35
  go_wp2
  go_ret
  exact ⟨rfl, rfl⟩
set_option maxHeartbeats 4000000 in
theorem collect_any (w W : World) (bH : Nat) (hv : HistV) (B : List CellV) (V : List Int) (E : List EntV) (hh : HistIs w hv B V E) (hbl : hv.bl ≤ 1000) (hok : histOk hv B V E = true) (htab : tabsOk w) (hT : ∀ x ∈ E, x.o.text.size ≤ 1099511627776) (hsp : ∀ x ∈ E, x.sp.length ≤ 1000)
    (mW : Mine.Mod none_ w W) (kH : Blk W bH hv.cs 32) (c1 : w.heap.size ≤ bH) :
    Calls Tryz.prog 34 #[.func (.func 68) #[] #[.pointer (some ⟨bH, 0, none⟩)]] W fun e w' => (∃ va n vc, e = .returned (.slice va n vc) ∧ w'.ownsRow w.heap.size 44 6 (.slice va n vc) n (flat StepV.cs (pastL B E E.length))) ∧ Mine.Mod none_ w w' := by
  have HA := Lib.hid (appendSeq_any w W bH hv B V E hh hbl hok htab hT hsp mW kH c1)
  clear hh hok htab hT hsp mW kH
  go_enter Tryz.func34, Tryz.ntmps34
  go_wp2_with fail
  refine HA.out.mono ?_
  rintro e w1 ⟨⟨va, n, vc, rfl, ho⟩, m1⟩
  have HO := Lib.hid ho
  clear ho HA
  go_wp2_with fail
  go_ret
  exact ⟨⟨va, n, vc, rfl, HO.out⟩, m1⟩
end Go.Proofs.YtjgjjlolhdlofaaGreatDoor

namespace Go.Proofs.YtjgjjlolhdlofaaGreatDoor
open Go.RowKit Go.Shelf Go.Mine

theorem encCs_cells (n : Nat) (h : Lib.validRune (n : Int) = true) : encCs n = Lib.runeCells (n : Int) := by
  obtain ⟨m, hm, hc⟩ := vR_cases h
  obtain rfl : n = m := by omega
  unfold encCs encR Lib.runeCells
  rcases hc with h1 | ⟨h0, h1⟩ | ⟨h0, h1, h2⟩ | ⟨h0, h1⟩
  · rw [if_pos h1, Lib.encodeRuneZ_one (by omega) (by omega)]
    rfl
  · rw [if_neg (by omega), if_pos h1, Lib.encodeRuneZ_two (by omega) (by omega)]
    simp
  · rw [if_neg (by omega), if_neg (by omega), if_pos h1, Lib.encodeRuneZ_three (by omega)]
    simp
  · rw [if_neg (by omega), if_neg (by omega), if_neg (by omega), Lib.encodeRuneZ_four (by omega) (by omega)]
    simp
theorem encR_len (n : Nat) (h : Lib.validRune (n : Int) = true) : (encR n).length = (Lib.runeCells (n : Int)).length := by
  rw [← encCs_cells n h, List.length_map]

end Go.Proofs.YtjgjjlolhdlofaaGreatDoor

namespace Go.Proofs.YtjgjjlolhdlofaaGreatDoor
open Go.RowKit Go.Shelf Go.Mine
open Classical

end Go.Proofs.YtjgjjlolhdlofaaGreatDoor

namespace Go.Proofs.YtjgjjlolhdlofaaGreatDoor
open Go.RowKit Go.Shelf Go.Mine
open Classical

/-- How many first entries have a number, up to one. -/
def kAt (m : Int) : List EntV → Nat
  | [] => 0
  | x :: r => if x.o.num ≠ 0 ∧ x.o.num ≤ m then kAt m r + 1 else 0
theorem kAt_le (m : Int) : ∀ E, kAt m E ≤ E.length
  | [] => Nat.le_refl _
  | x :: r => by
    rw [kAt, List.length_cons]
    have := kAt_le m r
    split <;> omega
theorem order_pend : ∀ (E : List EntV) {last p : Int} {V : List Int} {num : Int}, orderL last p V num E = true → p ≠ 0 → ∀ x ∈ E, x.o.num = 0
  | [], _, _, _, _, _, _, x, hx => by cases hx
  | y :: r, last, p, V, num, h, hp, x, hx => by
    rw [orderL] at h
    split at h
    · rename_i hz
      have hs := (nameOk_site (raise_seq hz).2.1).1
      split at h
      · rename_i hn
        split at h
        · rcases List.mem_cons.1 hx with rfl | hx
          · exact hn
          · exact order_pend r h (by omega) x hx
        · cases h
      · rw [if_neg (fun e => hp e.1)] at h; cases h
    · cases h
theorem order_last : ∀ (E : List EntV) {last p : Int} {V : List Int} {num : Int}, orderL last p V num E = true → ∀ x ∈ E, x.o.num = 0 ∨ last < x.o.num
  | [], _, _, _, _, _, x, hx => by cases hx
  | y :: r, last, p, V, num, h, x, hx => by
    rw [orderL] at h
    split at h
    · split at h
      · rename_i hn
        split at h
        · rcases List.mem_cons.1 hx with rfl | hx
          · exact .inl hn
          · exact order_last r h x hx
        · cases h
      · split at h
        · rename_i hc
          rcases List.mem_cons.1 hx with rfl | hx
          · exact .inr hc.2.1
          · rcases order_last r h x hx with e | e
            · exact .inl e
            · exact .inr (by omega)
        · cases h
    · cases h
theorem order_cut (m : Int) : ∀ (E : List EntV) {last p : Int} {V : List Int} {num : Int}, orderL last p V num E = true → ∀ (i : Nat) (x : EntV), E[i]? = some x → ((x.o.num ≠ 0 ∧ x.o.num ≤ m) ↔ i < kAt m E)
  | [], _, _, _, _, _, i, x, hx => by simp at hx
  | y :: r, last, p, V, num, h, i, x, hx => by
    have h0 := h
    rw [orderL] at h
    split at h
    · rename_i hz
      have hs := (nameOk_site (raise_seq hz).2.1).1
      split at h
      · rename_i hn
        split at h
        · rw [kAt, if_neg (fun e => e.1 hn)]
          have := order_pend r h (by omega)
          cases i with
          | zero => simp at hx; subst hx; simp [hn]
          | succ i =>
            rw [List.getElem?_cons_succ] at hx
            have := this x (List.mem_of_getElem? hx)
            simp [this]
        · cases h
      · rename_i hn
        split at h
        · rw [kAt]
          by_cases hm : y.o.num ≤ m
          · rw [if_pos ⟨hn, hm⟩]
            cases i with
            | zero => simp at hx; subst hx; simp [hn, hm]
            | succ i =>
              rw [List.getElem?_cons_succ] at hx
              rw [order_cut m r h i x hx]
              omega
          · rw [if_neg (fun e => hm e.2)]
            cases i with
            | zero => simp at hx; subst hx; simp; omega
            | succ i =>
              rw [List.getElem?_cons_succ] at hx
              rcases order_last r h x (List.mem_of_getElem? hx) with e | e
              · simp [e]
              · constructor
                · intro e2; omega
                · intro e2; omega
        · cases h
    · cases h

/-- What Steps leaves. -/
def HStepsTo (w : World) (R : Bool) (B : List CellV) (E : List EntV) (e : Ending) (w' : World) : Prop :=
  (R = false → e = .returned (.tuple #[.slice none 0 0, .int .i64 1])) ∧ (R = true → ∃ va n vc, e = .returned (.tuple #[.slice va n vc, .int .i64 0]) ∧ w'.ownsRow w.heap.size 44 6 (.slice va n vc) n (flat StepV.cs (pastL B E E.length))) ∧ Mine.Mod none_ w w'

set_option maxHeartbeats 4000000 in
set_option maxRecDepth 1000000 in
theorem hsteps_any (w : World) (h : HistV) (B : List CellV) (V : List Int) (E : List EntV) (hh : HistIs w h B V E) (hl : h.bl ≤ 1000) (htab : tabsOk w) (hT : ∀ x ∈ E, x.o.text.size ≤ 1099511627776) (hsp : ∀ x ∈ E, x.sp.length ≤ 1000) :
    Calls Tryz.prog 13 #[h.v] w (HStepsTo w (histOk h B V E) B E) := by
  have HMAY := Lib.hid (show ∀ W, Mine.Mod none_ w W → Calls Tryz.prog 23 #[h.v] W fun e w' => e = .returned (.bool (histOk h B V E)) ∧ Mine.Mod none_ W w' from fun W m => hmay_any W h B V E (hh.grown m) (by omega))
  have HCOL := Lib.hid (fun (hok : histOk h B V E = true) (W : World) (bH : Nat) (mW : Mine.Mod none_ w W) (kH : Blk W bH h.cs 32) (c1 : w.heap.size ≤ bH) => collect_any w W bH h B V E hh hl hok htab hT hsp mW kH c1)
  have HALL := Lib.hid (fun (W : World) => allF_any h W)
  obtain ⟨R, hR⟩ : ∃ R, R = histOk h B V E := ⟨_, rfl⟩
  rw [← hR] at HMAY HCOL ⊢
  clear hR hh htab hT hsp
  obtain ⟨xba, xbl, xbc, xva, xvl, xvc, xfr, xnum, xla, xll, xlc⟩ := h
  dsimp only [HistV.v, HistV.cs] at HMAY HCOL HALL ⊢
  obtain ⟨W0, hW0⟩ : ∃ W0, w.alloc (.cells #[.slice xba xbl xbc, .slice xva xvl xvc, .int .i64 xfr, .int .i64 xnum, .slice xla xll xlc] 32) = W0 := ⟨_, rfl⟩
  have m0 : Mine.Mod none_ w W0 := by rw [← hW0]; exact (Mine.Mod.refl none_ w).alloc _
  have k0 : Blk W0 (w.heap.size) [.slice xba xbl xbc, .slice xva xvl xvc, .int .i64 xfr, .int .i64 xnum, .slice xla xll xlc] 32 := by
    have hb := Blk.new (w := w) (cs := [.slice xba xbl xbc, .slice xva xvl xvc, .int .i64 xfr, .int .i64 xnum, .slice xla xll xlc]) (t := 32)
    rw [← hW0]
    exact hb.mod (Mine.Mod.refl none_ _) (fun e => e)
  have hs0 : W0.heap.size = w.heap.size + 1 := by rw [← hW0]; simp only [World.size_alloc]
  have a0 := k0.cell 0
  have a1 := k0.cell 1
  have a2 := k0.cell 2
  have a3 := k0.cell 3
  have a4 := k0.cell 4
  simp only [List.getElem?_cons_zero, List.getElem?_cons_succ] at a0 a1 a2 a3 a4
  have M0 := Lib.hid m0
  have K0 := Lib.hid k0
  have HW := Lib.hid hW0
  have HM := Lib.hid (HMAY.out W0 m0)
  clear m0 k0 hs0 hW0 HMAY
  go_enter Tryz.func13, Tryz.ntmps13
  go_upto_region 1 with fail
  rw [HW.out]
  go_wp2_with fail
  refine HM.out.mono ?_
  rintro e w1 ⟨rfl, m1⟩
  have M1 := Lib.hid (M0.out.trans m1)
  have k1 := K0.out.mod m1 (fun e => e)
  clear m1 a0 a1 a2 a3 a4 HM
  cases R
  · clear k1
    go_wp2_with fail
    go_ret2
    exact ⟨fun _ => rfl, (fun e => by cases e), M1.out⟩
  have a0 := k1.cell 0
  have a1 := k1.cell 1
  have a2 := k1.cell 2
  have a3 := k1.cell 3
  have a4 := k1.cell 4
  simp only [List.getElem?_cons_zero, List.getElem?_cons_succ] at a0 a1 a2 a3 a4
  clear k1
  go_wp2_with fail
  refine (HALL.out w1).mono ?_
  rintro e w2 ⟨rfl, hw2⟩
  have m2 : Mine.Mod none_ w1 w2 := by rw [hw2]; exact (Mine.Mod.refl none_ w1).alloc _
  have HC := Lib.hid (HCOL.out (by first | rfl | trivial) w2 w1.heap.size (M1.out.trans m2) (by rw [hw2]; exact Blk.new) M1.out.size)
  clear hw2 m2 a0 a1 a2 a3 a4
  go_wp2_with fail
  refine HC.out.mono ?_
  rintro e w3 ⟨⟨va, n, vc, rfl, ho⟩, m3⟩
  have HO := Lib.hid ho
  clear ho HC HCOL
  go_wp2_with fail
  go_ret2
  exact ⟨(fun e => by cases e), fun _ => ⟨va, n, vc, rfl, HO.out⟩, m3⟩

/-- What At answers. -/
noncomputable def atV (h : HistV) (B : List CellV) (V : List Int) (E : List EntV) (m : Int) : Value :=
  if histOk h B V E = true then (if m < h.from_ ∨ h.num < m then .tuple #[.string noB, .int .i64 3] else .tuple #[.string (textB (repL B (E.take (kAt m E)))), .int .i64 0]) else .tuple #[.string noB, .int .i64 1]

set_option maxHeartbeats 8000000 in
set_option maxRecDepth 1000000 in
theorem hat_any (w : World) (h : HistV) (m : Int) (B : List CellV) (V : List Int) (E : List EntV) (hh : HistIs w h B V E) (hl : h.bl ≤ 1000) (htab : tabsOk w) (hT : ∀ x ∈ E, x.o.text.size ≤ 1099511627776) (hmb : -9223372036854775808 ≤ m ∧ m ≤ 9223372036854775807) :
    Calls Tryz.prog 9 #[h.v, .int .i64 m] w fun e w' => e = .returned (atV h B V E m) ∧ Mine.Mod none_ w w' := by
  have hEn := hh.e.n
  have hEl := hh.e.le
  have hcap := hh.e.big
  unfold maxLen at hcap
  have hkb := kAt_le m E
  have HMAY := Lib.hid (show ∀ W, Mine.Mod none_ w W → Calls Tryz.prog 23 #[h.v] W fun e w' => e = .returned (.bool (histOk h B V E)) ∧ Mine.Mod none_ W w' from fun W m => hmay_any W h B V E (hh.grown m) (by omega))
  have HREP := Lib.hid (fun (hok : histOk h B V E = true) (W : World) (mW : Mine.Mod none_ w W) => show Calls Tryz.prog 24 #[h.v, .int .i64 (kAt m E : Int)] W fun e w' => ∃ D, e = .returned (.tuple #[.pointer (some ⟨D, 0, none⟩), .int .i64 0]) ∧ Mine.Mod none_ W w' ∧ ∃ Ex, DocF W Ex w' D (repL B (E.take (kAt m E))) from by
    have hns := (histOk_nums hok).2.2.2
    refine (replay_any W h (kAt m E : Int) B V E (hh.grown mW) hl hT (by omega)).mono ?_
    rintro e w' ⟨-, -, h3⟩
    obtain ⟨D, Ex, rfl, hf⟩ := h3 hok (by omega) (by omega)
    rw [Int.toNat_natCast] at hf
    exact ⟨D, rfl, hf.m, Ex, hf⟩)
  have HCUT := Lib.hid (fun (hok : histOk h B V E = true) (i : Nat) (x : EntV) (hx : E[i]? = some x) => show ((x.o.num ≠ 0 ∧ x.o.num ≤ m) ↔ i < kAt m E) from by
    obtain ⟨last, p, num, ho⟩ := (histOk_rep hok hh.b.n).2.ord
    exact order_cut m E ho i x hx)
  have HLL := Lib.hid (fun (hok : histOk h B V E = true) => (histOk_nums hok).2.2.2)
  have HAV := Lib.hid (show atV h B V E m = if histOk h B V E = true then (if m < h.from_ ∨ h.num < m then .tuple #[.string noB, .int .i64 3] else .tuple #[.string (textB (repL B (E.take (kAt m E)))), .int .i64 0]) else .tuple #[.string noB, .int .i64 1] from rfl)
  obtain ⟨AV, hAV⟩ : ∃ AV, AV = atV h B V E m := ⟨_, rfl⟩
  rw [← hAV] at HAV ⊢
  obtain ⟨R, hR⟩ : ∃ R, R = histOk h B V E := ⟨_, rfl⟩
  rw [← hR] at HMAY HREP HCUT HLL HAV
  have HE := Lib.hid hh.e
  have HEN := Lib.hid hEn
  have HAVE := Lib.hid hAV
  clear hR hh htab hT hAV hEn
  obtain ⟨xba, xbl, xbc, xva, xvl, xvc, xfr, xnum, xla, xll, xlc⟩ := h
  dsimp only [HistV.v, HistV.cs] at HMAY HREP HAV HE HEN HLL hEl hcap hl ⊢
  obtain ⟨W0, hW0⟩ : ∃ W0, w.alloc (.cells #[.slice xba xbl xbc, .slice xva xvl xvc, .int .i64 xfr, .int .i64 xnum, .slice xla xll xlc] 32) = W0 := ⟨_, rfl⟩
  have m0 : Mine.Mod none_ w W0 := by rw [← hW0]; exact (Mine.Mod.refl none_ w).alloc _
  have k0 : Blk W0 (w.heap.size) [.slice xba xbl xbc, .slice xva xvl xvc, .int .i64 xfr, .int .i64 xnum, .slice xla xll xlc] 32 := by
    have hb := Blk.new (w := w) (cs := [.slice xba xbl xbc, .slice xva xvl xvc, .int .i64 xfr, .int .i64 xnum, .slice xla xll xlc]) (t := 32)
    rw [← hW0]
    exact hb.mod (Mine.Mod.refl none_ _) (fun e => e)
  have hs0 : W0.heap.size = w.heap.size + 1 := by rw [← hW0]; simp only [World.size_alloc]
  have a0 := k0.cell 0
  have a1 := k0.cell 1
  have a2 := k0.cell 2
  have a3 := k0.cell 3
  have a4 := k0.cell 4
  simp only [List.getElem?_cons_zero, List.getElem?_cons_succ] at a0 a1 a2 a3 a4
  have M0 := Lib.hid m0
  have K0 := Lib.hid k0
  have HW := Lib.hid hW0
  have HM := Lib.hid (HMAY.out W0 m0)
  clear m0 k0 hs0 hW0 HMAY
  go_enter Tryz.func9, Tryz.ntmps9
  go_upto_region 1 with fail
  rw [HW.out]
  go_wp2_with fail
  refine HM.out.mono ?_
  rintro e w1 ⟨rfl, m1⟩
  have M1 := Lib.hid (M0.out.trans m1)
  have K1 := Lib.hid (K0.out.mod m1 (fun e => e))
  clear m1 a0 a1 a2 a3 a4 HM
  cases R
  · have HF := Lib.hid (HAV.out.trans (if_neg (by simp)))
    go_wp2_with fail
    go_ret2
    exact ⟨by rw [HF.out]; rfl, M1.out⟩
  have HAV2 := Lib.hid (HAV.out.trans (if_pos rfl))
  have hll := HLL.out (by first | rfl | trivial)
  have a0 := K1.out.cell 0
  have a1 := K1.out.cell 1
  have a2 := K1.out.cell 2
  have a3 := K1.out.cell 3
  have a4 := K1.out.cell 4
  simp only [List.getElem?_cons_zero, List.getElem?_cons_succ] at a0 a1 a2 a3 a4
  clear HAV HLL
  by_cases h1 : m < xfr
  · have d1 : decide (m < xfr) = true := by simpa using h1
    have HF := Lib.hid (HAV2.out.trans (if_pos (.inl h1)))
    clear h1
    go_wp2_with fail
    go_ret2
    exact ⟨by rw [HF.out]; rfl, M1.out⟩
  have d1 : decide (m < xfr) = false := by simpa using h1
  by_cases h2 : xnum < m
  · have d2 : decide (xnum < m) = true := by simpa using h2
    have HF := Lib.hid (HAV2.out.trans (if_pos (.inr h2)))
    clear h1 h2
    go_wp2_with fail
    go_ret2
    exact ⟨by rw [HF.out]; rfl, M1.out⟩
  have d2 : decide (xnum < m) = false := by simpa using h2
  have HF := Lib.hid (HAV2.out.trans (if_neg (fun e => e.elim h1 h2)))
  have HRP := Lib.hid (fun W mW => HREP.out (by first | rfl | trivial) W mW)
  have HCT := Lib.hid (fun i x hx => HCUT.out (by first | rfl | trivial) i x hx)
  obtain ⟨KA, hKA⟩ : ∃ KA, KA = kAt m E := ⟨_, rfl⟩
  rw [← hKA] at HRP HF HCT hkb
  clear h1 h2 HAV2 HREP HCUT hKA
  have HKB := Lib.hid hkb
  go_wp2_with fail
  clear a0 a1 a2 a3 a4 d1 d2 hkb
  go_loopg [6] KA (fun g s6 wx => ∃ k : Nat, g = KA - k ∧ s6 = .int .i64 (k : Int) ∧ k ≤ KA ∧ Mine.Mod none_ w wx ∧ RowKit.Hid (Blk wx w.heap.size [.slice xba xbl xbc, .slice xva xvl xvc, .int .i64 xfr, .int .i64 xnum, .slice xla xll xlc] 32))
  case atStart => exact ⟨0, rfl, rfl, Nat.zero_le _, M1.out, K1⟩
  case round =>
    obtain ⟨k, rfl, rfl, hk, mx, hst⟩ := hrel
    have MX := Lib.hid mx
    have d4 : wr.cell? ⟨w.heap.size, 4, none⟩ = some (.slice xla xll xlc) := by rw [hst.out.cell]; rfl
    have hkl : k ≤ xll := by have := HKB.out; have := HEN.out; omega
    by_cases hlt : k < xll
    · obtain ⟨x, hx⟩ : ∃ x, E[k]? = some x := ⟨E[k]'(by rw [HEN.out]; exact hlt), by simp⟩
      have hcut := HCT.out k x hx
      obtain ⟨b, off, rfl, hr⟩ := (HE.out.grown mx).ents k x hx
      have c2 := hr 2 _ rfl
      have hx3 := ((HE.out.grown mx).ok x (List.mem_of_getElem? hx)).1.i3
      by_cases hn : x.o.num = 0
      · have hb : (x.o.num != 0) = false := by simp [hn]
        have hkk : k = KA := by
          have : ¬ k < KA := fun e => (hcut.2 e).1 hn
          omega
        subst hkk
        have HD := Lib.hid (HRP.out wr mx)
        have a0 : wr.cell? ⟨w.heap.size, 0, none⟩ = some (.slice xba xbl xbc) := by rw [hst.out.cell]; rfl
        have a1 : wr.cell? ⟨w.heap.size, 1, none⟩ = some (.slice xva xvl xvc) := by rw [hst.out.cell]; rfl
        have a2 : wr.cell? ⟨w.heap.size, 2, none⟩ = some (.int .i64 xfr) := by rw [hst.out.cell]; rfl
        have a3 : wr.cell? ⟨w.heap.size, 3, none⟩ = some (.int .i64 xnum) := by rw [hst.out.cell]; rfl
        clear hst mx hx hcut hr hn
        go_wp2_with fail
        refine HD.out.mono ?_
        rintro e w4 ⟨D, rfl, m4, Ex, hf⟩
        obtain ⟨v, MB, bl, hv, hcl⟩ : ∃ v MB bl, DocV w4 D v MB bl ∧ cellsOf bl = repL B (E.take k) := by
          obtain ⟨S, hds, _⟩ := hf.doc
          obtain ⟨v, MB, bl, hdv, _, hcl, _⟩ := hds.ex
          exact ⟨v, MB, bl, hdv, hcl⟩
        have HTX := Lib.hid (text_cells w4 D MB v bl hv (by rw [hcl]; exact hf.cl.ok) (by rw [hcl]; have := hf.cl.big; omega))
        have HCL := Lib.hid hcl
        have M4 := Lib.hid (MX.out.trans m4)
        clear hf hv hcl m4 HD a0 a1 a2 a3 d4
        go_wp2_with fail
        refine HTX.out.mono ?_
        rintro e w5 ⟨rfl, m5⟩
        have M5 := Lib.hid (M4.out.trans m5)
        clear m5 HTX
        go_wp2_with fail
        go_ret2
        exact ⟨by rw [HF.out, ← HCL.out]; rfl, M5.out⟩
      · have hb : (x.o.num != 0) = true := by simpa using hn
        by_cases hm : x.o.num ≤ m
        · have hd : decide (x.o.num ≤ m) = true := by simpa using hm
          have hkk : k < KA := hcut.1 ⟨hn, hm⟩
          clear mx hx hcut hr hn hm
          go_wp2_with fail
          go_roundg (KA - (k + 1))
          all_goals first
            | omega
            | exact ⟨k + 1, rfl, by go_num, by omega, MX.out, hst⟩
        · have hd : decide (x.o.num ≤ m) = false := by simpa using hm
          have hkk : k = KA := by
            have : ¬ k < KA := fun e => hm (hcut.2 e).2
            omega
          subst hkk
          have HD := Lib.hid (HRP.out wr mx)
          have a0 : wr.cell? ⟨w.heap.size, 0, none⟩ = some (.slice xba xbl xbc) := by rw [hst.out.cell]; rfl
          have a1 : wr.cell? ⟨w.heap.size, 1, none⟩ = some (.slice xva xvl xvc) := by rw [hst.out.cell]; rfl
          have a2 : wr.cell? ⟨w.heap.size, 2, none⟩ = some (.int .i64 xfr) := by rw [hst.out.cell]; rfl
          have a3 : wr.cell? ⟨w.heap.size, 3, none⟩ = some (.int .i64 xnum) := by rw [hst.out.cell]; rfl
          clear hst mx hx hcut hr hn hm
          go_wp2_with fail
          refine HD.out.mono ?_
          rintro e w4 ⟨D, rfl, m4, Ex, hf⟩
          obtain ⟨v, MB, bl, hv, hcl⟩ : ∃ v MB bl, DocV w4 D v MB bl ∧ cellsOf bl = repL B (E.take k) := by
            obtain ⟨S, hds, _⟩ := hf.doc
            obtain ⟨v, MB, bl, hdv, _, hcl, _⟩ := hds.ex
            exact ⟨v, MB, bl, hdv, hcl⟩
          have HTX := Lib.hid (text_cells w4 D MB v bl hv (by rw [hcl]; exact hf.cl.ok) (by rw [hcl]; have := hf.cl.big; omega))
          have HCL := Lib.hid hcl
          have M4 := Lib.hid (MX.out.trans m4)
          clear hf hv hcl m4 HD a0 a1 a2 a3 d4
          go_wp2_with fail
          refine HTX.out.mono ?_
          rintro e w5 ⟨rfl, m5⟩
          have M5 := Lib.hid (M4.out.trans m5)
          clear m5 HTX
          go_wp2_with fail
          go_ret2
          exact ⟨by rw [HF.out, ← HCL.out]; rfl, M5.out⟩
    · have hkk : k = KA := by have := HKB.out; have := HEN.out; omega
      subst hkk
      have HD := Lib.hid (HRP.out wr mx)
      have a0 : wr.cell? ⟨w.heap.size, 0, none⟩ = some (.slice xba xbl xbc) := by rw [hst.out.cell]; rfl
      have a1 : wr.cell? ⟨w.heap.size, 1, none⟩ = some (.slice xva xvl xvc) := by rw [hst.out.cell]; rfl
      have a2 : wr.cell? ⟨w.heap.size, 2, none⟩ = some (.int .i64 xfr) := by rw [hst.out.cell]; rfl
      have a3 : wr.cell? ⟨w.heap.size, 3, none⟩ = some (.int .i64 xnum) := by rw [hst.out.cell]; rfl
      clear hst mx
      go_wp2_with fail
      refine HD.out.mono ?_
      rintro e w4 ⟨D, rfl, m4, Ex, hf⟩
      obtain ⟨v, MB, bl, hv, hcl⟩ : ∃ v MB bl, DocV w4 D v MB bl ∧ cellsOf bl = repL B (E.take k) := by
        obtain ⟨S, hds, _⟩ := hf.doc
        obtain ⟨v, MB, bl, hdv, _, hcl, _⟩ := hds.ex
        exact ⟨v, MB, bl, hdv, hcl⟩
      have HTX := Lib.hid (text_cells w4 D MB v bl hv (by rw [hcl]; exact hf.cl.ok) (by rw [hcl]; have := hf.cl.big; omega))
      have HCL := Lib.hid hcl
      have M4 := Lib.hid (MX.out.trans m4)
      clear hf hv hcl m4 HD a0 a1 a2 a3 d4
      go_wp2_with fail
      refine HTX.out.mono ?_
      rintro e w5 ⟨rfl, m5⟩
      have M5 := Lib.hid (M4.out.trans m5)
      clear m5 HTX
      go_wp2_with fail
      go_ret2
      exact ⟨by rw [HF.out, ← HCL.out]; rfl, M5.out⟩
end Go.Proofs.YtjgjjlolhdlofaaGreatDoor

namespace Go.Proofs.YtjgjjlolhdlofaaGreatDoor
open Go.RowKit Go.Shelf Go.Mine

def B31 : List CellV := [⟨9, 1, 0, 97, false⟩, ⟨9, 1, 1, 98, false⟩, ⟨9, 1, 2, 99, false⟩]
def V31 : List Int := [0, 0, 0, 0, 0, 0, 0, 0, 1]
def sp31 : List (Int × Int) := [(0, 1), (2, 1)]
def e31 (sa : Option Addr) : EntV := ⟨⟨1, 1, 1, 2, 0, noB, sa, 2, 2⟩, sp31, ⟨1, 1, 0, 2, 0, 1, noB⟩⟩
theorem B31_new : newE B31 = 0 := by
  unfold newE
  rw [if_pos (by decide), if_pos (by simp [B31, CellV.id]), if_pos (by decide)]
theorem V31_ok : vecOk V31 = true := by decide
theorem base31 : baseOk B31 V31 = true := by
  unfold baseOk
  rw [B31_new, V31_ok]
  decide
theorem may31 (sa : Option Addr) : opMay (e31 sa).o sp31 3 = true := by
  unfold opMay
  rw [if_neg (show ¬ (e31 sa).o.kind = 1 by show ¬ (2 : Int) = 1; decide), if_pos (show (e31 sa).o.kind = 2 from rfl)]
  have hs : spansOk sp31 = true := by decide
  have hl : lastLe sp31 3 = true := by decide
  have hd : delOk (e31 sa).o 3 sp31 = true := by
    simp [delOk, e31, noB, hs, hl]
  rw [hd]
  rfl
theorem hist31 (h : HistV) (sa : Option Addr) (h1 : h.from_ = 0) (h2 : h.num = 1) (h3 : h.bl = 3) (h4 : h.ll = 1) : histOk h B31 V31 [e31 sa] = true := by
  unfold histOk entsOk numsOk
  rw [base31, h1, h2, h3, h4]
  have hr : (listRun (opsOf [e31 sa]) ((3 : Nat) : Int)).isSome = true := by
    have h2 : runOps (opsOf [e31 sa]) ((3 : Nat) : Int) = some (3 + addsOf (e31 sa).o) := by
      have := may31 sa
      simp only [opsOf, List.map_cons, List.map_nil, runOps]
      rw [if_pos (by exact this)]
      rfl
    unfold listRun
    rw [h2, if_pos ⟨by simp, by simp [inB]⟩]
    rfl
  have ho : orderL 0 0 V31 1 [e31 sa] = true := by
    rw [orderL_cons]
    have e1 : (e31 sa).o.site = 1 := rfl
    have e2 : (e31 sa).o.seq = 1 := rfl
    have e3 : (e31 sa).o.num = 1 := rfl
    rw [e1, e2, e3, if_pos (by decide), if_neg (by decide), if_pos (by decide)]
    rfl
  have he : List.all [e31 sa] entOk = true := by
    simp [entOk, editOk, editKind, e31, noB, inB, nameOk]
  rw [he, hr, ho]
  decide
theorem steps31 (sa : Option Addr) : pastL B31 [e31 sa] 1 = [⟨1, 1, 1, 2, noB, ⟨#[99]⟩⟩, ⟨1, 1, 1, 0, noB, ⟨#[97]⟩⟩] := by
  unfold pastL pastL
  simp only [List.getElem?_cons_zero, List.nil_append]
  rw [List.take_zero]
  unfold repL stepsL
  rw [if_neg (by show ¬ (2 : Int) = 1; decide)]
  have hj : jL B31 sp31 = [(0, 1), (2, 3)] := by decide
  have hs : (e31 sa).sp = sp31 := rfl
  rw [hs, hj]
  rfl
theorem text31 (sa : Option Addr) : textB (repL B31 ([e31 sa].take (kAt 1 [e31 sa]))) = ⟨#[98]⟩ := by
  have hk : kAt 1 [e31 sa] = 1 := by
    unfold kAt
    rw [if_pos (by show (1 : Int) ≠ 0 ∧ (1 : Int) ≤ 1; decide)]
    rfl
  rw [hk]
  show textB (runL9 (e31 sa).o (e31 sa).sp B31) = _
  unfold runL9
  rfl
end Go.Proofs.YtjgjjlolhdlofaaGreatDoor

namespace Go.Proofs.YtjgjjlolhdlofaaGreatDoor
open Go.RowKit Go.Shelf Go.Mine
attribute [local go_sem ↓] app_fold

theorem cell31 (k : Nat) (h : k < 3) : B31.take (k + 1) = B31.take k ++ [⟨9, 1, (k : Int), 97 + (k : Int), false⟩] := by
  match k, h with
  | 0, _ => rfl
  | 1, _ => rfl
  | 2, _ => rfl
theorem B31_ok : ∀ c ∈ B31, c.ok := by
  intro c hc
  simp only [B31, List.mem_cons, List.not_mem_nil, or_false] at hc
  rcases hc with rfl | rfl | rfl <;> exact ⟨by decide, by decide, by decide, by decide⟩
theorem noB_size : noB.size = 0 := rfl
theorem e31_ok {w : World} {sa : Option Addr} (h : IsSpans w sa 2 2 sp31) : (e31 sa).o.ok w (e31 sa).sp ∧ (e31 sa).ed.ok w :=
  ⟨⟨by simp [e31], by simp [e31], by simp [e31], by simp [e31], by simp [e31], .inr (fun i hi => absurd (show i < 0 from hi) (Nat.not_lt_zero i)), by show noB.size < _; rw [noB_size]; decide, h⟩,
   ⟨.inr (fun i hi => absurd (show i < 0 from hi) (Nat.not_lt_zero i)), by show noB.size < _; rw [noB_size]; decide⟩⟩
theorem e31_txt (sa : Option Addr) : ∀ x ∈ [e31 sa], x.o.text.size ≤ 1099511627776 := by
  intro x hx
  rw [List.mem_singleton] at hx
  subst hx
  show noB.size ≤ _
  rw [noB_size]; decide
theorem e31_sp (sa : Option Addr) : ∀ x ∈ [e31 sa], x.sp.length ≤ 1000 := by
  intro x hx
  rw [List.mem_singleton] at hx
  subst hx
  show sp31.length ≤ _
  decide
set_option maxHeartbeats 16000000 in
set_option maxRecDepth 1000000 in
theorem alive31_any (w : World) (htab : tabsOk w) : Calls Tryz.prog 7 #[] w fun e w' => e = .returned (.bool true) ∧ Mine.Mod none_ w w' := by
  have HTAB := Lib.hid htab
  clear htab
  obtain ⟨W0, hW0⟩ : ∃ W0, (w.alloc (.cells #[.int .i64 0, .int .i64 0, .int .i64 0, .int .i64 0, .int .i64 0, .int .i64 0, .int .i64 0, .int .i64 0, .int .i64 1] 3)).alloc (.cells #[.slice none 0 0, .slice (some ⟨w.heap.size, 0, none⟩) 9 9, .int .i64 0, .int .i64 1, .slice none 0 0] 26) = W0 := ⟨_, rfl⟩
  have m0 : Mine.Mod none_ w W0 := by rw [← hW0]; exact ((Mine.Mod.refl none_ w).alloc _).alloc _
  have k0 : Blk W0 (w.heap.size) [.int .i64 0, .int .i64 0, .int .i64 0, .int .i64 0, .int .i64 0, .int .i64 0, .int .i64 0, .int .i64 0, .int .i64 1] 3 := by
    have hb := Blk.new (w := w) (cs := [.int .i64 0, .int .i64 0, .int .i64 0, .int .i64 0, .int .i64 0, .int .i64 0, .int .i64 0, .int .i64 0, .int .i64 1]) (t := 3)
    rw [← hW0]
    exact hb.mod ((Mine.Mod.refl none_ _).alloc _) (fun e => e)
  have k1 : Blk W0 (w.heap.size + 1) [.slice none 0 0, .slice (some ⟨w.heap.size, 0, none⟩) 9 9, .int .i64 0, .int .i64 1, .slice none 0 0] 26 := by
    have hb := Blk.new (w := (w.alloc (.cells #[.int .i64 0, .int .i64 0, .int .i64 0, .int .i64 0, .int .i64 0, .int .i64 0, .int .i64 0, .int .i64 0, .int .i64 1] 3))) (cs := [.slice none 0 0, .slice (some ⟨w.heap.size, 0, none⟩) 9 9, .int .i64 0, .int .i64 1, .slice none 0 0]) (t := 26)
    simp only [World.size_alloc] at hb
    rw [← hW0]
    exact hb.mod (Mine.Mod.refl none_ _) (fun e => e)
  have hs0 : W0.heap.size = w.heap.size + 1 + 1 := by rw [← hW0]; simp only [World.size_alloc]
  have HW := Lib.hid hW0
  have M0 := Lib.hid m0
  have K0 := Lib.hid k0
  have K1 := Lib.hid k1
  have hs0' := hs0
  clear m0 k0 k1 hW0 hs0
  go_enter Tryz.func7, Tryz.ntmps7
  go_wp2_with fail
  rw [HW.out]
  have hKs : w.heap.size + 2 ≤ W0.heap.size := by omega
  clear hs0'
  go_loopg [2] 3 (fun g s2 wx => ∃ (k vc : Nat) (va : Option Addr), g = 3 - k ∧ s2 = .int .i64 (k : Int) ∧ k ≤ 3 ∧ Mine.Mod none_ w wx ∧ RowKit.Hid (Blk wx (w.heap.size + 1) [.slice va k vc, .slice (some ⟨w.heap.size, 0, none⟩) 9 9, .int .i64 0, .int .i64 1, .slice none 0 0] 26 ∧ wx.ownsRow (w.heap.size + 2) 53 5 (.slice va k vc) k (flat CellV.cs (B31.take k)) ∧ Blk wx w.heap.size [.int .i64 0, .int .i64 0, .int .i64 0, .int .i64 0, .int .i64 0, .int .i64 0, .int .i64 0, .int .i64 0, .int .i64 1] 3))
  case atStart => exact ⟨0, 0, none, rfl, rfl, Nat.zero_le _, M0.out, Lib.hid ⟨K1.out, ⟨rfl, .inl ⟨rfl, rfl⟩⟩, K0.out⟩⟩
  case round =>
    obtain ⟨k, vc, va, rfl, rfl, hk, mx, hst⟩ := hrel
    have MX := Lib.hid mx
    obtain ⟨kh, ho, ki⟩ := hst.out
    have hl1 := kh.lt
    by_cases hlt : k < 3
    · have a0 : wr.cell? ⟨w.heap.size + 1, 0, none⟩ = some (.slice va k vc) := kh.cell 0
      have hwr : IntKind.i32.wrap (97 + (k : Int)) = 97 + (k : Int) := by
        rcases (show k = 0 ∨ k = 1 ∨ k = 2 by omega) with rfl | rfl | rfl <;> decide
      have mA := (Mine.Mod.refl none_ wr).alloc (.cells #[.int .i64 9, .int .i64 1, .int .i64 (k : Int), .int .i32 (97 + (k : Int)), .bool false] 53)
      obtain ⟨va', vc', w4, hrun, hown, mg⟩ := app_gen (P := Tryz.prog) (W := wr.alloc (.cells #[.int .i64 9, .int .i64 1, .int .i64 (k : Int), .int .i32 (97 + (k : Int)), .bool false] 53)) (t := 22) (e := 53) Tryz.underlying22 infoCell rfl (by decide)
        (cs := [.int .i64 9, .int .i64 1, .int .i64 (k : Int), .int .i32 (97 + (k : Int)), .bool false]) rfl (CellV.ones ⟨9, 1, (k : Int), 97 + (k : Int), false⟩) (ownsRow_mod ho mA (fun _ _ e => e)) Blk.new (by omega) (by decide) (by rw [World.size_alloc]; omega)
      have hgz : ∀ j, (Value.slice va k vc).ownBlock = some j → w.heap.size + 2 ≤ j := fun j hj => (own_ge ho j hj).1
      have mx2 : Mine.Mod (fun j => (Value.slice va k vc).ownBlock = some j) wr w4 := (mA.mono (fun _ _ e => e.elim)).trans mg
      have kh4 := kh.mod mx2 (fun e => by have := hgz _ e; omega)
      have ki4 := ki.mod mx2 (fun e => by have := hgz _ e; omega)
      have b0 : w4.cell? ⟨w.heap.size + 1, 0, none⟩ = some (.slice va k vc) := kh4.cell 0
      have f0 := kh4.frozen 0
      have M7 := (Mine.Mod.refl (one (w.heap.size + 1)) w4).setCell ⟨w.heap.size + 1, 0, none⟩ (fun _ => rfl) (.slice va' (k + 1) vc')
      have FIN := Lib.hid (show Blk (w4.setCell ⟨w.heap.size + 1, 0, none⟩ (.slice va' (k + 1) vc')) (w.heap.size + 1) [.slice va' (k + 1) vc', .slice (some ⟨w.heap.size, 0, none⟩) 9 9, .int .i64 0, .int .i64 1, .slice none 0 0] 26 ∧ (w4.setCell ⟨w.heap.size + 1, 0, none⟩ (.slice va' (k + 1) vc')).ownsRow (w.heap.size + 2) 53 5 (.slice va' (k + 1) vc') (k + 1) (flat CellV.cs (B31.take (k + 1))) ∧ Blk (w4.setCell ⟨w.heap.size + 1, 0, none⟩ (.slice va' (k + 1) vc')) w.heap.size [.int .i64 0, .int .i64 0, .int .i64 0, .int .i64 0, .int .i64 0, .int .i64 0, .int .i64 0, .int .i64 0, .int .i64 1] 3 from by
        refine ⟨kh4.set 0 _, ?_, ki4.mod M7 (fun e => by have e' : w.heap.size = w.heap.size + 1 := e; omega)⟩
        rw [cell31 k hlt, flat_append]
        refine ownsRow_mod ?_ M7 (fun j hj e => by have := (own_ge hown j hj).1; have e' : j = w.heap.size + 1 := e; omega)
        simpa using hown)
      have MF := Lib.hid (show Mine.Mod none_ w (w4.setCell ⟨w.heap.size + 1, 0, none⟩ (.slice va' (k + 1) vc')) from (mx.transIn mx2 (fun b hb e => by have := hgz b e; omega)).transIn M7 (fun b hb e => by have e' : b = w.heap.size + 1 := e; omega))
      have hrun2 : (appSem #[22, 22] 22 #[.slice va k vc, .slice (some ⟨wr.heap.size, 0, none⟩) 1 1]).run Tryz.prog (wr.alloc (.cells #[.int .i64 9, .int .i64 1, .int .i64 (k : Int), .int .i32 (97 + (k : Int)), .bool false] 53)) = .ok (.slice va' (k + 1) vc') w4 := hrun
      clear hst mx kh ho ki mA hrun hown mg hgz mx2 kh4 ki4 M7
      go_wp2_with fail
      go_roundg (3 - (k + 1))
      all_goals first
        | omega
        | exact ⟨k + 1, vc', va', rfl, by go_num, by omega, MF.out, FIN⟩
    · obtain rfl : k = 3 := by omega
      rw [List.take_of_length_le (by decide)] at ho
      obtain ⟨W3, hW3⟩ : ∃ W3, ((wr.alloc (.cells #[.int .i64 1, .int .i64 1] 42)).alloc (.cells #[.int .i64 0, .int .i64 1, .int .i64 2, .int .i64 1] 55)).alloc (.cells #[.int .i64 1, .int .i64 1, .int .i64 1, .int .i64 2, .int .i64 0, .string ⟨#[]⟩, .slice (some ⟨wr.heap.size + 1, 0, none⟩) 2 2, .int .i64 1, .int .i64 1, .int .i64 0, .int .i64 2, .int .i64 0, .int .i64 1, .string ⟨#[]⟩] 62) = W3 := ⟨_, rfl⟩
      have m0 : Mine.Mod none_ wr W3 := by rw [← hW3]; exact (((Mine.Mod.refl none_ wr).alloc _).alloc _).alloc _
      have k0 : Blk W3 (wr.heap.size) [.int .i64 1, .int .i64 1] 42 := by
        have hb := Blk.new (w := wr) (cs := [.int .i64 1, .int .i64 1]) (t := 42)
        rw [← hW3]
        exact hb.mod (((Mine.Mod.refl none_ _).alloc _).alloc _) (fun e => e)
      have k1 : Blk W3 (wr.heap.size + 1) [.int .i64 0, .int .i64 1, .int .i64 2, .int .i64 1] 55 := by
        have hb := Blk.new (w := (wr.alloc (.cells #[.int .i64 1, .int .i64 1] 42))) (cs := [.int .i64 0, .int .i64 1, .int .i64 2, .int .i64 1]) (t := 55)
        simp only [World.size_alloc] at hb
        rw [← hW3]
        exact hb.mod ((Mine.Mod.refl none_ _).alloc _) (fun e => e)
      have k2 : Blk W3 (wr.heap.size + 1 + 1) [.int .i64 1, .int .i64 1, .int .i64 1, .int .i64 2, .int .i64 0, .string ⟨#[]⟩, .slice (some ⟨wr.heap.size + 1, 0, none⟩) 2 2, .int .i64 1, .int .i64 1, .int .i64 0, .int .i64 2, .int .i64 0, .int .i64 1, .string ⟨#[]⟩] 62 := by
        have hb := Blk.new (w := ((wr.alloc (.cells #[.int .i64 1, .int .i64 1] 42)).alloc (.cells #[.int .i64 0, .int .i64 1, .int .i64 2, .int .i64 1] 55))) (cs := [.int .i64 1, .int .i64 1, .int .i64 1, .int .i64 2, .int .i64 0, .string ⟨#[]⟩, .slice (some ⟨wr.heap.size + 1, 0, none⟩) 2 2, .int .i64 1, .int .i64 1, .int .i64 0, .int .i64 2, .int .i64 0, .int .i64 1, .string ⟨#[]⟩]) (t := 62)
        simp only [World.size_alloc] at hb
        rw [← hW3]
        exact hb.mod (Mine.Mod.refl none_ _) (fun e => e)
      have hs0 : W3.heap.size = wr.heap.size + 1 + 1 + 1 := by rw [← hW3]; simp only [World.size_alloc]
      have kh3 := kh.mod m0 (fun e => e)
      have ki3 := ki.mod m0 (fun e => e)
      have ho3 := ownsRow_mod ho m0 (fun _ _ e => e)
      have a4 : W3.cell? ⟨w.heap.size + 1, 4, none⟩ = some (.slice none 0 0) := kh3.cell 4
      have f4 := kh3.frozen 4
      have M4 := (Mine.Mod.refl (one (w.heap.size + 1)) W3).setCell ⟨w.heap.size + 1, 4, none⟩ (fun _ => rfl) (.slice (some ⟨wr.heap.size + 1 + 1, 0, none⟩) 1 1)
      have no : ∀ j, j ≠ w.heap.size + 1 → ¬ one (w.heap.size + 1) j := fun j hj e => hj e
      have kh4 := kh3.set 4 (.slice (some ⟨wr.heap.size + 1 + 1, 0, none⟩) 1 1)
      have ki4 := ki3.mod M4 (no _ (by omega))
      have ho4 := ownsRow_mod ho3 M4 (fun j hj e => by have := (own_ge ho3 j hj).1; have e' : j = w.heap.size + 1 := e; omega)
      have k04 := k0.mod M4 (no _ (by omega))
      have k14 := k1.mod M4 (no _ (by omega))
      have k24 := k2.mod M4 (no _ (by omega))
      have m4 : Mine.Mod none_ w (W3.setCell ⟨w.heap.size + 1, 4, none⟩ (.slice (some ⟨wr.heap.size + 1 + 1, 0, none⟩) 1 1)) := (mx.trans m0).transIn M4 (fun b hb e => by have e' : b = w.heap.size + 1 := e; omega)
      obtain ⟨W4, hW4⟩ : ∃ W4, W3.setCell ⟨w.heap.size + 1, 4, none⟩ (.slice (some ⟨wr.heap.size + 1 + 1, 0, none⟩) 1 1) = W4 := ⟨_, rfl⟩
      rw [hW4] at kh4 ki4 ho4 k04 k14 k24 m4
      have HIS : HistIs W4 ⟨va, 3, vc, some ⟨w.heap.size, 0, none⟩, 9, 9, 0, 1, some ⟨wr.heap.size + 1 + 1, 0, none⟩, 1, 1⟩ B31 V31 [e31 (some ⟨wr.heap.size + 1, 0, none⟩)] := by
        have hsp : IsSpans W4 (some ⟨wr.heap.size + 1, 0, none⟩) 2 2 sp31 := by
          refine ⟨rfl, Nat.le_refl _, by decide, by decide, fun i x hx => ⟨_, 0, rfl, ?_⟩⟩
          match i, hx with
          | 0, hx => cases hx; exact ⟨k14.cell 0, k14.cell 1⟩
          | 1, hx => cases hx; exact ⟨k14.cell 2, k14.cell 3⟩
        refine ⟨own_cells ho4 B31_ok, ?_, ?_, (show (-9223372036854775808 : Int) ≤ 0 ∧ (0 : Int) ≤ 9223372036854775807 by decide), (show (-9223372036854775808 : Int) ≤ 1 ∧ (1 : Int) ≤ 9223372036854775807 by decide)⟩
        · refine ⟨rfl, Nat.le_refl _, (show 9 ≤ maxLen by decide), by decide, fun i x hx => ⟨_, 0, rfl, ?_⟩⟩
          have h9 : i < 9 := (List.getElem?_eq_some_iff.1 hx).1
          rw [Nat.zero_add, ki4.cell]
          match i, h9, hx with
          | 0, _, hx => cases hx; rfl
          | 1, _, hx => cases hx; rfl
          | 2, _, hx => cases hx; rfl
          | 3, _, hx => cases hx; rfl
          | 4, _, hx => cases hx; rfl
          | 5, _, hx => cases hx; rfl
          | 6, _, hx => cases hx; rfl
          | 7, _, hx => cases hx; rfl
          | 8, _, hx => cases hx; rfl
        · refine ⟨rfl, Nat.le_refl _, (show 1 ≤ maxLen by decide), fun x hx => ?_, fun i x hx => ⟨_, 0, rfl, ?_⟩⟩
          · obtain rfl : x = e31 (some ⟨wr.heap.size + 1, 0, none⟩) := by simpa using hx
            exact e31_ok hsp
          · match i, hx with
            | 0, hx =>
              cases hx
              rw [Nat.zero_mul, Nat.add_zero]
              exact blk_range k24
      have HIH := Lib.hid HIS
      have HHO := Lib.hid (hist31 ⟨va, 3, vc, some ⟨w.heap.size, 0, none⟩, 9, 9, 0, 1, some ⟨wr.heap.size + 1 + 1, 0, none⟩, 1, 1⟩ (some ⟨wr.heap.size + 1, 0, none⟩) rfl rfl rfl rfl)
      have HM4 := Lib.hid m4
      have HH4 := Lib.hid kh4
      have HN4 := Lib.hid k04
      clear HIS hst mx kh ho ki m0 k0 k1 k2 kh3 ki3 ho3 M4 kh4 ki4 ho4 k04 k14 k24 m4 hs0
      go_upto_region 8 with fail
      clear hW3 hW4 a4 f4
      have a0 := HH4.out.cell 0
      have a1 := HH4.out.cell 1
      have a2 := HH4.out.cell 2
      have a3 := HH4.out.cell 3
      have a4 := HH4.out.cell 4
      simp only [List.set_cons_zero, List.set_cons_succ, List.getElem?_cons_zero, List.getElem?_cons_succ] at a0 a1 a2 a3 a4
      have HOF := Lib.hid (fun (W : World) => show Calls Tryz.prog 10 #[.agg #[.slice va 3 vc, .slice (some ⟨w.heap.size, 0, none⟩) 9 9, .int .i64 0, .int .i64 1, .slice (some ⟨wr.heap.size + 1 + 1, 0, none⟩) 1 1]] W fun e w' => e = .returned (.agg #[.slice va 3 vc, .slice (some ⟨w.heap.size, 0, none⟩) 9 9, .int .i64 0, .int .i64 1, .slice (some ⟨wr.heap.size + 1 + 1, 0, none⟩) 1 1]) ∧ Mine.Mod none_ W w' from of_hist W ⟨va, 3, vc, some ⟨w.heap.size, 0, none⟩, 9, 9, 0, 1, some ⟨wr.heap.size + 1 + 1, 0, none⟩, 1, 1⟩)
      go_wp2_with fail
      refine (HOF.out W4).mono ?_
      rintro e w5 ⟨rfl, m5⟩
      have M5 := Lib.hid (HM4.out.trans m5)
      have hST := hsteps_any w5 ⟨va, 3, vc, some ⟨w.heap.size, 0, none⟩, 9, 9, 0, 1, some ⟨wr.heap.size + 1 + 1, 0, none⟩, 1, 1⟩ B31 V31 [e31 (some ⟨wr.heap.size + 1, 0, none⟩)] (HIH.out.grown m5) (show 3 ≤ 1000 by decide) (HTAB.out.mod M5.out (fun _ _ _ e => e)) (e31_txt _) (e31_sp _)
      rw [HHO.out] at hST
      have HST := Lib.hid hST
      have H5 := Lib.hid m5
      clear hST m5 a0 a1 a2 a3 a4
      go_wp2_with fail
      refine HST.out.mono ?_
      rintro e w6 ⟨-, hs, m6⟩
      obtain ⟨sa, sn, sc, rfl, hso⟩ := hs rfl
      rw [show [e31 (some ⟨wr.heap.size + 1, 0, none⟩)].length = 1 from rfl, steps31] at hso
      have hsn : sn = 2 := by have := hso.1; simp [flat, StepV.cs] at this; omega
      subst hsn
      have M6 := Lib.hid (M5.out.trans m6)
      have H6 := Lib.hid (H5.out.trans m6)
      have kh6 := HH4.out.mod H6.out (fun e => e)
      have a0 := kh6.cell 0
      have a1 := kh6.cell 1
      have a2 := kh6.cell 2
      have a3 := kh6.cell 3
      have a4 := kh6.cell 4
      simp only [List.set_cons_zero, List.set_cons_succ, List.getElem?_cons_zero, List.getElem?_cons_succ] at a0 a1 a2 a3 a4
      have HSO := Lib.hid hso
      clear hs hso m6 HST kh6
      go_wp2_with fail
      refine (HOF.out w6).mono ?_
      rintro e w7 ⟨rfl, m7⟩
      have M7 := Lib.hid (M6.out.trans m7)
      have H7 := Lib.hid (H6.out.trans m7)
      have hAT := hat_any w7 ⟨va, 3, vc, some ⟨w.heap.size, 0, none⟩, 9, 9, 0, 1, some ⟨wr.heap.size + 1 + 1, 0, none⟩, 1, 1⟩ 1 B31 V31 [e31 (some ⟨wr.heap.size + 1, 0, none⟩)] (HIH.out.grown H7.out) (show 3 ≤ 1000 by decide) (HTAB.out.mod M7.out (fun _ _ _ e => e)) (e31_txt _) (by decide)
      rw [show atV ⟨va, 3, vc, some ⟨w.heap.size, 0, none⟩, 9, 9, 0, 1, some ⟨wr.heap.size + 1 + 1, 0, none⟩, 1, 1⟩ B31 V31 [e31 (some ⟨wr.heap.size + 1, 0, none⟩)] 1 = .tuple #[.string ⟨#[98]⟩, .int .i64 0] from by
        unfold atV
        rw [if_pos HHO.out, if_neg (by show ¬ ((1 : Int) < 0 ∨ (1 : Int) < 1); decide), text31]] at hAT
      have HAT := Lib.hid hAT
      have HS7 := Lib.hid (ownsRow_mod HSO.out m7 (fun _ _ e => e))
      clear hAT m7 a0 a1 a2 a3 a4
      go_wp2_with fail
      refine HAT.out.mono ?_
      rintro e w8 ⟨rfl, m8⟩
      have M8 := Lib.hid (M7.out.trans m8)
      have H8 := Lib.hid (H7.out.trans m8)
      have hs8 := ownsRow_mod HS7.out m8 (fun _ _ e => e)
      have kn8 := HN4.out.mod H8.out (fun e => e)
      rcases ownsRow_blk hs8 with ⟨h, h0, _⟩ | ⟨g2, cap2, more, hsl, hgb, kg, hnc, hcm, hll2⟩
      · omega
      obtain ⟨rfl, rfl⟩ : sa = some ⟨g2, 0, none⟩ ∧ sc = cap2 := by simpa using hsl
      have s0 : w8.cell? ⟨g2, 0, none⟩ = some (.int .i64 1) := kg.cell 0
      have s1 : w8.cell? ⟨g2, 1, none⟩ = some (.int .i64 1) := kg.cell 1
      have s2 : w8.cell? ⟨g2, 2, none⟩ = some (.int .i64 1) := kg.cell 2
      have s3 : w8.cell? ⟨g2, 3, none⟩ = some (.int .i64 2) := kg.cell 3
      have s4 : w8.cell? ⟨g2, 4, none⟩ = some (.string ⟨#[]⟩) := kg.cell 4
      have s5 : w8.cell? ⟨g2, 5, none⟩ = some (.string ⟨#[99]⟩) := kg.cell 5
      have n0 : w8.cell? ⟨wr.heap.size, 0, none⟩ = some (.int .i64 1) := kn8.cell 0
      have n1 : w8.cell? ⟨wr.heap.size, 1, none⟩ = some (.int .i64 1) := kn8.cell 1
      clear m8 HAT hs8 kn8 kg hsl hll2 hcm hnc hgb
      go_upto_region 10 with fail
      go_quiet (fail)
      go_wp2_with fail
      go_ret
      exact ⟨rfl, M8.out.drewN _⟩

end Go.Proofs.YtjgjjlolhdlofaaGreatDoor

namespace Go.Proofs.YtjgjjlolhdlofaaGreatDoor
open Go.RowKit Go.Shelf Go.Mine
open Classical

theorem ents_small {h : HistV} {E : List EntV} (hb : bigHist h E = false) : ∀ x ∈ E, x.o.text.size ≤ 1000 ∧ x.o.slen ≤ 40 := by
  unfold bigHist at hb
  simp only [Bool.or_eq_false_iff] at hb
  intro x hx
  have h1 := (List.any_eq_false.1 hb.2) x hx
  have h2 : bigEnt x = false := by simpa using h1
  unfold bigEnt bigOp at h2
  simp only [Bool.or_eq_false_iff, decide_eq_false_iff_not] at h2
  omega

end Go.Proofs.YtjgjjlolhdlofaaGreatDoor

namespace Go.Proofs.YtjgjjlolhdlofaaGreatDoor
open Go.RowKit Go.Shelf Go.Mine

theorem jAdd_trans {out : List (Int × Int)} {a b c : Int} (h1 : a ≤ b) (h2 : b ≤ c) : jAdd (jAdd out a b) b c = jAdd out a c := by
  by_cases hab : a = b
  · subst hab; rw [jAdd_same]
  by_cases hbc : b = c
  · subst hbc; rw [jAdd_same]
  have hac : ¬ a = c := by omega
  unfold jAdd
  rw [if_neg hab, if_neg hbc, if_neg hac]
  cases hl : out.getLast? with
  | none =>
    have : out = [] := List.getLast?_eq_none_iff.1 hl
    subst this
    simp
  | some y =>
    dsimp only
    by_cases hy : y.2 = a
    · rw [if_pos hy, if_pos hy]
      simp
    · rw [if_neg hy, if_neg hy]
      simp
/-- The runs of the first places. -/
def posL (L : List CellV) (sp : List (Int × Int)) : Nat → List (Int × Int)
  | 0 => []
  | p + 1 => if hasPl sp p = true then jAdd (posL L sp p) (seenN L p : Int) (seenN L (p + 1) : Int) else posL L sp p
theorem posL_end (L : List CellV) (sp : List (Int × Int)) : ∀ p, ∀ y ∈ posL L sp p, y.2 ≤ (seenN L p : Int)
  | 0, y, hy => by cases hy
  | p + 1, y, hy => by
    have ih := posL_end L sp p
    have hm := seenN_mono L p (p + 1) (by omega)
    rw [posL] at hy
    split at hy
    · unfold jAdd at hy
      split at hy
      · have := ih y hy; omega
      · cases hl : (posL L sp p).getLast? with
        | none =>
          rw [hl] at hy
          dsimp only at hy
          rcases List.mem_append.1 hy with hy | hy
          · have := ih y hy; omega
          · simp at hy; subst hy; simp
        | some z =>
          rw [hl] at hy
          dsimp only at hy
          split at hy
          · rcases List.mem_append.1 hy with hy | hy
            · have := ih y (List.dropLast_subset _ hy); omega
            · simp at hy; subst hy; simp
          · rcases List.mem_append.1 hy with hy | hy
            · have := ih y hy; omega
            · simp at hy; subst hy; simp
    · have := ih y hy; omega
theorem posL_none {L : List CellV} {sp : List (Int × Int)} : ∀ (n p : Nat), (∀ q, p ≤ q → q < p + n → hasPl sp q = false) → posL L sp (p + n) = posL L sp p
  | 0, p, _ => rfl
  | n + 1, p, h => by
    rw [← Nat.add_assoc, posL, if_neg (by rw [h (p + n) (by omega) (by omega)]; simp)]
    exact posL_none n p (fun q h1 h2 => h q h1 (by omega))
theorem posL_all {L : List CellV} {sp : List (Int × Int)} : ∀ (n p : Nat), (∀ q, p ≤ q → q < p + n → hasPl sp q = true) → posL L sp (p + n) = jAdd (posL L sp p) (seenN L p : Int) (seenN L (p + n) : Int)
  | 0, p, _ => by rw [Nat.add_zero, jAdd_same]
  | n + 1, p, h => by
    rw [← Nat.add_assoc, posL, if_pos (h (p + n) (by omega) (by omega)), posL_all n p (fun q h1 h2 => h q h1 (by omega))]
    exact jAdd_trans (by have := seenN_mono L p (p + n) (by omega); omega) (by have := seenN_mono L (p + n) (p + n + 1) (by omega); omega)
theorem hasPl_cons31 (x : Int × Int) (r : List (Int × Int)) (i : Nat) : hasPl (x :: r) i = (decide (x.1 ≤ (i : Int) ∧ (i : Int) < x.1 + x.2) || hasPl r i) := by unfold hasPl; rw [List.any_cons]
theorem hasPl_app31 (a b : List (Int × Int)) (i : Nat) : hasPl (a ++ b) i = (hasPl a i || hasPl b i) := by unfold hasPl; rw [List.any_append]
/-- joined's runs are those of the places. -/
theorem jL_pos (L : List CellV) (sp : List (Int × Int)) (hs : spansOk sp = true) : ∀ k, k ≤ sp.length → ∃ e : Int, jL L (sp.take k) = posL L sp e.toNat ∧ spansFrom e (sp.drop k) = true ∧ (∀ i : Nat, e ≤ (i : Int) → hasPl (sp.take k) i = false) ∧ -1 ≤ e
  | 0, _ => ⟨-1, by rw [List.take_zero]; rfl, by rw [List.drop_zero]; exact hs, fun _ _ => by rw [List.take_zero]; rfl, by omega⟩
  | k + 1, hk => by
    obtain ⟨e, h1, h2, h3, h4⟩ := jL_pos L sp hs k (by omega)
    have hx : sp[k]? = some (sp[k]'(by omega)) := List.getElem?_eq_getElem _
    obtain ⟨⟨f, m⟩, hxe⟩ : ∃ x, x = sp[k]'(by omega) := ⟨_, rfl⟩
    rw [← hxe] at hx
    have hdr : sp.drop k = (f, m) :: sp.drop (k + 1) := by
      obtain ⟨hk', e'⟩ := List.getElem?_eq_some_iff.1 hx
      rw [← e']; exact List.drop_eq_getElem_cons hk'
    have htk : sp.take (k + 1) = sp.take k ++ [(f, m)] := by
      obtain ⟨hk', e'⟩ := List.getElem?_eq_some_iff.1 hx
      rw [List.take_succ_eq_append_getElem hk', e']
    have hall : ∀ i, hasPl sp i = (hasPl (sp.take k) i || (decide (f ≤ (i : Int) ∧ (i : Int) < f + m) || hasPl (sp.drop (k + 1)) i)) := fun i => by
      conv => lhs; rw [← List.take_append_drop k sp]
      rw [hasPl_app31, hdr, hasPl_cons31]
    rw [hdr, spansFrom_cons, Bool.and_eq_true, decide_eq_true_eq] at h2
    obtain ⟨⟨g1, g2, g3, g4, g5⟩, g6⟩ := h2
    refine ⟨f + m, ?_, g6, fun i hi => ?_, by omega⟩
    · rw [jL_snoc hx, h1]
      unfold jStep
      dsimp only
      have hgap : posL L sp f.toNat = posL L sp e.toNat := by
        have hle : e.toNat ≤ f.toNat := by omega
        obtain ⟨n, hn⟩ : ∃ n, f.toNat = e.toNat + n := ⟨f.toNat - e.toNat, by omega⟩
        rw [hn]
        refine posL_none n _ (fun q q1 q2 => ?_)
        rw [hall, h3 q (by omega), hasPl_past _ _ q g6 (by omega), Bool.or_false, Bool.false_or, decide_eq_false_iff_not]
        omega
      have hrun : posL L sp (f + m).toNat = jAdd (posL L sp f.toNat) (seenN L f.toNat : Int) (seenN L (f + m).toNat : Int) := by
        obtain ⟨n, hn⟩ : ∃ n, (f + m).toNat = f.toNat + n := ⟨(f + m).toNat - f.toNat, by omega⟩
        rw [hn]
        refine posL_all n _ (fun q q1 q2 => ?_)
        rw [hall]
        have : decide (f ≤ (q : Int) ∧ (q : Int) < f + m) = true := by rw [decide_eq_true_eq]; omega
        rw [this]; simp
      rw [hrun, hgap]
    · rw [htk, hasPl_app31, h3 i (by omega), Bool.false_or, hasPl_cons31]
      have : decide (f ≤ (i : Int) ∧ (i : Int) < f + m) = false := by rw [decide_eq_false_iff_not]; omega
      dsimp only
      rw [this]; rfl
theorem jL_posL (L : List CellV) (sp : List (Int × Int)) (hs : spansOk sp = true) (n : Nat) (hn : ∀ i : Nat, n ≤ i → hasPl sp i = false) : jL L sp = posL L sp n := by
  obtain ⟨e, h1, _, h3, h4⟩ := jL_pos L sp hs sp.length (Nat.le_refl _)
  rw [List.take_length] at h1 h3
  rw [h1]
  by_cases h : e.toNat ≤ n
  · obtain ⟨k, hk⟩ : ∃ k, n = e.toNat + k := ⟨n - e.toNat, by omega⟩
    rw [hk, posL_none k _ (fun q q1 q2 => h3 q (by omega))]
  · obtain ⟨k, hk⟩ : ∃ k, e.toNat = n + k := ⟨e.toNat - n, by omega⟩
    rw [hk, posL_none k _ (fun q q1 q2 => hn q (by omega))]

/-- What is still to be told, where the scan stands ahead of place p, with so many runes in hand. -/
def rest31 (L : List CellV) (o : OpV) (sp : List (Int × Int)) (p t : Nat) : List StepV := (jAdd (posL L sp p) (seenN L p : Int) ((seenN L p + t : Nat) : Int)).reverse.map (goneS L o)
theorem rest31_skip {L : List CellV} {o : OpV} {sp : List (Int × Int)} {p t : Nat} {c : CellV} (hc : L[p]? = some c) (hg : c.gone = true) : rest31 L o sp (p + 1) t = rest31 L o sp p t := by
  have hs : seenN L (p + 1) = seenN L p := by rw [seenN_succ hc, hg]; rfl
  unfold rest31
  rw [hs, posL]
  split
  · rw [hs, jAdd_same]
  · rfl
theorem rest31_mark {L : List CellV} {o : OpV} {sp : List (Int × Int)} {p t : Nat} {c : CellV} (hc : L[p]? = some c) (hg : c.gone = false) (hm : hasPl sp p = true) : rest31 L o sp (p + 1) t = rest31 L o sp p (t + 1) := by
  have hs : seenN L (p + 1) = seenN L p + 1 := by rw [seenN_succ hc, hg]; rfl
  unfold rest31
  rw [posL, if_pos hm, jAdd_trans (by omega) (by omega), hs]
  congr 4
  omega
theorem rest31_flush {L : List CellV} {o : OpV} {sp : List (Int × Int)} {p t : Nat} {c : CellV} (hc : L[p]? = some c) (hg : c.gone = false) (hm : hasPl sp p = false) (ht : 0 < t) :
    rest31 L o sp (p + 1) t = goneS L o ((seenN L (p + 1) : Int), ((seenN L (p + 1) + t : Nat) : Int)) :: rest31 L o sp p 0 := by
  have hs : seenN L (p + 1) = seenN L p + 1 := by rw [seenN_succ hc, hg]; rfl
  have hend := posL_end L sp p
  unfold rest31
  simp only [Nat.add_zero]
  rw [posL, if_neg (by rw [hm]; simp), jAdd_same (i := (seenN L p : Int))]
  have : jAdd (posL L sp p) (seenN L (p + 1) : Int) ((seenN L (p + 1) + t : Nat) : Int) = posL L sp p ++ [((seenN L (p + 1) : Int), ((seenN L (p + 1) + t : Nat) : Int))] := by
    unfold jAdd
    rw [if_neg (by omega)]
    cases hl : (posL L sp p).getLast? with
    | none => rfl
    | some y =>
      have := hend y (List.mem_of_getLast? hl)
      dsimp only
      rw [if_neg (by omega)]
  rw [this, List.reverse_append, List.map_append]
  rfl
theorem rest31_none {L : List CellV} {o : OpV} {sp : List (Int × Int)} {p : Nat} {c : CellV} (hc : L[p]? = some c) (hg : c.gone = false) (hm : hasPl sp p = false) : rest31 L o sp (p + 1) 0 = rest31 L o sp p 0 := by
  unfold rest31
  simp only [Nat.add_zero, jAdd_same]
  rw [posL, if_neg (by rw [hm]; simp)]
theorem rest31_end {L : List CellV} {o : OpV} {sp : List (Int × Int)} {t : Nat} (ht : 0 < t) : rest31 L o sp 0 t = [goneS L o ((0 : Int), (t : Int))] := by
  unfold rest31
  have : seenN L 0 = 0 := by unfold seenN; simp [liveN]
  rw [this, posL, jAdd_nil (by omega)]
  simp
theorem rest31_end0 {L : List CellV} {o : OpV} {sp : List (Int × Int)} : rest31 L o sp 0 0 = [] := by
  unfold rest31
  have : seenN L 0 = 0 := by unfold seenN; simp [liveN]
  rw [this, posL]
  simp [jAdd]
theorem rest31_all {L : List CellV} {o : OpV} {sp : List (Int × Int)} (hk : ¬ o.kind = 1) (hs : spansOk sp = true) (hn : ∀ i : Nat, L.length ≤ i → hasPl sp i = false) : rest31 L o sp L.length 0 = stepsL L o sp := by
  unfold rest31 stepsL
  simp only [Nat.add_zero, jAdd_same]
  rw [if_neg hk, jL_posL L sp hs L.length hn]
end Go.Proofs.YtjgjjlolhdlofaaGreatDoor
