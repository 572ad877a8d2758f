/-
  Texts on which the claim rests, one behind the other: Rpl2 Rpl3 Eac1 Ech1 Tex1 Cls1 His31 RowK.
-/
import Derived.Test.YtlidmajcdjlcnaaGreatDoorRp5
import Derived.Outline
import Derived.Test.YtlidmajcdjlcnaaGreatDoorRows
import Derived.Test.YtlidmajcdjlcnaaGreatDoorCards
import Derived.Test.YtlidmajcdjlcnaaGreatDoorTie
import Derived.ProofKit
import Derived.OpenShut
import Derived.LaidMore
import Derived.Lay
import Derived.SevenTiedAt
import Derived.Stop.Joined
import Derived.Lib.LaidU8T
import Derived.PinnedBridge
import Derived.Lib.SmallJoins

set_option linter.unusedSimpArgs false
set_option linter.unusedVariables false

namespace Go.Proofs.YtlidmajcdjlcnaaGreatDoor
open Go.RowKit Go.Shelf Go.Mine
open Classical
attribute [local go_sem] Oper.semAt_some

/-- The law of ranges over functions, the frame behind the assignment told by what it changes in the frame ahead. -/
theorem rangeFunc_two_upd {F : Fence} {n : Nat} {P : Program} {σ α : Type} {g : Operand} {ps : Array Tmp} {assign body : Code} {Q : Exit → Act → World → Prop} {a : Act} {w : World}
    (upd : Array Value → α → Array Value) (hro : F.round = none) (h1 : 1 ≤ n) {gf : Nat} {lb : Array Value} (hg : a.eval g = .func (.func gf) #[] lb) (hFg : F.fn gf) (eg : ∀ args w, (callFunc gf args).run P w = .ok (.enter gf args) w)
    (encs : α → Array Value) (hps : ∀ x, (encs x).size = ps.size) (I : σ → World → Prop) (Ix : Code → σ → World → Prop) (step : σ → α → σ) (G : σ → α → Prop) (S : σ → Prop) (s0 : σ)
    (hI : ∀ s W W', I s W → Mod (two w.heap.size) W W' → I s W') (hIx : ∀ c s W W', Ix c s W → Mod (two w.heap.size) W W' → Ix c s W') (h0 : I s0 w)
    (hiter : ∀ (l : Nat) (J : σ → World → Prop) (Jx : Code → σ → World → Prop) (W : World), (∀ s W, J s W → I s W) → (∀ s s' W W', J s W → I s' W' → KeepTwo w.heap.size W W' → J s' W') →
      (∀ s x W1, J s W1 → G s x → YieldAt F (n - 1 - 1) P l (encs x) W1 fun e W' => (e = .returned (.bool true) ∧ J (step s x) W') ∨ (e = .returned (.bool false) ∧ ∃ c, Jx c (step s x) W')) → J s0 W → w.heap.size + 2 ≤ W.heap.size →
      CallsIn F (n - 1) P gf (#[.func (.yield l) #[] #[]] ++ lb) W fun e W' => (∃ v, e = .returned v) ∧ ((∃ s, S s ∧ J s W') ∨ (∃ c s, Jx c s W')))
    (hassign : ∀ (l : Nat) (x : α) (W : World) (K : Act → World → Prop), K ⟨upd a.tmps x, []⟩ W →
      assign.wpIn (F.inRound l) (n - 1 - 1) P (Exit.then K (fun _ _ _ => False)) { tmps := (ps.zip (encs x)).foldl (fun t (p, v) => t.setIfInBounds p v) a.tmps, defers := [] } W)
    (hbody : ∀ (l : Nat) (s : σ) (x : α) (W : World), I s W → G s x → body.wpIn (F.inRound l) (n - 1 - 1) P (twoPost w.heap.size I Ix (step s x) W) ⟨upd a.tmps x, []⟩ W)
    (hdone : ∀ (D : Nat) (s : σ) (W : World), S s → I s W → W.heap[D]? = some (.deferred (some [])) → D = w.heap.size → Q .normal { a with defers := { target := .collected D, args := #[] } :: a.defers } W)
    (hstop : ∀ (D : Nat) (c : Code) (s : σ) (W : World), Ix c s W → W.heap[D]? = some (.deferred (some [])) → D = w.heap.size → c.wpIn F n P Q { a with defers := { target := .collected D, args := #[] } :: a.defers } W) :
    (Code.rangeFunc g ps assign body).wpIn F n P Q a w :=
  rangeFunc_two hro h1 hg hFg eg encs hps I Ix step G S s0 hI hIx h0 (fun x => ⟨upd a.tmps x, []⟩) hiter hassign hbody hdone hstop


theorem documents2_any (a : Option Addr) (len cap : Nat) (b : Option Addr) (n c : Nat) (w : World) : Calls Tryz.prog 64 #[.slice a len cap, .slice b n c] w fun e w' =>
    e = .returned (.func (.func 96) #[] #[.pointer (some ⟨w.heap.size, 0, none⟩), .pointer (some ⟨w.heap.size + 1, 0, none⟩)]) ∧ w' = (w.alloc (.cells #[.slice a len cap] 22)).alloc (.cells #[.slice b n c] 60) := by
  go_enter Tryz.func64, Tryz.ntmps64
  go_wp2
  go_ret
  exact ⟨rfl, rfl⟩
/-- What Replay leaves. -/
def ReplayTo (w : World) (R : Bool) (k : Int) (ll : Nat) (B : List CellV) (E : List EntV) (e : Ending) (w' : World) : Prop :=
  (R = false → e = .returned (.tuple #[.pointer none, .int .i64 1]) ∧ Mine.Mod none_ w w') ∧ (R = true → (k < 0 ∨ (ll : Int) < k) → e = .returned (.tuple #[.pointer none, .int .i64 3]) ∧ Mine.Mod none_ w w') ∧
  (R = true → 0 ≤ k → k ≤ ll → ∃ D Ex, e = .returned (.tuple #[.pointer (some ⟨D, 0, none⟩), .int .i64 0]) ∧ DocF w Ex w' D (repL B (E.take k.toNat)))

set_option maxHeartbeats 8000000 in
set_option maxRecDepth 1000000 in
theorem replay_any (w : World) (h : HistV) (k : Int) (B : List CellV) (V : List Int) (E : List EntV) (hh : HistIs w h B V E) (hl : h.bl ≤ 1000) (hT : ∀ x ∈ E, x.o.text.size ≤ 1099511627776) (hk : -9223372036854775808 ≤ k ∧ k ≤ 9223372036854775807) :
    Calls Tryz.prog 34 #[h.v, .int .i64 k] w (ReplayTo w (histOk h B V E) k h.ll B E) := by
  have hle := hh.e.le
  have hcap := hh.e.big
  unfold maxLen at hcap
  have hBn := hh.b.n
  have hEn := hh.e.n
  have HMAY := Lib.hid (show ∀ W, Mine.Mod none_ w W → Calls Tryz.prog 21 #[h.v] W fun e w' => e = .returned (.bool (histOk h B V E)) ∧ Mine.Mod none_ W w' from fun W m => hmay_any W h B V E (hh.grown m) (by omega))
  have HALL := Lib.hid (fun W (m : Mine.Mod none_ w W) (hb : h.ll ≤ 100000) => hall_any W h E (hh.e.grown m) hb)
  have HH := Lib.hid hh
  have HTX := Lib.hid hT
  have HREP := Lib.hid (fun (e : histOk h B V E = true) => histOk_rep e hBn)
  have HNM := Lib.hid (fun (e : histOk h B V E = true) => histOk_nums e)
  obtain ⟨R, hR⟩ : ∃ R, R = histOk h B V E := ⟨_, rfl⟩
  rw [← hR] at HMAY HREP HNM ⊢
  clear hR hh hT
  obtain ⟨xba, xbl, xbc, xva, xvl, xvc, xfr, xnum, xla, xll, xlc⟩ := h
  dsimp only at hle hcap hl hBn hEn HMAY HALL HREP HNM
  obtain ⟨W0, hW0⟩ : ∃ W0, w.alloc (.cells #[.slice xba xbl xbc, .slice xva xvl xvc, .int .i64 xfr, .int .i64 xnum, .slice xla xll xlc] 39) = W0 := ⟨_, rfl⟩
  obtain ⟨K0, hK0⟩ : ∃ K0, w.heap.size = K0 := ⟨_, rfl⟩
  have M0 := Lib.hid (show Mine.Mod none_ w W0 by rw [← hW0]; exact (Mine.Mod.refl none_ w).alloc _)
  have A0 := Lib.hid (show Blk W0 K0 [.slice xba xbl xbc, .slice xva xvl xvc, .int .i64 xfr, .int .i64 xnum, .slice xla xll xlc] 39 by rw [← hW0, ← hK0]; exact Blk.new (w := w) (cs := [.slice xba xbl xbc, .slice xva xvl xvc, .int .i64 xfr, .int .i64 xnum, .slice xla xll xlc]))
  have hKw : w.heap.size ≤ K0 := by omega
  have HM := Lib.hid (HMAY.out W0 M0.out)
  have a0 := A0.out.cell 0
  have a1 := A0.out.cell 1
  have a2 := A0.out.cell 2
  have a3 := A0.out.cell 3
  have a4 := A0.out.cell 4
  simp only [List.getElem?_cons_zero, List.getElem?_cons_succ] at a0 a1 a2 a3 a4
  refine (callsIn_wide (n := 8)).1 ?_
  refine callsIn_of_wp_marks Tryz.func34 rfl trivial ?_ rfl
  refine wpIn_wide.2 (Code.wp_mono (Q := calmPost _) calmPost.out ?_)
  simp only [Tryz.ntmps34, List.size_toArray, List.length_cons, List.length_nil, Nat.reduceAdd, Nat.reduceSub, Array.replicate_succ, Array.replicate_zero, List.push_toArray, List.append_toArray, List.nil_append, List.cons_append]
  go_upto_region 1 with fail
  clear hW0 hK0
  go_wp2_with fail
  refine HM.out.mono ?_
  rintro e w1 ⟨rfl, m1⟩
  have M1 := Lib.hid (M0.out.trans m1)
  have A1 := Lib.hid (A0.out.mod m1 (fun e => e))
  clear m1 a0 a1 a2 a3 a4 HM HMAY
  cases R
  · go_wp2_with fail
    exact ⟨_, results_tmp2 rfl _ _ _, fun _ => ⟨rfl, M1.out⟩, (fun e => by cases e), (fun e => by cases e)⟩
  have HNS := Lib.hid (HNM.out (by first | rfl | trivial))
  have HRP := Lib.hid (HREP.out (by first | rfl | trivial))
  try dsimp only at HNS
  clear HNM HREP
  by_cases hk0 : k < 0
  · have hd : decide (k < 0) = true := by simpa using hk0
    have HK := Lib.hid hk0
    clear hk0
    go_wp2_with fail
    exact ⟨_, results_tmp2 rfl _ _ _, (fun e => by cases e), fun _ _ => ⟨rfl, M1.out⟩, fun _ e => by have := HK.out; omega⟩
  have hd : decide (k < 0) = false := by simpa using hk0
  have a4 := A1.out.cell 4
  simp only [List.getElem?_cons_zero, List.getElem?_cons_succ] at a4
  by_cases hk1 : (xll : Int) < k
  · have hd2 : decide ((xll : Int) < k) = true := by simpa using hk1
    have HK := Lib.hid hk1
    clear hk0 hk1
    go_wp2_with fail
    exact ⟨_, results_tmp2 rfl _ _ _, (fun e => by cases e), fun _ _ => ⟨rfl, M1.out⟩, fun _ _ e => by have := HK.out; omega⟩
  have hd2 : decide ((xll : Int) < k) = false := by simp; omega
  obtain ⟨kk, hkk⟩ : ∃ kk : Nat, k = (kk : Int) := ⟨k.toNat, by omega⟩
  subst hkk
  have hkl : kk ≤ xll := by omega
  clear hk0 hk1
  have hxl : xll ≤ 400 := HNS.out.2.2.2
  have mA := (Mine.Mod.refl none_ w1).alloc (.cells #[.pointer none] 77)
  have T2 := Lib.hid (Blk.new (w := w1) (cs := [.pointer none]) (t := 77))
  have M2 := Lib.hid (M1.out.trans mA)
  have A2 := Lib.hid (A1.out.mod mA (fun e => e))
  have HTw := Lib.hid (show w.heap.size ≤ w1.heap.size from M1.out.size)
  go_upto_region 6 with fail
  clear mA a4 hd hd2
  generalize w1.heap.size = bT at T2 HTw ⊢
  generalize w1.alloc (.cells #[.pointer none] 77) = w2 at T2 M2 A2 ⊢
  have f0 : w2.cell? ⟨K0, 0, none⟩ = some (.slice xba xbl xbc) := by rw [A2.out.cell]; rfl
  have f1 : w2.cell? ⟨K0, 1, none⟩ = some (.slice xva xvl xvc) := by rw [A2.out.cell]; rfl
  have f2 : w2.cell? ⟨K0, 2, none⟩ = some (.int .i64 xfr) := by rw [A2.out.cell]; rfl
  have f3 : w2.cell? ⟨K0, 3, none⟩ = some (.int .i64 xnum) := by rw [A2.out.cell]; rfl
  have f4 : w2.cell? ⟨K0, 4, none⟩ = some (.slice xla xll xlc) := by rw [A2.out.cell]; rfl
  have mD := Mine.Mod.drew (Mine.Mod.refl none_ w2)
  have M3 := Lib.hid (M2.out.trans mD)
  have A3 := Lib.hid (A2.out.mod mD (fun e => e))
  have T3 := Lib.hid (T2.out.mod mD (fun e => e))
  clear mD
  refine wp_region_held_drew (S := fun w' => w'.cell? ⟨K0, 0, none⟩ = some (.slice xba xbl xbc) ∧ w'.cell? ⟨K0, 1, none⟩ = some (.slice xva xvl xvc) ∧ w'.cell? ⟨K0, 2, none⟩ = some (.int .i64 xfr) ∧ w'.cell? ⟨K0, 3, none⟩ = some (.int .i64 xnum) ∧ w'.cell? ⟨K0, 4, none⟩ = some (.slice xla xll xlc)) (by kernel_rfl) ⟨f0, f1, f2, f3, f4⟩ (fun hS => ?_)
  clear f0 f1 f2 f3 f4
  refine wpAnyH_take (i := 0) (v := .pointer (some ⟨K0, 0, none⟩)) rfl (by kernel_rfl) (by kernel_rfl) (by kernel_rfl) (fun _ _ _ h => h) (Or.inl ⟨by kernel_rfl, ?_⟩) hS ?_
  · rintro w' ⟨q0, q1, q2, q3, q4⟩; go_simp
  try simp only [Act.put, List.setIfInBounds_toArray, List.set_cons_zero, List.set_cons_succ]
  refine wpAnyH_take (i := 1) (v := .slice xba xbl xbc) rfl (by kernel_rfl) (by kernel_rfl) (by kernel_rfl) (fun _ _ _ h => h) (Or.inl ⟨by kernel_rfl, ?_⟩) hS ?_
  · rintro w' ⟨q0, q1, q2, q3, q4⟩; go_simp
  try simp only [Act.put, List.setIfInBounds_toArray, List.set_cons_zero, List.set_cons_succ]
  refine wpAnyH_take (i := 2) (v := .agg #[.slice xba xbl xbc, .slice xva xvl xvc, .int .i64 xfr, .int .i64 xnum, .slice xla xll xlc]) rfl (by kernel_rfl) (by kernel_rfl) (by kernel_rfl) (fun _ _ _ h => h) (Or.inl ⟨by kernel_rfl, ?_⟩) hS ?_
  · rintro w' ⟨q0, q1, q2, q3, q4⟩; go_simp
  try simp only [Act.put, List.setIfInBounds_toArray, List.set_cons_zero, List.set_cons_succ]
  refine wpAnyH_take (i := 4) (v := .int .i64 (kk : Int)) rfl (by kernel_rfl) (by kernel_rfl) (by kernel_rfl) (fun _ _ _ h => h) (Or.inl ⟨by kernel_rfl, ?_⟩) hS ?_
  · rintro w' ⟨q0, q1, q2, q3, q4⟩; go_simp
  try simp only [Act.put, List.setIfInBounds_toArray, List.set_cons_zero, List.set_cons_succ]
  refine wpAnyH_ready (rs := [3]) (by kernel_rfl) (by simp) (AllReadyH.cons rfl (fun J hJ => ?_) <| AllReadyH.nil)
  go_simp
  refine (HALL.out _ M3.out (by omega)).mono ?_
  rintro e w4 ⟨⟨va, n4, vc, rfl, ho⟩, m4⟩
  have hn4 : xll = n4 := by
    have h1 := ho.1
    rw [flat_length OpS.len, List.length_map, hEn] at h1
    omega
  subst hn4
  have hvc : xll ≤ vc ∧ vc ≤ 9223372036854775807 := by
    rcases ownsRow_blk ho with ⟨h1, h2, _⟩ | ⟨g, cap, more, h1, _, _, hc, hm, _⟩
    · cases h1; omega
    · cases h1; exact ⟨hc, by unfold maxLen at hm; omega⟩
  have M4 := Lib.hid (M3.out.trans m4)
  have A4 := Lib.hid (A3.out.mod m4 (fun e => e))
  have T4 := Lib.hid (T3.out.mod m4 (fun e => e))
  have HO4 := Lib.hid ho
  refine hJ.out _ _ ⟨by rw [A4.out.cell]; rfl, by rw [A4.out.cell]; rfl, by rw [A4.out.cell]; rfl, by rw [A4.out.cell]; rfl, by rw [A4.out.cell]; rfl⟩ (fun hS => ?_)
  clear hJ J m4 ho
  try simp only [Act.put, List.setIfInBounds_toArray, List.set_cons_zero, List.set_cons_succ]
  refine wpAnyH_take (i := 5) (v := .slice va kk vc) rfl (by kernel_rfl) (by kernel_rfl) (by kernel_rfl) (fun _ _ _ h => h) (Or.inl ⟨by kernel_rfl, ?_⟩) hS ?_
  · rintro w' ⟨q0, q1, q2, q3, q4⟩; first | (cases va <;> (go_simp <;> (intros; omega))) | (cases va <;> go_simp)
  try simp only [Act.put, List.setIfInBounds_toArray, List.set_cons_zero, List.set_cons_succ]
  refine wpAnyH_ready (rs := [6]) (by kernel_rfl) (by simp) (AllReadyH.cons rfl (fun J hJ => ?_) <| AllReadyH.nil)
  go_simp
  refine (documents2_any xba xbl xbc va kk vc w4).mono ?_
  rintro e w5 ⟨rfl, hw5⟩
  have m5 : Mine.Mod none_ w4 w5 := by rw [hw5]; exact ((Mine.Mod.refl none_ w4).alloc _).alloc _
  have kB : Blk w5 w4.heap.size [.slice xba xbl xbc] 22 := by
    rw [hw5]
    exact (Blk.new (w := w4) (cs := [.slice xba xbl xbc]) (t := 22)).mod ((Mine.Mod.refl none_ _).alloc _) (fun e => e)
  have kL : Blk w5 (w4.heap.size + 1) [.slice va kk vc] 60 := by
    have hb := Blk.new (w := w4.alloc (.cells #[.slice xba xbl xbc] 22)) (cs := [.slice va kk vc]) (t := 60)
    rw [World.size_alloc] at hb
    rw [hw5]
    exact hb
  have hs5 : w5.heap.size = w4.heap.size + 1 + 1 := by rw [hw5, World.size_alloc, World.size_alloc]
  clear hw5
  have M5 := Lib.hid (M4.out.trans m5)
  have A5 := Lib.hid (A4.out.mod m5 (fun e => e))
  have T5 := Lib.hid (T4.out.mod m5 (fun e => e))
  have HO5 := Lib.hid (ownsRow_mod HO4.out m5 (fun _ _ e => e))
  have KB := Lib.hid kB
  have KL := Lib.hid kL
  refine hJ.out _ _ ⟨by rw [A5.out.cell]; rfl, by rw [A5.out.cell]; rfl, by rw [A5.out.cell]; rfl, by rw [A5.out.cell]; rfl, by rw [A5.out.cell]; rfl⟩ (fun hS => ?_)
  clear hJ J m5 kB kL
  try simp only [Act.put, List.setIfInBounds_toArray, List.set_cons_zero, List.set_cons_succ]
  refine wpAnyH_done (by kernel_rfl) ?_ _
  try simp only [List.getElem_toArray, List.getElem_cons_succ, List.getElem_cons_zero]
  try simp only [Act.put, List.setIfInBounds_toArray, List.set_cons_zero, List.set_cons_succ]
  go_wp2_with fail
  clear hS
  have hwb : w.heap.size ≤ w4.heap.size := M4.out.size
  have hTb : bT < w4.heap.size := T4.out.lt
  have hTw := HTw.out
  refine wpIn_wide.1 (?_ : Code.wpIn Fence.wide 8 _ _ _ _ _)
  have hI0 : repI w w5 w4.heap.size (w4.heap.size + 1) bT (.slice xba xbl xbc) (.slice va kk vc) B E none w5 := ⟨M5.out, KB.out, KL.out, T5.out, fun _ _ _ _ => rfl⟩
  have HOPS := Lib.hid (show ∀ W s, repI w w5 w4.heap.size (w4.heap.size + 1) bT (.slice xba xbl xbc) (.slice va kk vc) B E s W → IsOps W va kk vc ((opsOf E).take kk) from fun W s hI => by
    have hm : Mine.Mod none_ w W := by cases s with
      | none => exact hI.1
      | some x => exact hI.1
    have hs : repSame w w5 bT W := by cases s with
      | none => exact hI.2.2.2.2
      | some x => exact hI.2.2.2.2.2
    have hok : ∀ x ∈ opsOf E, x.o.ok W x.sp := fun x hx => by
      obtain ⟨y, hy, rfl⟩ := List.mem_map.1 hx
      exact (HH.out.e.ok y hy).1.grown hm
    refine IsOps.take (own_ops (B := w.heap.size) ?_ hok) kk hkl
    rcases ownsRow_blk HO5.out with ⟨h1, h2, h3⟩ | ⟨g, cap, more, h1, hg, hb, hc, hmx, hlx⟩
    · rw [h1, h2, h3]; exact ⟨by simp, .inl ⟨rfl, rfl⟩⟩
    · have hgT : g ≠ bT := fun e => by subst e; exact absurd (blk_same hb T5.out).2 (by decide)
      have hgw : w.heap.size ≤ g := Nat.le_trans M3.out.size hg
      cases h1
      exact blk_ownsRow hgw ((hs g hgw hb.lt hgT).trans hb) HO5.out.1 hc hmx hlx)
  refine rangeFunc_two_upd (fun t x => (t.setIfInBounds 27 (.pointer (some ⟨x, 0, none⟩))).setIfInBounds 7 (.pointer (some ⟨x, 0, none⟩))) rfl (by decide) (gf := 96) (lb := #[.pointer (some ⟨w4.heap.size, 0, none⟩), .pointer (some ⟨w4.heap.size + 1, 0, none⟩)]) rfl trivial (enters_of Tryz.func96 (by kernel_rfl) rfl)
    repEnc (fun _ => rfl) (repI w w5 w4.heap.size (w4.heap.size + 1) bT (.slice xba xbl xbc) (.slice va kk vc) B E) (fun _ _ _ => False) repStep repG (fun s => ∃ D, s = some (kk, D, true)) none ?hI ?hIx hI0 ?hiter ?assign ?body ?done ?stop
  case hI => exact fun s W W' h m => h.mod (by omega) m (by omega) (by omega) (by omega)
  case hIx => intro _ _ _ _ h _; exact h.elim
  case hiter =>
    intro l J Jx W hJI hJ hY h0 hsz
    refine (docs1_any (8 - 1) w w5 w4.heap.size (w4.heap.size + 1) bT xba xbl xbc va kk vc B V E HH.out.b hl (fun x hx => (HH.out.e.ok x hx).1) HTX.out (HOPS.out w5 none hI0) (by omega) (by omega) hvc.2 HRP.out.1 HRP.out.2 (by omega) (by omega) (by omega) (by omega) (by omega) (by omega) (by omega) HOPS.out l J Jx W hJI hJ hY h0 hsz).mono ?_
    rintro e W' ⟨h1, h2⟩
    exact ⟨h1, h2⟩
  case assign =>
    intro l x W K hK
    unfold repEnc
    simp only [List.setIfInBounds_toArray, List.set_cons_zero, List.set_cons_succ] at hK
    gi_wp2
    exact hK
  case stop =>
    rintro D c s W h
    exact h.elim
  case body =>
    rintro l st x W hI ⟨i, rfl⟩
    obtain ⟨m, kb, kl, ⟨p, kt, hp⟩, hf, hs⟩ := hI
    have c0 : W.cell? ⟨bT, 0, none⟩ = some (.pointer p) := by rw [kt.cell]; rfl
    have f0 := kt.frozen 0
    have mS := (Mine.Mod.refl (one bT) W).setCell ⟨bT, 0, none⟩ (fun _ => rfl) (.pointer (some ⟨x, 0, none⟩))
    have hex := hf.ex (w5.heap.size + 1) ⟨by omega, by omega⟩
    have neT : ∀ k, k ≠ bT → ¬ one bT k := fun k hk e => hk e
    have FIN := Lib.hid (show KeepTwo w5.heap.size W (W.setCell ⟨bT, 0, none⟩ (.pointer (some ⟨x, 0, none⟩))) ∧ repI w w5 w4.heap.size (w4.heap.size + 1) bT (.slice xba xbl xbc) (.slice va kk vc) B E (some (i, x, true)) (W.setCell ⟨bT, 0, none⟩ (.pointer (some ⟨x, 0, none⟩))) from
      ⟨fun k hk => mS.block k (by rcases hk with e | e <;> omega) (neT k (by rcases hk with e | e <;> omega)), m.transIn mS (fun b hb e => by have e' : b = bT := e; omega), kb.mod mS (neT _ (by omega)), kl.mod mS (neT _ (by omega)), ⟨_, kt.set 0 (.pointer (some ⟨x, 0, none⟩)), fun _ => rfl⟩, hf.put (mS.mono (fun k _ e => by have e' : k = bT := e; exact ⟨by omega, by omega⟩)) (fun k e => e.1), fun k h1 h2 h3 => (mS.block k (by omega) (neT k h3)).trans (hs k h1 h2 h3)⟩)
    clear m kb kl kt hp hf hs mS hex neT
    simp only [List.setIfInBounds_toArray, List.set_cons_zero, List.set_cons_succ]
    gi_wp2_with fail
    exact FIN.out
  case done =>
    rintro Df st W ⟨D, rfl⟩ hI hDf rfl
    obtain ⟨m, kb, kl, ⟨p, kt, hp⟩, hf, hs⟩ := hI
    have hpe := hp rfl
    subst hpe
    have c0 : W.cell? ⟨bT, 0, none⟩ = some (.pointer (some ⟨D, 0, none⟩)) := by rw [kt.cell]; rfl
    have mP : Mine.Mod (two w5.heap.size) W (W.putObj w5.heap.size (.deferred none)) := ⟨rfl, rfl, rfl, by simp, fun k _ hs => World.putObj_heap_other (fun e => hs (Or.inl e))⟩
    have FIN := Lib.hid (show DocF w (repEx w w5) (W.putObj w5.heap.size (.deferred none)) D (repL B (E.take kk)) from hf.put (mP.mono (fun k _ e => by rcases e with e | e <;> exact ⟨by omega, by omega⟩)) (fun k e => e.1))
    have HDF := Lib.hid hDf
    clear m kb kl kt hp hf hs mP hDf
    go_wp2_with fail
    refine ⟨by simp, .inl ⟨_, _, rfl, run_takeDeferred HDF.out, ?_⟩⟩
    exact ⟨_, results_tmp2 rfl _ _ _, (fun e => by cases e), (fun _ e => by omega), fun _ _ _ => ⟨D, _, rfl, by rw [Int.toNat_natCast]; exact FIN.out⟩⟩

end Go.Proofs.YtlidmajcdjlcnaaGreatDoor

namespace Go.Proofs.YtlidmajcdjlcnaaGreatDoor
open Go.RowKit Go.Shelf Go.Mine
open Classical

set_option maxHeartbeats 4000000 in
set_option maxRecDepth 1000000 in
theorem rreplay_any (w : World) (h : HistV) (kk : Nat) (B : List CellV) (V : List Int) (E : List EntV) (hh : HistIs w h B V E) (hl : h.bl ≤ 1000) (hT : ∀ x ∈ E, x.o.text.size ≤ 1099511627776) (hm : histOk h B V E = true) (hk : kk ≤ h.ll) :
    Calls Tryz.prog 31 #[h.v, .int .i64 (kk : Int)] w fun e w' => (∃ va n vc, e = .returned (.slice va n vc) ∧ IsCells w' va n vc (repL B (E.take kk))) ∧ Mine.Mod none_ w w' := by
  have hle := hh.e.le
  have hcap := hh.e.big
  unfold maxLen at hcap
  have hEn := hh.e.n
  have hll := (histOk_nums hm).2.2.2
  have HRP := Lib.hid (histOk_rep hm hh.b.n)
  have HB := Lib.hid hh.b
  have HE := Lib.hid hh.e
  have HT := Lib.hid hT
  clear hh hT hm
  obtain ⟨xba, xbl, xbc, xva, xvl, xvc, xfr, xnum, xla, xll, xlc⟩ := h
  dsimp only at hle hcap hl hEn hk hll HRP HB HE
  obtain ⟨W0, hW0⟩ : ∃ W0, w.alloc (.cells #[.slice xba xbl xbc, .slice xva xvl xvc, .int .i64 xfr, .int .i64 xnum, .slice xla xll xlc] 26) = W0 := ⟨_, rfl⟩
  obtain ⟨K0, hK0⟩ : ∃ K0, w.heap.size = K0 := ⟨_, rfl⟩
  have M0 := Lib.hid (show Mine.Mod none_ w W0 by rw [← hW0]; exact (Mine.Mod.refl none_ w).alloc _)
  have A0 := Lib.hid (show Blk W0 K0 [.slice xba xbl xbc, .slice xva xvl xvc, .int .i64 xfr, .int .i64 xnum, .slice xla xll xlc] 26 by rw [← hW0, ← hK0]; exact Blk.new (w := w) (cs := [.slice xba xbl xbc, .slice xva xvl xvc, .int .i64 xfr, .int .i64 xnum, .slice xla xll xlc]))
  have hKw : w.heap.size ≤ K0 := by omega
  have a0 := A0.out.cell 0
  have a1 := A0.out.cell 1
  have a2 := A0.out.cell 2
  have a3 := A0.out.cell 3
  have a4 := A0.out.cell 4
  simp only [List.getElem?_cons_zero, List.getElem?_cons_succ] at a0 a1 a2 a3 a4
  go_enter Tryz.func31, Tryz.ntmps31
  go_upto_region 1 with fail
  clear hW0 hK0
  go_wp2_with fail
  clear a0 a1 a2 a3 a4
  go_loopg [5, 6] kk (fun g s5 s6 wx => ∃ (k : Nat) (va : Option Addr) (n vc : Nat), g = kk - k ∧ s5 = .slice va n vc ∧ s6 = .int .i64 k ∧ k ≤ kk ∧ Mine.Mod none_ w wx ∧ RowKit.Hid (Blk wx K0 [.slice xba xbl xbc, .slice xva xvl xvc, .int .i64 xfr, .int .i64 xnum, .slice xla xll xlc] 26 ∧ IsCells wx va n vc (repL B (E.take k))))
  case atStart => exact ⟨0, xba, xbl, xbc, rfl, rfl, rfl, Nat.zero_le _, M0.out, Lib.hid ⟨A0.out, HB.out.grown M0.out⟩⟩
  case round =>
    obtain ⟨k, va, n, vc, rfl, rfl, rfl, hkk, mx, hst⟩ := hrel
    have MX := Lib.hid mx
    have AX := Lib.hid hst.out.1
    have CX := Lib.hid hst.out.2
    have d4 := AX.out.cell 4
    simp only [List.getElem?_cons_zero, List.getElem?_cons_succ] at d4
    by_cases hlt : k < kk
    · obtain ⟨x, hx⟩ : ∃ x, E[k]? = some x := ⟨E[k]'(by omega), by simp⟩
      obtain ⟨V', n', hrp⟩ := Rep.upto k (by omega) HRP.out.2
      rw [drop_cons hx] at hrp
      obtain ⟨hm, -, -, -⟩ := hrp.step
      have hln := CX.out.n
      have hin := hrp.inb
      have hle3 := hrp.len
      have hmem := List.mem_of_getElem? hx
      have hlt4 : n ≤ 20000 := by unfold inB at hin; simp only [decide_eq_true_eq] at hin; omega
      have HR := Lib.hid (rrun9_any wr va n vc _ CX.out x.o x.sp (((HE.out.grown mx).ok x hmem).1) (by rw [← hln]; exact hm) hlt4 (HT.out x hmem))
      have HS := Lib.hid (repL_snoc (B := B) hx)
      obtain ⟨b, off, rfl, hr⟩ := (HE.out.grown mx).ents k x hx
      have c0 := hr 0 _ rfl
      have c1 := hr 1 _ rfl
      have c2 := hr 2 _ rfl
      have c3 := hr 3 _ rfl
      have c4 := hr 4 _ rfl
      have c5 := hr 5 _ rfl
      have c6 := hr 6 _ rfl
      have c7 := hr 7 _ rfl
      have c8 := hr 8 _ rfl
      have c9 := hr 9 _ rfl
      have c10 := hr 10 _ rfl
      have c11 := hr 11 _ rfl
      have c12 := hr 12 _ rfl
      have c13 := hr 13 _ rfl
      rw [Nat.add_zero] at c0
      have hkl : k < xll := by omega
      clear mx hst hx hrp hm hln hin hle3 hmem hr hlt4
      go_wp2_with fail
      refine HR.out.mono ?_
      rintro e w1 ⟨⟨va1, n1, vc1, rfl, ho, hok⟩, m1⟩
      have M1 := Lib.hid (MX.out.trans m1)
      have A1 := Lib.hid (AX.out.mod m1 (fun e => e))
      have C1 := Lib.hid (show IsCells w1 va1 n1 vc1 (repL B (E.take (k + 1))) by rw [HS.out]; exact own_cells ho hok)
      clear ho hok m1 c0 c1 c2 c3 c4 c5 c6 c7 c8 c9 c10 c11 c12 c13 d4
      go_wp2_with fail
      go_roundg (kk - (k + 1))
      all_goals first
        | omega
        | exact ⟨k + 1, va1, n1, vc1, rfl, rfl, by go_num, by omega, M1.out, Lib.hid ⟨A1.out, C1.out⟩⟩
    · have hkl : kk = k := by omega
      subst hkl
      clear mx hst
      go_wp2_with fail
      go_ret
      exact ⟨⟨va, n, vc, rfl, CX.out⟩, MX.out⟩

end Go.Proofs.YtlidmajcdjlcnaaGreatDoor

namespace Go.Proofs.YtlidmajcdjlcnaaGreatDoor
open Go.RowKit Go.Shelf Go.Mine
attribute [local go_sem] Oper.semAt_some

theorem each_any (D : Nat) (w : World) : Calls Tryz.prog 65 #[.pointer (some ⟨D, 0, none⟩)] w fun e w' =>
    e = .returned (.func (.func 98) #[] #[.pointer (some ⟨w.heap.size, 0, none⟩)]) ∧ w' = w.alloc (.cells #[.pointer (some ⟨D, 0, none⟩)] 77) := by
  go_enter Tryz.func65, Tryz.ntmps65
  go_wp2
  go_ret
  exact ⟨rfl, rfl⟩

/-- A cell's place: its number; its block's array, its place there. -/
structure CPos where
  p : Nat
  g : Nat
  i : Nat
def CPos.at_ (bl : List BV) (x : CPos) : Prop := ∃ k b, bl[k]? = some b ∧ (cellsOf (bl.take k)).length + x.i = x.p ∧ x.i < b.c.length ∧ b.v.ownBlock = some x.g
theorem CPos.get {w : World} {D MB : Nat} {v : Value} {bl : List BV} {x : CPos} (h : DocV w D v MB bl) (hx : x.at_ bl) : ∃ c, (cellsOf bl)[x.p]? = some c ∧ ∀ j, j < 5 → w.cell? ⟨x.g, x.i * 5 + j, none⟩ = c.cs[j]? := by
  obtain ⟨k, b, hk, hp, hi, hg⟩ := hx
  have hci : b.c[x.i]? = some b.c[x.i] := List.getElem?_eq_getElem hi
  rcases ownsRow_blk (h.blk b (List.mem_of_getElem? hk)).o with ⟨h1, _⟩ | ⟨g, cap, more, hv, _, hb, _⟩
  · rw [h1] at hg; cases hg
  · rw [hv] at hg
    obtain rfl : g = x.g := Option.some.inj hg
    refine ⟨b.c[x.i], ?_, fun j hj => Blk.elem CellV.len hb x.i j _ hci hj⟩
    rw [cellsOf_step hk, ← hp, List.getElem?_append_right (by omega), Nat.add_sub_cancel_left, List.getElem?_append_left hi, hci]
def CPos.enc (x : CPos) : Array Value := #[.int .i64 (x.p : Int), .pointer (some ⟨x.g, x.i * 5, none⟩)]

set_option maxHeartbeats 4000000 in
set_option maxRecDepth 1000000 in
theorem each1_any (n D MB bs : Nat) (v : Value) (bl : List BV) (hlen : (cellsOf bl).length ≤ 1099511627776) (I : Nat → World → Prop)
    (hIs : ∀ i W, I i W → Blk W bs [.pointer (some ⟨D, 0, none⟩)] 77 ∧ DocV W D v MB bl)
    (l : Nat) (J : Nat → World → Prop) (Jx : Code → Nat → World → Prop) (W : World) (hJI : ∀ s W, J s W → I s W)
    (hY : ∀ st (x : CPos) W1, J st W1 → (x.p = st ∧ x.at_ bl) → YieldAt Fence.wide (n - 1) Tryz.prog l x.enc W1 fun e W' => (e = .returned (.bool true) ∧ J (st + 1) W') ∨ (e = .returned (.bool false) ∧ ∃ c, Jx c (st + 1) W'))
    (h0 : J 0 W) :
    CallsIn Fence.wide n Tryz.prog 98 (#[.func (.yield l) #[] #[]] ++ #[.pointer (some ⟨bs, 0, none⟩)]) W fun e W' => (∃ v, e = .returned v) ∧ (J (cellsOf bl).length W' ∨ (∃ c st, Jx c st W')) := by
  obtain ⟨ks, kd⟩ := hIs _ _ (hJI _ _ h0)
  obtain ⟨va, vc, rfl, hvc, hvm⟩ := kd.form
  unfold maxLen at hvm
  have c0 : W.cell? ⟨bs, 0, none⟩ = some (.pointer (some ⟨D, 0, none⟩)) := by rw [ks.cell]; rfl
  have cd : W.cell? ⟨D, 0, none⟩ = some (.slice va bl.length vc) := kd.doc.cell 0
  clear ks kd
  refine callsIn_of_wp Tryz.func98 rfl trivial ?_ rfl
  simp only [Tryz.ntmps98, List.size_toArray, List.length_cons, List.length_nil, Nat.reduceAdd, Nat.reduceSub, Array.replicate_succ, Array.replicate_zero, List.push_toArray, List.append_toArray, List.nil_append, List.cons_append]
  gi_wp2
  gi_loopw [3, 5, 6, 14] (fun s3 s5 s6 s14 wr => ∃ k : Nat, s14 = .int .i64 k ∧ s3 = .int .i64 ((cellsOf (bl.take k)).length : Int) ∧ k ≤ bl.length ∧ J (cellsOf (bl.take k)).length wr) (fun s3 s5 s6 s14 wr => bl.length - (intOf s14).toNat)
  case atStart => exact ⟨0, rfl, rfl, Nat.zero_le _, h0⟩
  case round =>
    obtain ⟨k, rfl, rfl, hk, hJ0⟩ := hrel
    by_cases hlt : k < bl.length
    · obtain ⟨x, hx⟩ : ∃ x, bl[k]? = some x := ⟨_, List.getElem?_eq_getElem hlt⟩
      have hdx := (hIs _ _ (hJI _ _ hJ0)).2
      obtain ⟨g, rfl, ck⟩ := hdx.at_ hx
      have hbx := hdx.blk x (List.mem_of_getElem? hx)
      have b2 : wr.cell? ⟨x.p, 2, none⟩ = some x.v := by rw [hbx.b.cell]; rfl
      have hs1 := cellsOf_step hx
      have hs2 := cellsOf_succ hx
      have e1 : (cellsOf bl).length = (cellsOf (bl.take k)).length + (x.c.length + (cellsOf (bl.drop (k + 1))).length) := by rw [hs1]; simp
      have e2 : (cellsOf (bl.take (k + 1))).length = (cellsOf (bl.take k)).length + x.c.length := by rw [hs2]; simp
      obtain ⟨ax, cx, hv, hcx, hcm, hax⟩ : ∃ ax cx, x.v = .slice ax x.c.length cx ∧ x.c.length ≤ cx ∧ cx ≤ maxLen ∧ (0 < x.c.length → ∃ gx, ax = some ⟨gx, 0, none⟩) := by
        rcases ownsRow_blk hbx.o with ⟨h1, h2, _⟩ | ⟨gx, cx, _, h1, _, _, h2, h3, _⟩
        · exact ⟨none, 0, by rw [h1, h2], by omega, Nat.zero_le _, fun h => by omega⟩
        · exact ⟨_, cx, h1, h2, h3, fun _ => ⟨gx, rfl⟩⟩
      unfold maxLen at hcm
      rw [hv] at b2
      obtain ⟨P0, hP0⟩ : ∃ P0, P0 = (cellsOf (bl.take k)).length := ⟨_, rfl⟩
      obtain ⟨m, hm⟩ : ∃ m, m = x.c.length := ⟨_, rfl⟩
      rw [← hP0] at hJ0 e1 e2 ⊢
      rw [← hm] at b2 e1 e2 hcx hax
      have HV := Lib.hid hv
      have HX := Lib.hid hx
      have HP0 := Lib.hid hP0
      have HM := Lib.hid hm
      have hb1 : P0 + m ≤ 1099511627776 := by omega
      have E2 := Lib.hid e2
      clear hdx hbx hs1 hs2 e1 e2 hv hx hP0 hm
      gi_wp2_with fail
      gi_loopw [3, 6, 23] (fun s3 s6 s23 wx => ∃ i : Nat, s23 = .int .i64 i ∧ s3 = .int .i64 ((P0 + i : Nat) : Int) ∧ i ≤ m ∧ J (P0 + i) wx) (fun s3 s6 s23 wx => m - (intOf s23).toNat)
      case atStart => exact ⟨0, rfl, rfl, Nat.zero_le _, hJ0⟩
      case round =>
        obtain ⟨i, rfl, rfl, hi, hJ1⟩ := hrel
        by_cases hil : i < m
        · obtain ⟨gx, rfl⟩ := hax (by omega)
          have hd1 := (hIs _ _ (hJI _ _ hJ1)).2
          have c2 : wr.cell? ⟨x.p, 2, none⟩ = some (.slice (some ⟨gx, 0, none⟩) m cx) := by
            rw [(hd1.blk x (List.mem_of_getElem? HX.out)).b.cell, HM.out]
            exact congrArg some HV.out
          clear hd1
          obtain ⟨fn, tmps, assign, body, hy, hR⟩ := hY (P0 + i) ⟨P0 + i, gx, i⟩ wr hJ1 ⟨rfl, k, x, HX.out, by rw [HP0.out], by rw [← HM.out]; exact hil, by rw [HV.out]; rfl⟩
          unfold CPos.enc at hy
          dsimp only at hy
          rw [Int.natCast_add] at hy
          have hw : wrap64 ((P0 : Int) + (i : Int) + 1) = (P0 : Int) + (i : Int) + 1 := by unfold wrap64; omega
          gi_wp2_with fail
          refine ⟨fun h => (by cases h), ?_⟩
          refine hR.mono ?_
          rintro e W' (⟨rfl, hj⟩ | ⟨rfl, cc, hj⟩)
          · gi_wp2
            refine ⟨⟨i + 1, by simp, by rw [← Nat.add_assoc, Int.natCast_add, Int.natCast_add]; rfl, by omega, hj⟩, by simp [intOf]; omega⟩
          · gi_wp2
            refine bodyPost_ret (results_none rfl _ _ _) rfl ?_
            exact ⟨⟨_, rfl⟩, .inr ⟨cc, _, hj⟩⟩
        · obtain rfl : i = m := by omega
          gi_wp2_with fail
          rw [← E2.out] at hJ1
          refine ⟨⟨k + 1, by simp, by rw [E2.out], by omega, hJ1⟩, by simp [intOf]; omega⟩
    · obtain rfl : k = bl.length := by omega
      rw [List.take_length] at hJ0
      gi_wp2_with fail
      go_end0
      exact ⟨⟨_, rfl⟩, .inl hJ0⟩
end Go.Proofs.YtlidmajcdjlcnaaGreatDoor

namespace Go.Proofs.YtlidmajcdjlcnaaGreatDoor
open Go.RowKit Go.Shelf Go.Mine
open Classical

/-- A document lies among what was there; what is new is changed. -/
theorem DocV.new {w W W' : World} {D MB : Nat} {v : Value} {bl : List BV} (h0 : DocV w D v MB bl) (h : DocV W D v MB bl) (m : Mod (fun k => w.heap.size ≤ k) W W') : DocV W' D v MB bl :=
  h.mod m (fun k hk e => by have := h0.flt hk; have e' : w.heap.size ≤ k := e; omega)

/-- 'l = append(l, x)', l being a cell of one's own. -/
theorem appOne {W Y : World} {B L0 X n vc size bytes : Nat} {va : Option Addr} {e tl : TypeId} {xs cs : List Value} {i : TypeInfo} {z : Value} (hu : Tryz.prog.underlying tl = some (.slice e)) (hi : Tryz.prog.info? e = some i) (hz : i.zero = some z) (hs : i.size = size) (hb : i.bytes = bytes) (hzs : z.cells.size = size) (h0 : 0 < size)
    (ho : W.ownsRow B e size (.slice va n vc) n xs) (kl : Blk W L0 [.slice va n vc] tl) (hte : tl ≠ e) (mY : Mod none_ W Y) (kY : Blk Y X cs e) (hcs : cs.length = 1 * size) (h1 : ∀ u ∈ cs, u.oneCell' = true) (hn : (n + 1) * bytes ≤ 140737488355328) (hn2 : n + 1 ≤ maxLen) (hB : B ≤ W.heap.size) (hBL : B ≤ L0) :
    ∃ va' vc' w4, (appSem #[tl, tl] tl #[.slice va n vc, .slice (some ⟨X, 0, none⟩) 1 1]).run Tryz.prog Y = .ok (.slice va' (n + 1) vc') w4 ∧ Blk w4 L0 [.slice va n vc] tl ∧ Mod (fun k => B ≤ k) W w4 ∧ KeepsOthers W w4 ∧
      Blk (w4.setCell ⟨L0, 0, none⟩ (.slice va' (n + 1) vc')) L0 [.slice va' (n + 1) vc'] tl ∧ (w4.setCell ⟨L0, 0, none⟩ (.slice va' (n + 1) vc')).ownsRow B e size (.slice va' (n + 1) vc') (n + 1) (xs ++ cs) ∧
      KeepsOthers W (w4.setCell ⟨L0, 0, none⟩ (.slice va' (n + 1) vc')) ∧ Mod (fun k => B ≤ k) W (w4.setCell ⟨L0, 0, none⟩ (.slice va' (n + 1) vc')) ∧
      ∀ (b : Nat) (ds : List Value) (t : TypeId), b ≠ L0 → t ≠ e → Blk W b ds t → Blk (w4.setCell ⟨L0, 0, none⟩ (.slice va' (n + 1) vc')) b ds t := by
  have hoY := ownsRow_mod ho mY (fun _ _ e => e)
  have klY := kl.mod mY (fun e => e)
  obtain ⟨v', w4, hrun, hown, hgrow, _⟩ := run_append_own (P := Tryz.prog) Y B tl tl e i z size bytes hu hi hz hs hb hzs h0 (.slice va n vc) n xs hoY ⟨X, 0, none⟩ 1 1 cs hcs (World.news_of_block kY) h1 hn2 hn (Nat.le_trans hB mY.size)
  have hpos : 0 < n + 1 := Nat.succ_pos n
  obtain ⟨va', vc', rfl⟩ : ∃ va' vc', v' = .slice va' (n + 1) vc' := by
    rcases ownsRow_blk hown with ⟨_, h0, _⟩ | ⟨g, c', _, rfl, _⟩
    · omega
    · exact ⟨_, c', rfl⟩
  have mg : Mod (fun k => (Value.slice va n vc).ownBlock = some k) Y w4 := (Mod.refl _ Y).grown hgrow (fun k e _ => e)
  have lo : ∀ k, (Value.slice va n vc).ownBlock = some k → B ≤ k := fun k hk => (ho.lt k hk).1
  have m4 : Mod (fun k => B ≤ k) W w4 := (mY.mono (fun _ _ e => e.elim)).trans (mg.mono (fun k _ hk => lo k hk))
  have k4 := klY.mod mg (fun e => by
    obtain ⟨c, hk⟩ := ownsRow_type hoY e
    exact Blk.apart klY hk hte rfl)
  have ko4 : KeepsOthers W w4 := (keeps_none mY).trans (keeps_of_mod mg (fun k hk o ho' => by
    obtain ⟨c, hc⟩ := ownsRow_type hoY hk
    unfold Blk at hc
    rw [hc] at ho'; cases ho'; rfl))
  have mS : Mod (one L0) w4 (w4.setCell ⟨L0, 0, none⟩ (.slice va' (n + 1) vc')) := (Mod.refl (one L0) w4).setCell ⟨L0, 0, none⟩ (fun _ => rfl) _
  refine ⟨va', vc', w4, hrun, k4, m4, ko4, k4.set 0 _, ownsRow_mod hown mS (fun k hk e => ?_), ko4.trans (KeepsOthers.setCell _ _ _), m4.trans (mS.mono (fun k _ e => by have e' : k = L0 := e; omega)), fun b ds t hb ht k => ?_⟩
  · have e' : k = L0 := e
    subst e'
    obtain ⟨c, hc⟩ := ownsRow_type hown hk
    exact Blk.apart k4 hc hte rfl
  · have kY' := k.mod mY (fun e => e)
    refine (kY'.mod mg (fun e => ?_)).mod mS hb
    obtain ⟨c, hc⟩ := ownsRow_type hoY e
    exact Blk.apart kY' hc ht rfl
end Go.Proofs.YtlidmajcdjlcnaaGreatDoor

namespace Go.Proofs.YtlidmajcdjlcnaaGreatDoor
open Go.RowKit Go.Shelf Go.Mine
attribute [local go_sem] Oper.semAt_some
attribute [local go_sem ↓] app_fold

end Go.Proofs.YtlidmajcdjlcnaaGreatDoor

namespace Go.Proofs.YtlidmajcdjlcnaaGreatDoor
open Go.RowKit Go.Shelf Go.Mine
attribute [local go_sem] Oper.semAt_some
attribute [local go_sem ↓] app_fold

def clsI (w : World) (D MB : Nat) (v : Value) (bl : List BV) (st : Nat) (W : World) : Prop :=
  Mod none_ w W ∧ DocV W D v MB bl ∧ Blk W (w.heap.size + 1) [.pointer (some ⟨D, 0, none⟩)] 77 ∧ ∃ va n vc, Blk W w.heap.size [.slice va n vc] 22 ∧ W.ownsRow w.heap.size 47 5 (.slice va n vc) n (flat CellV.cs ((cellsOf bl).take st)) ∧ n = st

set_option maxHeartbeats 4000000 in
set_option maxRecDepth 1000000 in
theorem cells_any (w : World) (D MB : Nat) (v : Value) (bl : List BV) (h : DocV w D v MB bl) (hlen : (cellsOf bl).length ≤ 20000) :
    Calls Tryz.prog 35 #[.pointer (some ⟨D, 0, none⟩)] w fun e w' => (∃ va vc, e = .returned (.slice va (cellsOf bl).length vc) ∧ w'.ownsRow w.heap.size 47 5 (.slice va (cellsOf bl).length vc) (cellsOf bl).length (flat CellV.cs (cellsOf bl))) ∧ Mod none_ w w' := by
  have HDW := Lib.hid h
  refine (callsIn_wide (n := 5)).1 ?_
  refine callsIn_of_wp_marks Tryz.func35 rfl trivial ?_ rfl
  simp only [Tryz.ntmps35, List.size_toArray, List.length_cons, List.length_nil, Nat.reduceAdd, Nat.reduceSub, Array.replicate_succ, Array.replicate_zero, List.push_toArray, List.append_toArray, List.nil_append, List.cons_append]
  gi_wp2_with fail
  refine ⟨trivial, ?_⟩
  refine (callsIn_wide.2 (each_any D _)).mono ?_
  rintro e w2 ⟨rfl, rfl⟩
  gi_wp2_with fail
  obtain ⟨W0, hW0⟩ : ∃ W0, (w.alloc (.cells #[.slice none 0 0] 22)).alloc (.cells #[.pointer (some ⟨D, 0, none⟩)] 77) = W0 := ⟨_, rfl⟩
  have hz : W0.heap.size = w.heap.size + 2 := by rw [← hW0]; simp
  have hI0 : clsI w D MB v bl 0 W0 := by
    rw [← hW0]
    have b0 := Blk.new (w := w) (cs := [.slice none 0 0]) (t := 22)
    have b1 := Blk.new (w := w.alloc (.cells #[.slice none 0 0] 22)) (cs := [.pointer (some ⟨D, 0, none⟩)]) (t := 77)
    rw [World.size_alloc] at b1
    have m := ((Mod.refl none_ w).alloc (.cells #[.slice none 0 0] 22)).alloc (.cells #[.pointer (some ⟨D, 0, none⟩)] 77)
    exact ⟨m, h.grown m, b1, none, 0, 0, b0.mod ((Mod.refl none_ _).alloc _) (fun e => e), ⟨by simp [flat], .inl ⟨rfl, rfl⟩⟩, rfl⟩
  rw [hW0]
  clear hW0
  refine rangeFunc_law (w := W0) rfl (by decide) (gf := 98) (lb := #[.pointer (some ⟨w.heap.size + 1, 0, none⟩)]) rfl trivial (enters_of Tryz.func98 (by kernel_rfl) rfl)
    CPos.enc (fun _ => rfl) (clsI w D MB v bl) (fun _ _ _ => False) (fun st _ => st + 1) (fun st x => x.p = st ∧ x.at_ bl) (fun st => st = (cellsOf bl).length) 0 ?hI ?hIx hI0
    (fun x => { tmps := #[.pointer (some ⟨D, 0, none⟩), undef, .slice none 0 0, .pointer (some ⟨w.heap.size, 0, none⟩), undef, .pointer (some ⟨x.g, x.i * 5, none⟩), .pointer (some ⟨D, 0, none⟩), .func (.func 98) #[] #[.pointer (some ⟨w.heap.size + 1, 0, none⟩)], .int .i64 (x.p : Int), .pointer (some ⟨x.g, x.i * 5, none⟩), undef, undef, undef, undef, undef, undef, undef], defers := [] }) ?hiter ?assign ?body ?done ?stop
  case hI =>
    rintro st W W' ⟨m0, hd, k1, va, n, vc, k0, ho, hn⟩ m
    refine ⟨m0.transOwn m (by omega), hd.own m, k1.own m, va, n, vc, k0.own m, ownsRow_mod ho m (fun k hk s => ?_), hn⟩
    obtain ⟨cs, hc⟩ := ownsRow_type ho hk
    have := s.2 _ hc; cases this
  case hIx => rintro c st W W' h m; exact h
  case hiter =>
    intro l J Jx W hJI hJ hY h0
    refine (each1_any (5 - 1) D MB _ v bl (by omega) (clsI w D MB v bl) (fun i W h => ⟨h.2.2.1, h.2.1⟩) l J Jx W hJI hY h0).mono ?_
    rintro e W' ⟨h1, h2 | h2⟩
    · exact ⟨h1, .inl ⟨_, rfl, h2⟩⟩
    · exact ⟨h1, .inr h2⟩
  case assign =>
    intro l x W K hK
    unfold CPos.enc
    gi_wp2
    exact hK
  case body =>
    rintro l st x W ⟨m0, hd, k1, va, n, vc, k0, ho, hn⟩ ⟨rfl, hx⟩
    obtain ⟨c, hc, hcs⟩ := CPos.get hd hx
    have hlt := (List.getElem?_eq_some_iff.1 hc).1
    have htk : (cellsOf bl).take (x.p + 1) = (cellsOf bl).take x.p ++ [c] := by
      rw [List.take_succ_eq_append_getElem hlt, (List.getElem?_eq_some_iff.1 hc).2]
    have x0 : W.cell? ⟨x.g, x.i * 5, none⟩ = some (.int .i64 c.site) := hcs 0 (by omega)
    have x1 : W.cell? ⟨x.g, x.i * 5 + 1, none⟩ = some (.int .i64 c.seq) := hcs 1 (by omega)
    have x2 : W.cell? ⟨x.g, x.i * 5 + 2, none⟩ = some (.int .i64 c.off) := hcs 2 (by omega)
    have x3 : W.cell? ⟨x.g, x.i * 5 + 3, none⟩ = some (.int .i32 c.r) := hcs 3 (by omega)
    have x4 : W.cell? ⟨x.g, x.i * 5 + 4, none⟩ = some (.bool c.gone) := hcs 4 (by omega)
    have hxb : x.g < W.heap.size := block_lt_of_cell x3
    subst hn
    have hYM : Mod none_ W ((W.alloc (.cells c.cs.toArray 47)).drew) := ((Mod.refl none_ W).alloc _).drew
    obtain ⟨i0, hi0, hz0, hz1, hz2⟩ := info_parts infoCell
    obtain ⟨va', vc', w4, hrun, k4, m4, ko4, kL, hoL, koL, mL, prL⟩ := appOne (X := W.heap.size) (e := 47) (tl := 22) Tryz.underlying22 hi0 hz0 hz1 hz2 rfl (by decide) ho k0 (by decide) hYM (cs := c.cs) (Blk.new (w := W) (cs := c.cs) (t := 47)).drew rfl (fun u hu => by
        simp only [CellV.cs, List.mem_cons, List.not_mem_nil, or_false] at hu
        rcases hu with rfl | rfl | rfl | rfl | rfl <;> rfl) (by omega) (by unfold maxLen; omega) m0.size (Nat.le_refl _)
    have c0 : W.cell? ⟨w.heap.size, 0, none⟩ = some (.slice va x.p vc) := k0.cell 0
    have hwl : w.heap.size < W.heap.size := k0.lt
    have c4 : w4.cell? ⟨w.heap.size, 0, none⟩ = some (.slice va x.p vc) := k4.cell 0
    have f4 := k4.frozen 0
    have mw : Mod none_ w (w4.setCell ⟨w.heap.size, 0, none⟩ (.slice va' (x.p + 1) vc')) := m0.transIn mL (fun b hb e => by have e' : w.heap.size ≤ b := e; omega)
    have hfl : flat CellV.cs ((cellsOf bl).take (x.p + 1)) = flat CellV.cs ((cellsOf bl).take x.p) ++ c.cs := by rw [htk, flat_append]; simp [flat]
    have FIN := Lib.hid (show KeepsOthers W (w4.setCell ⟨w.heap.size, 0, none⟩ (.slice va' (x.p + 1) vc')) ∧ clsI w D MB v bl (x.p + 1) (w4.setCell ⟨w.heap.size, 0, none⟩ (.slice va' (x.p + 1) vc')) from
      ⟨koL, mw, HDW.out.new hd mL, prL _ _ _ (by omega) (by decide) k1, va', x.p + 1, vc', kL, by rw [hfl]; exact hoL, rfl⟩)
    have hxg : x.g < w.heap.size := by
      obtain ⟨k, b, hk, _, _, hgb⟩ := hx
      exact HDW.out.flt (.inr (.inr ⟨b, List.mem_of_getElem? hk, .inr hgb⟩))
    obtain ⟨s, hs⟩ : ∃ s, s = c.site := ⟨_, rfl⟩
    obtain ⟨q, hq⟩ : ∃ q, q = c.seq := ⟨_, rfl⟩
    obtain ⟨f, hf⟩ : ∃ f, f = c.off := ⟨_, rfl⟩
    obtain ⟨r, hr⟩ : ∃ r, r = c.r := ⟨_, rfl⟩
    obtain ⟨gn, hgn⟩ : ∃ gn, gn = c.gone := ⟨_, rfl⟩
    have hcs' : c.cs = [.int .i64 s, .int .i64 q, .int .i64 f, .int .i32 r, .bool gn] := by rw [hs, hq, hf, hr, hgn]
    rw [hcs'] at hYM hrun
    rw [← hs] at x0
    rw [← hq] at x1
    rw [← hf] at x2
    rw [← hr] at x3
    rw [← hgn] at x4
    have mT : ∀ {T : Nat → Prop} {w' : World}, Mod T W w' → ¬ T x.g → w'.cell? ⟨x.g, x.i * 5, none⟩ = some (.int .i64 s) ∧ w'.cell? ⟨x.g, x.i * 5 + 1, none⟩ = some (.int .i64 q) ∧ w'.cell? ⟨x.g, x.i * 5 + 2, none⟩ = some (.int .i64 f) ∧ w'.cell? ⟨x.g, x.i * 5 + 3, none⟩ = some (.int .i32 r) ∧ w'.cell? ⟨x.g, x.i * 5 + 4, none⟩ = some (.bool gn) :=
      fun m hT => ⟨m.cell hT x0, m.cell hT x1, m.cell hT x2, m.cell hT x3, m.cell hT x4⟩
    have D0 := Lib.hid (mT hYM (fun e => e))
    have D4 := Lib.hid (mT m4 (fun e => by have e' : w.heap.size ≤ x.g := e; omega))
    have D5 := Lib.hid (mT mL (fun e => by have e' : w.heap.size ≤ x.g := e; omega))
    clear hI0 hd k1 k0 ho hYM hi0 hz0 hz1 hz2 k4 m4 ko4 kL hoL koL mL prL mw hcs hx hc hlt htk m0 mT hfl hs hq hf hr hgn hcs'
    gi_wp2_with fail
    refine round_held (S := fun w' => w'.cell? ⟨x.g, x.i * 5, none⟩ = some (.int .i64 s) ∧ w'.cell? ⟨x.g, x.i * 5 + 1, none⟩ = some (.int .i64 q) ∧ w'.cell? ⟨x.g, x.i * 5 + 2, none⟩ = some (.int .i64 f) ∧ w'.cell? ⟨x.g, x.i * 5 + 3, none⟩ = some (.int .i32 r) ∧ w'.cell? ⟨x.g, x.i * 5 + 4, none⟩ = some (.bool gn)) (by kernel_rfl) (by kernel_rfl) (fun ⟨_, _, h⟩ => h) ⟨x0, x1, x2, x3, x4⟩ (fun hS => ?_)
    refine wpAnyH_take (i := 1) (v := .pointer (some ⟨x.g, x.i * 5, none⟩)) rfl (by kernel_rfl) (by kernel_rfl) (by kernel_rfl) (fun _ _ _ h => h) (Or.inl ⟨by rfl, ?_⟩) hS ?_
    · rintro w' _; go_simp
    try simp only [Act.put, List.setIfInBounds_toArray]
    refine wpAnyH_take (i := 2) (v := .pointer (some ⟨x.g, x.i * 5, none⟩)) rfl (by kernel_rfl) (by kernel_rfl) (by kernel_rfl) (fun _ _ _ h => h) (Or.inl ⟨by rfl, ?_⟩) hS ?_
    · rintro w' _; go_simp
    try simp only [Act.put]
    refine wpAnyH_take (i := 3) (v := .agg #[.int .i64 s, .int .i64 q, .int .i64 f, .int .i32 r, .bool gn]) rfl (by kernel_rfl) (by kernel_rfl) (by kernel_rfl) (fun _ _ _ h => h) (Or.inl ⟨by rfl, ?_⟩) hS ?_
    · rintro w' ⟨q0, q1, q2, q3, q4⟩; go_simp
    try simp only [Act.put]
    refine wpAnyH_ready (rs := [0, 4]) (by kernel_rfl) (by simp) (AllReadyH.cons rfl (fun K hK => ?_) <| AllReadyH.cons rfl (fun K hK => ?_) <| AllReadyH.nil)
    · go_simp
      refine hK.out _ _ hS (fun hS => ?_)
      clear hK K
      try simp only [Act.put, List.setIfInBounds_toArray, List.set_cons_zero, List.set_cons_succ]
      refine wpAnyH_ready (rs := [4]) (by kernel_rfl) (by simp) (AllReadyH.cons rfl (fun K hK => ?_) <| AllReadyH.nil)
      go_simp
      refine hK.out _ _ D0.out (fun hS => ?_)
      clear hK K
      try simp only [Act.put, List.setIfInBounds_toArray, List.set_cons_zero, List.set_cons_succ]
      refine wpAnyH_ready (rs := [5]) (by kernel_rfl) (by simp) (AllReadyH.cons rfl (fun K hK => ?_) <| AllReadyH.nil)
      go_simp
      refine hK.out _ _ D4.out (fun hS => ?_)
      clear hK K
      try simp only [Act.put, List.setIfInBounds_toArray, List.set_cons_zero, List.set_cons_succ]
      refine wpAnyH_ready (rs := [6]) (by kernel_rfl) (by simp) (AllReadyH.cons rfl (fun K hK => ?_) <| AllReadyH.nil)
      go_simp
      refine hK.out _ _ D5.out (fun hS => ?_)
      clear hK K
      try simp only [Act.put, List.setIfInBounds_toArray, List.set_cons_zero, List.set_cons_succ]
      refine wpAnyH_done (by kernel_rfl) ?_ _
      exact FIN.out
    · go_simp
      refine hK.out _ _ D0.out (fun hS => ?_)
      clear hK K
      try simp only [Act.put, List.setIfInBounds_toArray, List.set_cons_zero, List.set_cons_succ]
      refine wpAnyH_ready (rs := [0]) (by kernel_rfl) (by simp) (AllReadyH.cons rfl (fun K hK => ?_) <| AllReadyH.nil)
      go_simp
      refine hK.out _ _ hS (fun hS => ?_)
      clear hK K
      try simp only [Act.put, List.setIfInBounds_toArray, List.set_cons_zero, List.set_cons_succ]
      refine wpAnyH_ready (rs := [5]) (by kernel_rfl) (by simp) (AllReadyH.cons rfl (fun K hK => ?_) <| AllReadyH.nil)
      go_simp
      refine hK.out _ _ D4.out (fun hS => ?_)
      clear hK K
      try simp only [Act.put, List.setIfInBounds_toArray, List.set_cons_zero, List.set_cons_succ]
      refine wpAnyH_ready (rs := [6]) (by kernel_rfl) (by simp) (AllReadyH.cons rfl (fun K hK => ?_) <| AllReadyH.nil)
      go_simp
      refine hK.out _ _ D5.out (fun hS => ?_)
      clear hK K
      try simp only [Act.put, List.setIfInBounds_toArray, List.set_cons_zero, List.set_cons_succ]
      refine wpAnyH_done (by kernel_rfl) ?_ _
      exact FIN.out
  case done =>
    rintro Df st W rfl ⟨m0, hd, k1, va, n, vc, k0, ho, hn⟩ hDf hlt
    rw [List.take_length] at ho
    have HN := Lib.hid hn
    have c0 := k0.cell 0
    simp only [List.getElem?_cons_zero] at c0
    have mP := loopOwn_put (B := W0.heap.size) (.deferred none) hlt hDf rfl
    have M1 := Lib.hid (m0.transOwn mP (by omega))
    have O1 := Lib.hid (ownsRow_mod ho mP (fun k hk s => by
      obtain ⟨cs, hc⟩ := ownsRow_type ho hk
      have := s.2 _ hc; cases this))
    clear mP m0 hd k1 k0 ho hn
    gi_wp2_with fail
    refine ⟨by simp, .inl ⟨_, _, rfl, run_takeDeferred hDf, ?_⟩⟩
    refine ⟨_, results_tmp rfl _ _ _, ?_, M1.out⟩
    rw [← HN.out]
    exact ⟨va, vc, rfl, O1.out⟩
  case stop => rintro Dd c st W h; exact h.elim
end Go.Proofs.YtlidmajcdjlcnaaGreatDoor

namespace Go.Proofs.YtlidmajcdjlcnaaGreatDoor
open Go.RowKit Go.Shelf Go.Mine
open Classical

set_option maxHeartbeats 4000000 in
set_option maxRecDepth 1000000 in
theorem histReplays_any (w : World) (h : HistV) (B : List CellV) (V : List Int) (E : List EntV) (h0 : HistIs0 w h B V E) (k : Int) (hk : -9223372036854775808 ≤ k ∧ k ≤ 9223372036854775807) :
    Calls Tryz.prog 7 #[h.v, .int .i64 k] w fun e w' => e = .returned (.bool true) ∧ Mine.Mod none_ w w' := by
  have HG := Lib.hid (fun W (m : Mine.Mod none_ w W) => rgreatH_any W h E (h0.e.grown m))
  have HOF := Lib.hid (fun W => of_hist W h)
  obtain ⟨G, hG⟩ : ∃ G, G = bigHist h E := ⟨_, rfl⟩
  rw [← hG] at HG
  have HSM := Lib.hid (fun (e : G = false) => h0.small (hG ▸ e))
  have HTX := Lib.hid (fun (e : G = false) => show ∀ y ∈ E, y.o.text.size ≤ 1099511627776 from fun y hy => by
    have hb : bigHist h E = false := hG ▸ e
    unfold bigHist at hb
    simp only [Bool.or_eq_false_iff, decide_eq_false_iff_not] at hb
    have h4 := hb.2
    rw [List.any_eq_false] at h4
    have hx0 : bigEnt y = false := by simpa using h4 y hy
    unfold bigEnt bigOp at hx0
    simp only [Bool.or_eq_false_iff, decide_eq_false_iff_not] at hx0
    omega)
  obtain ⟨R, hR⟩ : ∃ R, R = histOk h B V E := ⟨_, rfl⟩
  have HR := Lib.hid hR
  clear hG h0 hR
  obtain ⟨xba, xbl, xbc, xva, xvl, xvc, xfr, xnum, xla, xll, xlc⟩ := h
  obtain ⟨W0, hW0⟩ : ∃ W0, w.alloc (.cells #[.slice xba xbl xbc, .slice xva xvl xvc, .int .i64 xfr, .int .i64 xnum, .slice xla xll xlc] 26) = W0 := ⟨_, rfl⟩
  have m0 : Mine.Mod none_ w W0 := by rw [← hW0]; exact (Mine.Mod.refl none_ w).alloc _
  have k0 : Blk W0 (w.heap.size) [.slice xba xbl xbc, .slice xva xvl xvc, .int .i64 xfr, .int .i64 xnum, .slice xla xll xlc] 26 := by
    have hb := Blk.new (w := w) (cs := [.slice xba xbl xbc, .slice xva xvl xvc, .int .i64 xfr, .int .i64 xnum, .slice xla xll xlc]) (t := 26)
    rw [← hW0]
    exact hb.mod (Mine.Mod.refl none_ _) (fun e => e)
  have hs0 : W0.heap.size = w.heap.size + 1 := by rw [← hW0]; simp only [World.size_alloc]
  have M0 := Lib.hid m0
  have A0 := Lib.hid k0
  have HAL := Lib.hid (alive_any W0)
  clear m0 k0 hs0
  go_enter Tryz.func7, Tryz.ntmps7
  go_upto_region 1 with fail
  clear hW0
  go_wp2_with fail
  refine HAL.out.mono ?_
  rintro e w1 ⟨rfl, m1⟩
  have M1 := Lib.hid (M0.out.trans m1)
  have A1 := Lib.hid (A0.out.mod m1 (fun e => e))
  have HM := Lib.hid (HG.out w1 M1.out)
  have a0 := A1.out.cell 0
  have a1 := A1.out.cell 1
  have a2 := A1.out.cell 2
  have a3 := A1.out.cell 3
  have a4 := A1.out.cell 4
  simp only [List.getElem?_cons_zero, List.getElem?_cons_succ] at a0 a1 a2 a3 a4
  clear m1 HAL HG
  go_wp2_with fail
  refine HM.out.mono ?_
  rintro e w2 ⟨rfl, m2⟩
  have M2 := Lib.hid (M1.out.trans m2)
  have A2 := Lib.hid (A1.out.mod m2 (fun e => e))
  clear m2 a0 a1 a2 a3 a4 HM
  cases G
  case true =>
    go_wp2_with fail
    go_ret
    exact ⟨rfl, M2.out⟩
  have HS := Lib.hid (HSM.out (by first | rfl | trivial))
  have HTT := Lib.hid (HTX.out (by first | rfl | trivial))
  have hbl := HS.out.2.1
  have hvl := HS.out.2.2.1
  have hll := HS.out.2.2.2.1
  have HI := Lib.hid HS.out.1
  have a0 := A2.out.cell 0
  have a1 := A2.out.cell 1
  have a2 := A2.out.cell 2
  have a3 := A2.out.cell 3
  have a4 := A2.out.cell 4
  simp only [List.getElem?_cons_zero, List.getElem?_cons_succ] at a0 a1 a2 a3 a4
  clear HSM HTX
  have HM := Lib.hid (HOF.out w2)
  go_wp2_with fail
  refine HM.out.mono ?_
  rintro e w3 ⟨rfl, m3⟩
  try dsimp only [HistV.v]
  have M3 := Lib.hid (M2.out.trans m3)
  have A3 := Lib.hid (A2.out.mod m3 (fun e => e))
  clear m3 a0 a1 a2 a3 a4 HM
  have HM := Lib.hid (replay_any w3 ⟨xba, xbl, xbc, xva, xvl, xvc, xfr, xnum, xla, xll, xlc⟩ k B V E (HI.out.grown M3.out) (by dsimp only; omega) HTT.out hk)
  rw [← HR.out] at HM
  have HMAY := Lib.hid (show ∀ W, Mine.Mod none_ w W → Calls Tryz.prog 18 #[.agg #[.slice xba xbl xbc, .slice xva xvl xvc, .int .i64 xfr, .int .i64 xnum, .slice xla xll xlc]] W fun e w' => e = .returned (.bool R) ∧ Mine.Mod none_ W w' from fun W m => by rw [HR.out]; exact rhmay_any W ⟨xba, xbl, xbc, xva, xvl, xvc, xfr, xnum, xla, xll, xlc⟩ B V E (HI.out.grown m) (by dsimp only; omega))
  go_wp2_with fail
  refine HM.out.mono ?_
  rintro e w4 ⟨ha, hb, hc⟩
  clear HM
  cases R
  case false =>
    obtain ⟨rfl, m4⟩ := ha (by first | rfl | trivial)
    have M4 := Lib.hid (M3.out.trans m4)
    have A4 := Lib.hid (A3.out.mod m4 (fun e => e))
    clear ha hb hc m4
    have a0 := A4.out.cell 0
    have a1 := A4.out.cell 1
    have a2 := A4.out.cell 2
    have a3 := A4.out.cell 3
    have a4 := A4.out.cell 4
    simp only [List.getElem?_cons_zero, List.getElem?_cons_succ] at a0 a1 a2 a3 a4
    go_wp2_with fail
    refine (HMAY.out w4 M4.out).mono ?_
    rintro e w5 ⟨rfl, m5⟩
    have M5 := Lib.hid (M4.out.trans m5)
    clear m5 a0 a1 a2 a3 a4
    go_wp2_with fail
    go_ret
    exact ⟨rfl, M5.out⟩
  by_cases hr : k < 0 ∨ (xll : Int) < k
  · obtain ⟨rfl, m4⟩ := hb (by first | rfl | trivial) hr
    have M4 := Lib.hid (M3.out.trans m4)
    have A4 := Lib.hid (A3.out.mod m4 (fun e => e))
    clear ha hb hc m4
    have a0 := A4.out.cell 0
    have a1 := A4.out.cell 1
    have a2 := A4.out.cell 2
    have a3 := A4.out.cell 3
    have a4 := A4.out.cell 4
    simp only [List.getElem?_cons_zero, List.getElem?_cons_succ] at a0 a1 a2 a3 a4
    go_wp2_with fail
    refine (HMAY.out w4 M4.out).mono ?_
    rintro e w5 ⟨rfl, m5⟩
    have M5 := Lib.hid (M4.out.trans m5)
    have A5 := Lib.hid (A4.out.mod m5 (fun e => e))
    clear m5 a0 a1 a2 a3 a4
    have a4 := A5.out.cell 4
    simp only [List.getElem?_cons_zero, List.getElem?_cons_succ] at a4
    by_cases hk0 : k < 0
    · have hd : decide (k < 0) = true := by simpa using hk0
      clear hk0 hr
      go_wp2_with fail
      go_ret
      exact ⟨rfl, M5.out⟩
    · have hd : decide (k < 0) = false := by simpa using hk0
      have hd2 : decide ((xll : Int) < k) = true := by simp; omega
      clear hk0 hr
      go_wp2_with fail
      go_ret
      exact ⟨rfl, M5.out⟩
  have hk0 : 0 ≤ k := by omega
  have hk1 : k ≤ (xll : Int) := by omega
  obtain ⟨D, Ex, rfl, hf⟩ := hc (by first | rfl | trivial) hk0 hk1
  obtain ⟨kk, hkk⟩ : ∃ kk : Nat, k = (kk : Int) := ⟨k.toNat, by omega⟩
  subst hkk
  rw [Int.toNat_natCast] at hf
  have HF := Lib.hid hf
  have m4 := hf.m
  have M4 := Lib.hid (M3.out.trans m4)
  have A4 := Lib.hid (A3.out.mod m4 (fun e => e))
  clear ha hb hc m4 hf hr
  have a0 := A4.out.cell 0
  have a1 := A4.out.cell 1
  have a2 := A4.out.cell 2
  have a3 := A4.out.cell 3
  have a4 := A4.out.cell 4
  simp only [List.getElem?_cons_zero, List.getElem?_cons_succ] at a0 a1 a2 a3 a4
  go_wp2_with fail
  refine (HMAY.out w4 M4.out).mono ?_
  rintro e w5 ⟨rfl, m5⟩
  have M5 := Lib.hid (M4.out.trans m5)
  have A5 := Lib.hid (A4.out.mod m5 (fun e => e))
  have HF5 := Lib.hid (HF.out.grown m5)
  clear m5 a0 a1 a2 a3 a4 HF
  have a4 := A5.out.cell 4
  simp only [List.getElem?_cons_zero, List.getElem?_cons_succ] at a4
  have hd : decide ((kk : Int) < 0) = false := by simp
  have hd2 : decide ((xll : Int) < (kk : Int)) = false := by simp; omega
  go_upto_region 10 with fail
  clear a4 hd hd2
  have f0 : w5.cell? ⟨w.heap.size, 0, none⟩ = some (.slice xba xbl xbc) := by rw [A5.out.cell]; rfl
  have f1 : w5.cell? ⟨w.heap.size, 1, none⟩ = some (.slice xva xvl xvc) := by rw [A5.out.cell]; rfl
  have f2 : w5.cell? ⟨w.heap.size, 2, none⟩ = some (.int .i64 xfr) := by rw [A5.out.cell]; rfl
  have f3 : w5.cell? ⟨w.heap.size, 3, none⟩ = some (.int .i64 xnum) := by rw [A5.out.cell]; rfl
  have f4 : w5.cell? ⟨w.heap.size, 4, none⟩ = some (.slice xla xll xlc) := by rw [A5.out.cell]; rfl
  have mD := Mine.Mod.drew (Mine.Mod.refl none_ w5)
  have M6 := Lib.hid (M5.out.trans mD)
  have A6 := Lib.hid (A5.out.mod mD (fun e => e))
  have HF6 := Lib.hid (HF5.out.grown mD)
  clear mD HF5
  refine wp_region_held_drew (S := fun w' => w'.cell? ⟨w.heap.size, 0, none⟩ = some (.slice xba xbl xbc) ∧ w'.cell? ⟨w.heap.size, 1, none⟩ = some (.slice xva xvl xvc) ∧ w'.cell? ⟨w.heap.size, 2, none⟩ = some (.int .i64 xfr) ∧ w'.cell? ⟨w.heap.size, 3, none⟩ = some (.int .i64 xnum) ∧ w'.cell? ⟨w.heap.size, 4, none⟩ = some (.slice xla xll xlc)) (by kernel_rfl) ⟨f0, f1, f2, f3, f4⟩ (fun hS => ?_)
  clear f0 f1 f2 f3 f4
  refine wpAnyH_take (i := 0) (v := .int .i64 0) rfl (by kernel_rfl) (by kernel_rfl) (by kernel_rfl) (fun _ _ _ h => h) (Or.inl ⟨by kernel_rfl, ?_⟩) hS ?_
  · rintro w' ⟨q0, q1, q2, q3, q4⟩; go_simp
  try simp only [Act.put, List.setIfInBounds_toArray, List.set_cons_zero, List.set_cons_succ]
  refine wpAnyH_take (i := 1) (v := .bool true) rfl (by kernel_rfl) (by kernel_rfl) (by kernel_rfl) (fun _ _ _ h => h) (Or.inl ⟨by kernel_rfl, ?_⟩) hS ?_
  · rintro w' ⟨q0, q1, q2, q3, q4⟩; go_simp
  try simp only [Act.put, List.setIfInBounds_toArray, List.set_cons_zero, List.set_cons_succ]
  refine wpAnyH_take (i := 2) (v := .bool true) rfl (by kernel_rfl) (by kernel_rfl) (by kernel_rfl) (fun _ _ _ h => h) (Or.inl ⟨by kernel_rfl, ?_⟩) hS ?_
  · rintro w' ⟨q0, q1, q2, q3, q4⟩; go_simp
  try simp only [Act.put, List.setIfInBounds_toArray, List.set_cons_zero, List.set_cons_succ]
  refine wpAnyH_take (i := 3) (v := .pointer (some ⟨D, 0, none⟩)) rfl (by kernel_rfl) (by kernel_rfl) (by kernel_rfl) (fun _ _ _ h => h) (Or.inl ⟨by kernel_rfl, ?_⟩) hS ?_
  · rintro w' ⟨q0, q1, q2, q3, q4⟩; go_simp
  try simp only [Act.put, List.setIfInBounds_toArray, List.set_cons_zero, List.set_cons_succ]
  refine wpAnyH_take (i := 4) (v := .bool true) rfl (by kernel_rfl) (by kernel_rfl) (by kernel_rfl) (fun _ _ _ h => h) (Or.inl ⟨by kernel_rfl, ?_⟩) hS ?_
  · rintro w' ⟨q0, q1, q2, q3, q4⟩; go_simp
  try simp only [Act.put, List.setIfInBounds_toArray, List.set_cons_zero, List.set_cons_succ]
  refine wpAnyH_take (i := 5) (v := .bool true) rfl (by kernel_rfl) (by kernel_rfl) (by kernel_rfl) (fun _ _ _ h => h) (Or.inl ⟨by kernel_rfl, ?_⟩) hS ?_
  · rintro w' ⟨q0, q1, q2, q3, q4⟩; go_simp
  try simp only [Act.put, List.setIfInBounds_toArray, List.set_cons_zero, List.set_cons_succ]
  refine wpAnyH_take (i := 6) (v := .bool true) rfl (by kernel_rfl) (by kernel_rfl) (by kernel_rfl) (fun _ _ _ h => h) (Or.inl ⟨by kernel_rfl, ?_⟩) hS ?_
  · rintro w' ⟨q0, q1, q2, q3, q4⟩; go_simp
  try simp only [Act.put, List.setIfInBounds_toArray, List.set_cons_zero, List.set_cons_succ]
  refine wpAnyH_take (i := 7) (v := .pointer (some ⟨D, 0, none⟩)) rfl (by kernel_rfl) (by kernel_rfl) (by kernel_rfl) (fun _ _ _ h => h) (Or.inl ⟨by kernel_rfl, ?_⟩) hS ?_
  · rintro w' ⟨q0, q1, q2, q3, q4⟩; go_simp
  try simp only [Act.put, List.setIfInBounds_toArray, List.set_cons_zero, List.set_cons_succ]
  refine wpAnyH_take (i := 9) (v := .agg #[.slice xba xbl xbc, .slice xva xvl xvc, .int .i64 xfr, .int .i64 xnum, .slice xla xll xlc]) rfl (by kernel_rfl) (by kernel_rfl) (by kernel_rfl) (fun _ _ _ h => h) (Or.inl ⟨by kernel_rfl, ?_⟩) hS ?_
  · rintro w' ⟨q0, q1, q2, q3, q4⟩; go_simp
  try simp only [Act.put, List.setIfInBounds_toArray, List.set_cons_zero, List.set_cons_succ]
  refine wpAnyH_take (i := 10) (v := .int .i64 (kk : Int)) rfl (by kernel_rfl) (by kernel_rfl) (by kernel_rfl) (fun _ _ _ h => h) (Or.inl ⟨by kernel_rfl, ?_⟩) hS ?_
  · rintro w' ⟨q0, q1, q2, q3, q4⟩; go_simp
  try simp only [Act.put, List.setIfInBounds_toArray, List.set_cons_zero, List.set_cons_succ]
  obtain ⟨S, ⟨⟨v, MB, bl, hv, -, hcl, -⟩⟩, -⟩ := HF6.out.doc
  have HCL := Lib.hid HF6.out.cl
  have HV := Lib.hid hv
  have HCE := Lib.hid (show cellsOf bl = repL B (E.take kk) from hcl)
  have HCS := Lib.hid (cells_any w5.drew D MB v bl HV.out (by rw [HCE.out]; exact HCL.out.big))
  rw [HCE.out] at HCS
  obtain ⟨LL, hLL⟩ : ∃ LL, LL = repL B (E.take kk) := ⟨_, rfl⟩
  rw [← hLL] at HCS HCL
  obtain ⟨nl, hnl⟩ : ∃ nl, nl = LL.length := ⟨_, rfl⟩
  rw [← hnl] at HCS
  have HLE := Lib.hid hLL
  have HNL := Lib.hid hnl
  clear hv hcl hLL hnl
  refine wpAnyH_ready (rs := [8]) (by kernel_rfl) (by simp) (AllReadyH.cons rfl (fun J hJ => ?_) <| AllReadyH.nil)
  rw [if_pos (by kernel_rfl)]
  go_simp
  refine (HCS.out).mono ?_
  rintro e w7 ⟨⟨va, vc, rfl, ho⟩, m7⟩
  have M7 := Lib.hid (M6.out.trans m7)
  have A7 := Lib.hid (A6.out.mod m7 (fun e => e))
  have HC7 := Lib.hid (own_cells ho HCL.out.ok)
  clear ho
  refine hJ.out _ _ ⟨by rw [A7.out.cell]; rfl, by rw [A7.out.cell]; rfl, by rw [A7.out.cell]; rfl, by rw [A7.out.cell]; rfl, by rw [A7.out.cell]; rfl⟩ (fun hS => ?_)
  clear hJ J m7
  try simp only [Act.put, List.setIfInBounds_toArray, List.set_cons_zero, List.set_cons_succ]
  refine wpAnyH_ready (rs := [11]) (by kernel_rfl) (by simp) (AllReadyH.cons rfl (fun J hJ => ?_) <| AllReadyH.nil)
  rw [if_pos (by kernel_rfl)]
  go_simp
  refine (rreplay_any _ ⟨xba, xbl, xbc, xva, xvl, xvc, xfr, xnum, xla, xll, xlc⟩ kk B V E (HI.out.grown M7.out) (by dsimp only; omega) HTT.out HR.out.symm (by dsimp only; omega)).mono ?_
  rintro e w8 ⟨⟨va2, n2, vc2, rfl, hc2⟩, m8⟩
  have M8 := Lib.hid (M7.out.trans m8)
  have A8 := Lib.hid (A7.out.mod m8 (fun e => e))
  have HC8 := Lib.hid (HC7.out.grown m8)
  rw [← HLE.out] at hc2
  have hn2 : nl = n2 := by rw [HNL.out, hc2.n]
  subst hn2
  have HD8 := Lib.hid hc2
  clear hc2
  refine hJ.out _ _ ⟨by rw [A8.out.cell]; rfl, by rw [A8.out.cell]; rfl, by rw [A8.out.cell]; rfl, by rw [A8.out.cell]; rfl, by rw [A8.out.cell]; rfl⟩ (fun hS => ?_)
  clear hJ J m8
  try simp only [Act.put, List.setIfInBounds_toArray, List.set_cons_zero, List.set_cons_succ]
  refine wpAnyH_ready (rs := [12]) (by kernel_rfl) (by simp) (AllReadyH.cons rfl (fun J hJ => ?_) <| AllReadyH.nil)
  rw [if_pos (by kernel_rfl)]
  go_simp
  refine (same_cells _ va va2 nl vc vc2 LL HC8.out HD8.out).mono ?_
  rintro e w9 ⟨rfl, m9⟩
  have M9 := Lib.hid (M8.out.trans m9)
  have A9 := Lib.hid (A8.out.mod m9 (fun e => e))
  refine hJ.out _ _ ⟨by rw [A9.out.cell]; rfl, by rw [A9.out.cell]; rfl, by rw [A9.out.cell]; rfl, by rw [A9.out.cell]; rfl, by rw [A9.out.cell]; rfl⟩ (fun hS => ?_)
  clear hJ J m9
  try simp only [Act.put, List.setIfInBounds_toArray, List.set_cons_zero, List.set_cons_succ]
  refine wpAnyH_take (i := 13) (v := .bool true) rfl (by kernel_rfl) (by kernel_rfl) (by kernel_rfl) (fun _ _ _ h => h) (Or.inl ⟨by kernel_rfl, ?_⟩) hS ?_
  · rintro w' ⟨q0, q1, q2, q3, q4⟩; go_simp
  try simp only [Act.put, List.setIfInBounds_toArray, List.set_cons_zero, List.set_cons_succ]
  refine wpAnyH_take (i := 14) (v := .bool true) rfl (by kernel_rfl) (by kernel_rfl) (by kernel_rfl) (fun _ _ _ h => h) (Or.inl ⟨by kernel_rfl, ?_⟩) hS ?_
  · rintro w' ⟨q0, q1, q2, q3, q4⟩; go_simp
  try simp only [Act.put, List.setIfInBounds_toArray, List.set_cons_zero, List.set_cons_succ]
  refine wpAnyH_done (by kernel_rfl) ?_ _
  try simp only [List.getElem_toArray, List.getElem_cons_succ, List.getElem_cons_zero]
  try simp only [Act.put, List.setIfInBounds_toArray, List.set_cons_zero, List.set_cons_succ]
  go_wp2_with fail
  go_ret
  exact ⟨rfl, M9.out⟩

end Go.Proofs.YtlidmajcdjlcnaaGreatDoor

namespace Go.Proofs.YtlidmajcdjlcnaaGreatDoor
open Go.ChangeShapes Go.WideShapes Go.ChangeAt Go.RowKit Go.Mine Go.Deep

theorem Tryz.own5 : ownKnob Tryz.prog.godebug = none := by kernel_rfl
theorem Tryz.laidOut5 : laidOutB Tryz.prog = true := by kernel_rfl

theorem accept_eq : (Rows.laid_unicode_utf8_acceptRanges : DataW Unit) = Lib.acceptData := by kernel_rfl
theorem u8types : U8Types Tryz.prog Tryz.lays197_ren := { Tryz.lays197 with }
theorem tabs_of {W : World} (h : laidMetH Tryz.prog [("unicode/utf8.acceptRanges", Rows.laid_unicode_utf8_acceptRanges), ("unicode/utf8.first", Rows.laid_unicode_utf8_first)] W) : tabsOk W := by
  rw [MakeChecks.laidMetH_plain _ _ _ (by kernel_rfl)] at h
  have h4 := Lib.laidMet.reads h (n := "unicode/utf8.acceptRanges") (.head _)
  have h3 := Lib.laidMet.reads h (n := "unicode/utf8.first") (.tail _ (.head _))
  rw [accept_eq] at h4
  have h3' : Lib.VarReads Tryz.prog W "unicode/utf8.first" Lib.firstData := by
    have := h3
    unfold Rows.laid_unicode_utf8_first at this
    rwa [Pinned.utf8First_eq] at this
  exact utf8Tabs_of_readsT u8types ⟨by kernel_rfl, by kernel_rfl, by kernel_rfl, by kernel_rfl, by kernel_rfl, by kernel_rfl, by kernel_rfl⟩ h3' h4
end Go.Proofs.YtlidmajcdjlcnaaGreatDoor
