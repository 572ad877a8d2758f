/-
  Texts on which the claim rests, one behind the other: Base Range_ Range2_ Range3_ Runes Utf Txt1 Rows_ Sp1 Sp2 Sp3 Sp4 Ops1 Ops2 Ops3 Ops4 Ops5 May1 Maps_ Cel1 Cel2.
-/
import Derived.WalkKit
import Derived.WalkSpells
import Derived.WalkLawsBesides
import Derived.Lib.Hide
import Derived.Lib.SliceRun
import Derived.Deep.RegionLaw
import Derived.Deep.RegionLawGrows
import Derived.Deep.AppendLies
import Derived.Deep.RegionWith
import Derived.Deep.QuietTactic
import Derived.BigQuiet
import Derived.Deep.RegionHeld3
import Derived.StillTailTactics
import Derived.Deep.DeepCutAuto
import Derived.Deep.OwnRows
import Derived.RangeFuncNested
import Derived.RangeFuncBound
import Derived.RangeFuncCalls
import Derived.RangeFuncLeaves
import Derived.Shelf.Abstract
import Derived.Shelf.RegionOpen
import Derived.OwnWalkIn
import Derived.TacticsInMore
import Derived.LoopNIn
import Derived.LoopIn
import Derived.Lib.DecodeN
import Derived.Shelf.Unicode.DecodeAny
import Derived.Shelf.Lay
import Derived.Shelf.Small.Utf8
import Derived.Shelf.Utf8.AppendRunePlain
import Derived.Shelf.Unicode.Decode
import Derived.Test.YtjgjjlolhdlofaaGreatDoorProg
import Derived.Deep.MidRow
import Derived.Maps.Own
import Derived.DeepKeys4
import Derived.KernelRfl
import Derived.Lib.BufferRead

set_option linter.unusedSimpArgs false
set_option linter.unusedVariables false

namespace Go.Mine
open Go.RowKit

/-- The blocks of S, and new ones, may have changed; nothing else. -/
structure Mod (S : Nat → Prop) (w w' : World) : Prop where
  os : w'.os = w.os
  tape : w'.tape = w.tape
  output : w'.output = w.output
  size : w.heap.size ≤ w'.heap.size
  block : ∀ k, k < w.heap.size → ¬ S k → w'.heap[k]? = w.heap[k]?

def none_ : Nat → Prop := fun _ => False
def one (b : Nat) : Nat → Prop := fun k => k = b

theorem Mod.refl (S : Nat → Prop) (w : World) : Mod S w w := ⟨rfl, rfl, rfl, Nat.le_refl _, fun _ _ _ => rfl⟩
theorem Mod.trans {S : Nat → Prop} {a b c : World} (h : Mod S a b) (k : Mod S b c) : Mod S a c :=
  ⟨k.os.trans h.os, k.tape.trans h.tape, k.output.trans h.output, Nat.le_trans h.size k.size, fun i hi hs => (k.block i (Nat.lt_of_lt_of_le hi h.size) hs).trans (h.block i hi hs)⟩
theorem Mod.mono {S T : Nat → Prop} {a b : World} (h : Mod S a b) (hs : ∀ k, k < a.heap.size → S k → T k) : Mod T a b :=
  ⟨h.os, h.tape, h.output, h.size, fun k hk ht => h.block k hk (fun s => ht (hs k hk s))⟩
theorem Mod.drew {S : Nat → Prop} {a w : World} (h : Mod S a w) : Mod S a w.drew := ⟨h.os, h.tape, h.output, h.size, h.block⟩
theorem Mod.drewN {S : Nat → Prop} {a w : World} (h : Mod S a w) (n : Nat) : Mod S a (w.drewN n) := by
  induction n with
  | zero => exact h
  | succ n ih => exact ih.drew
theorem Mod.alloc {S : Nat → Prop} {a w : World} (h : Mod S a w) (o : Obj) : Mod S a (w.alloc o) :=
  h.trans ⟨rfl, rfl, rfl, by simp, fun k hk _ => Below.heap_alloc _ _ _ (by omega)⟩
theorem Mod.setCell {S : Nat → Prop} {a w : World} (h : Mod S a w) (p : Addr) (hp : p.block < a.heap.size → S p.block) (u : Value) : Mod S a (w.setCell p u) :=
  ⟨h.os, h.tape, h.output, by simpa [World.setCell] using h.size, fun k hk hs => by
    rw [Below.heap_setCell _ _ _ _ (fun e => by subst e; exact hs (hp hk))]; exact h.block k hk hs⟩
theorem Mod.grown {S : Nat → Prop} {a w w' : World} {row : Option Nat} (h : Mod S a w) (hg : w.grownBy w' row) (hr : ∀ k, row = some k → k < a.heap.size → S k) : Mod S a w' :=
  ⟨hg.os.trans h.os, hg.tape.trans h.tape, hg.output.trans h.output, Nat.le_trans h.size hg.size, fun k hk hs =>
    (hg.block k (Nat.lt_of_lt_of_le hk h.size) (fun e => hs (hr k e.symm hk))).trans (h.block k hk hs)⟩
theorem Mod.below {B : Nat} {w w' : World} (h : Below B w w') : Mod (fun k => B ≤ k) w w' := ⟨h.os, h.tape, h.output, h.size, fun k _ hs => h.block k (by omega)⟩
theorem Mod.toBelow {B : Nat} {S : Nat → Prop} {w w' : World} (h : Mod S w w') (hB : B ≤ w.heap.size) (hs : ∀ k, k < B → ¬ S k) : Below B w w' :=
  ⟨h.os, h.tape, h.output, h.size, fun k hk => h.block k (by omega) (hs k hk)⟩
theorem Mod.cell {S : Nat → Prop} {w w' : World} (h : Mod S w w') {p : Addr} {v : Value} (hs : ¬ S p.block) (hc : w.cell? p = some v) : w'.cell? p = some v := by
  rw [World.cell?_of_block (w := w) (h.block p.block (World.block_lt_of_cell? w p hc) hs)]; exact hc
theorem Mod.blk {S : Nat → Prop} {w w' : World} (h : Mod S w w') {b : Nat} {o : Obj} (hs : ¬ S b) (hb : w.heap[b]? = some o) : w'.heap[b]? = some o := by
  rw [h.block b (lt_of_block hb) hs]; exact hb

/-- A block that is known whole, none of it frozen. -/
def Blk (w : World) (b : Nat) (cs : List Value) (t : TypeId) : Prop := w.heap[b]? = some (.cells cs.toArray t (0, 0))
theorem Blk.lt {w : World} {b : Nat} {cs : List Value} {t : TypeId} (h : Blk w b cs t) : b < w.heap.size := lt_of_block h
theorem Blk.cell {w : World} {b : Nat} {cs : List Value} {t : TypeId} (h : Blk w b cs t) (j : Nat) : w.cell? ⟨b, j, none⟩ = cs[j]? := by
  rw [cell_of_row w b j _ t (0, 0) h]; simp
theorem Blk.frozen {w : World} {b : Nat} {cs : List Value} {t : TypeId} (h : Blk w b cs t) (j : Nat) : w.frozen? ⟨b, j, none⟩ = false := frozen_of_row w b j _ t h
theorem Blk.new {w : World} {cs : List Value} {t : TypeId} : Blk (w.alloc (.cells cs.toArray t)) w.heap.size cs t := heap_alloc_new w _
theorem Blk.mod {S : Nat → Prop} {w w' : World} {b : Nat} {cs : List Value} {t : TypeId} (h : Blk w b cs t) (m : Mod S w w') (hs : ¬ S b) : Blk w' b cs t := m.blk hs h
theorem Blk.drew {w : World} {b : Nat} {cs : List Value} {t : TypeId} (h : Blk w b cs t) : Blk w.drew b cs t := h
theorem Blk.set {w : World} {b : Nat} {cs : List Value} {t : TypeId} (h : Blk w b cs t) (j : Nat) (u : Value) : Blk (w.setCell ⟨b, j, none⟩ u) b (cs.set j u) t := by
  have := heap_setCell_same w b j _ t u h
  unfold Blk; rw [this]; simp

/-- Cells of a known block that are set one by one. -/
theorem Blk.setCells {b : Nat} {t : TypeId} : ∀ (vs : List Value) (o : Nat) (w : World) (cs : List Value), Blk w b cs t → o + vs.length ≤ cs.length →
    Blk (w.setCells b o vs) b (cs.take o ++ vs ++ cs.drop (o + vs.length)) t ∧ Mod (one b) w (w.setCells b o vs)
  | [], o, w, cs, h, _ => by simp only [World.setCells, List.append_nil, List.length_nil, Nat.add_zero, List.take_append_drop]; exact ⟨h, Mod.refl _ _⟩
  | v :: r, o, w, cs, h, hl => by
    simp only [List.length_cons] at hl
    have h1 := Blk.set h o v
    obtain ⟨h2, m2⟩ := Blk.setCells r (o + 1) (w.setCell ⟨b, o, none⟩ v) (cs.set o v) h1 (by simp; omega)
    refine ⟨?_, ((Mod.refl (one b) w).setCell ⟨b, o, none⟩ (fun _ => rfl) v).trans m2⟩
    have e : (cs.set o v).take (o + 1) ++ r ++ (cs.set o v).drop (o + 1 + r.length) = cs.take o ++ (v :: r) ++ cs.drop (o + (r.length + 1)) := by
      rw [List.take_set, List.drop_set, if_pos (by omega)]
      rw [show o + 1 + r.length = o + (r.length + 1) by omega]
      rw [List.take_succ_eq_append_getElem (by omega)]
      rw [List.set_append_right _ _ (by simp; omega)]
      simp [show min o cs.length = o by omega]
    simp only [World.setCells, List.length_cons]
    rw [← e]; exact h2

/-- A slice value that owns a row: what its block holds. -/
theorem ownsRow_blk {w : World} {base e size n : Nat} {v : Value} {xs : List Value} (h : w.ownsRow base e size v n xs) :
    (v = .slice none 0 0 ∧ n = 0 ∧ xs = []) ∨ ∃ g cap more, v = .slice (some ⟨g, 0, none⟩) n cap ∧ base ≤ g ∧ Blk w g (xs ++ more) e ∧ n ≤ cap ∧ cap ≤ maxLen ∧ xs.length + more.length = cap * size := by
  obtain ⟨h1, h2⟩ := h
  rcases h2 with ⟨rfl, rfl⟩ | ⟨g, cap, cur, hv, hg, hh, a, c, d, f⟩
  · exact .inl ⟨rfl, rfl, List.eq_nil_of_length_eq_zero (by simpa using h1)⟩
  · refine .inr ⟨g, cap, cur.toList.drop (n * size), hv, hg, ?_, a, c, ?_⟩
    · unfold Blk; rw [← f, List.take_append_drop, hh]
    · rw [← f]; simp; have := Nat.mul_le_mul_right size a; omega
theorem blk_ownsRow {w : World} {base e size n g cap : Nat} {xs more : List Value} (hg : base ≤ g) (h : Blk w g (xs ++ more) e) (hn : xs.length = n * size) (hc : n ≤ cap) (hm : cap ≤ maxLen) (hl : xs.length + more.length = cap * size) :
    w.ownsRow base e size (.slice (some ⟨g, 0, none⟩) n cap) n xs :=
  ⟨hn, .inr ⟨g, cap, _, rfl, hg, h, hc, hm, by simp [hl], by simp [← hn]⟩⟩
theorem ownsRow_mod {S : Nat → Prop} {w w' : World} {base e size n : Nat} {v : Value} {xs : List Value} (h : w.ownsRow base e size v n xs) (m : Mod S w w') (hs : ∀ k, v.ownBlock = some k → ¬ S k) : w'.ownsRow base e size v n xs := by
  obtain ⟨h1, h2⟩ := h
  refine ⟨h1, ?_⟩
  rcases h2 with h2 | ⟨g, cap, cur, hv, hg, hh, r⟩
  · exact Or.inl h2
  · subst hv
    exact Or.inr ⟨g, cap, cur, rfl, hg, m.blk (hs g rfl) hh, r⟩

end Go.Mine

namespace Go.Mine
open Go.RowKit

/-- Blocks at or above B that are no cells. -/
def loopOwn (B : Nat) (W : World) : Nat → Prop := fun k => B ≤ k ∧ ∀ o, W.heap[k]? = some o → o.isCells = false

/-- How a round may be left. -/
def myPost {σ : Type} (I : σ → World → Prop) (Ix : Code → σ → World → Prop) (s : σ) (W : World) : Exit → Act → World → Prop
  | .normal, _, W' => KeepsOthers W W' ∧ I s W'
  | .ret, _, W' => KeepsOthers W W' ∧ Ix .ret s W'
  | .exit id, _, W' => KeepsOthers W W' ∧ Ix (.exit id) s W'
  | .goto t, _, W' => KeepsOthers W W' ∧ Ix (.goto t) s W'
  | .panic _, _, _ => False
  | .outgrown, _, _ => False

variable {F : Fence} {n : Nat} {P : Program}

theorem loopOwn_put {B l : Nat} {W : World} {o : Obj} (o' : Obj) (hl : B ≤ l) (h : W.heap[l]? = some o) (ho : o.isCells = false) : Mod (loopOwn B W) W (W.putObj l o') :=
  ⟨rfl, rfl, rfl, by simp, fun k _ hs => World.putObj_heap_other (fun e => hs (by subst e; exact ⟨hl, fun o2 h2 => by rw [h] at h2; cases h2; exact ho⟩))⟩

theorem rangeFunc_law {σ α : Type} {g : Operand} {ps : Array Tmp} {assign body : Code} {Q : Exit → Act → World → Prop} {a : Act} {w : World}
    (hro : F.round = none) (h1 : 1 ≤ n) {gf : Nat} {lb : Array Value} (hg : a.eval g = .func (.func gf) #[] lb) (hFg : F.fn gf) (eg : ∀ args w, (callFunc gf args).run P w = .ok (.enter gf args) w)
    (encs : α → Array Value) (hps : ∀ x, (encs x).size = ps.size) (I : σ → World → Prop) (Ix : Code → σ → World → Prop) (step : σ → α → σ) (G : σ → α → Prop) (S : σ → Prop) (s0 : σ)
    (hI : ∀ s W W', I s W → Mod (loopOwn w.heap.size W) W W' → I s W') (hIx : ∀ c s W W', Ix c s W → Mod (loopOwn w.heap.size W) W W' → Ix c s W') (h0 : I s0 w) (a₁ : α → Act)
    (hiter : ∀ (l : Nat) (J : σ → World → Prop) (Jx : Code → σ → World → Prop) (W : World), (∀ s W, J s W → I s W) → (∀ s s' W W', J s W → I s' W' → KeepsOthers W W' → J s' W') →
      (∀ s x W1, J s W1 → G s x → YieldAt F (n - 1 - 1) P l (encs x) W1 fun e W' => (e = .returned (.bool true) ∧ J (step s x) W') ∨ (e = .returned (.bool false) ∧ ∃ c, Jx c (step s x) W')) → J s0 W →
      CallsIn F (n - 1) P gf (#[.func (.yield l) #[] #[]] ++ lb) W fun e W' => (∃ v, e = .returned v) ∧ ((∃ s, S s ∧ J s W') ∨ (∃ c s, Jx c s W')))
    (hassign : ∀ (l : Nat) (x : α) (W : World) (K : Act → World → Prop), K (a₁ x) W →
      assign.wpIn (F.inRound l) (n - 1 - 1) P (Exit.then K (fun _ _ _ => False)) { tmps := (ps.zip (encs x)).foldl (fun t (p, v) => t.setIfInBounds p v) a.tmps, defers := [] } W)
    (hbody : ∀ (l : Nat) (s : σ) (x : α) (W : World), I s W → G s x → body.wpIn (F.inRound l) (n - 1 - 1) P (myPost I Ix (step s x) W) (a₁ x) W)
    (hdone : ∀ (D : Nat) (s : σ) (W : World), S s → I s W → W.heap[D]? = some (.deferred (some [])) → w.heap.size ≤ D → Q .normal { a with defers := { target := .collected D, args := #[] } :: a.defers } W)
    (hstop : ∀ (D : Nat) (c : Code) (s : σ) (W : World), Ix c s W → W.heap[D]? = some (.deferred (some [])) → w.heap.size ≤ D → c.wpIn F n P Q { a with defers := { target := .collected D, args := #[] } :: a.defers } W) :
    (Code.rangeFunc g ps assign body).wpIn F n P Q a w := by
  refine wpIn_rangeFunc ?_
  intro fn hfn
  rw [hro]
  obtain ⟨rec, hrec⟩ : ∃ rec : LoopState → Option Code → Loop, rec = fun st pe => { state := st, pending := pe, fn, tmps := a.tmps, params := ps, assign, body, defers := w.heap.size } := ⟨_, rfl⟩
  obtain ⟨W1, hW1⟩ : ∃ W1, (w.alloc (.deferred (some []))).alloc (.loop (rec .ready none)) = W1 := ⟨_, rfl⟩
  have hL : W1.heap[w.heap.size + 1]? = some (.loop (rec .ready none)) := by
    rw [← hW1]; have := World.alloc_heap_new (w.alloc (.deferred (some []))) (.loop (rec .ready none)); rwa [World.size_alloc] at this
  have hK : W1.heap[w.heap.size]? = some (.deferred (some [])) := by
    rw [← hW1]; exact (Below.heap_alloc _ _ _ (by simp)).trans (World.alloc_heap_new w _)
  have hI1 : I s0 W1 := by rw [← hW1]; exact hI _ _ _ h0 (((Mod.refl _ w).alloc _).alloc _)
  refine ⟨w.heap.size + 1, [{ target := .collected w.heap.size, args := #[] }], W1, { target := .fn (.func gf) lb, args := #[.func (.yield (w.heap.size + 1)) #[] #[]] }, W1, gf,
    #[.func (.yield (w.heap.size + 1)) #[] #[]] ++ lb, W1, ?_, ?_, ?_, ?_, fun _ => h1, ?_⟩
  · rw [← hW1, hrec]; exact run_enterLoop_outer _ _ _ _ _
  · simp only [resolve, hg]
    simp [go_sem]
  · intro f' hf'; simp [Target.leads] at hf'; subst hf'; exact hFg
  · simp [invoke, go_sem, eg]
  refine (hiter (w.heap.size + 1)
    (fun s W => I s W ∧ W.heap[w.heap.size + 1]? = some (.loop (rec .ready none)) ∧ W.heap[w.heap.size]? = some (.deferred (some [])))
    (fun c s W => Ix c s W ∧ W.heap[w.heap.size + 1]? = some (.loop (rec .done (some c))) ∧ W.heap[w.heap.size]? = some (.deferred (some [])))
    W1 (fun s W h => h.1) (fun s s' W W' h hi hk => ⟨hi, hk.same _ _ h.2.1 rfl, hk.same _ _ h.2.2 rfl⟩) ?_ ⟨hI1, hL, hK⟩).mono ?_
  · rintro s x W ⟨hi, hl, hk⟩ hG
    have hlt : w.heap.size + 1 < W.heap.size := (Array.getElem?_eq_some_iff.1 hl).1
    have hy := run_yield (P := P) (args := encs x) hl (by rw [hrec]; exact hps x)
    rw [hrec] at hy
    refine ⟨fn, _, assign, body, hy, roundIn_of_wpIn hfn (hassign _ x W _ ⟨_, run_beginRound hl (by rw [hrec]), ?_⟩)⟩
    have hl2 : (W.putObj (w.heap.size + 1) (.loop { rec .ready none with state := .busy })).heap[w.heap.size + 1]? = some (.loop { rec .ready none with state := .busy }) := World.putObj_heap_same hlt
    have hk2 : (W.putObj (w.heap.size + 1) (.loop { rec .ready none with state := .busy })).heap[w.heap.size]? = some (.deferred (some [])) := (World.putObj_heap_other (by omega)).trans hk
    refine wpIn_mono (hbody _ s x _ (hI _ _ _ hi (loopOwn_put _ (by omega) hl rfl)) hG) ?_
    have fin : ∀ (jump : Option Code) (W3 : World), KeepsOthers (W.putObj (w.heap.size + 1) (.loop { rec .ready none with state := .busy })) W3 →
        (Instr.endRound (w.heap.size + 1) jump).run P W3 = .ok (.bool jump.isNone) (W3.putObj (w.heap.size + 1) (.loop (rec (if jump.isNone then .ready else .done) jump))) ∧
        W3.heap[w.heap.size + 1]? = some (.loop { rec .ready none with state := .busy }) ∧
        (W3.putObj (w.heap.size + 1) (.loop (rec (if jump.isNone then .ready else .done) jump))).heap[w.heap.size + 1]? = some (.loop (rec (if jump.isNone then .ready else .done) jump)) ∧
        (W3.putObj (w.heap.size + 1) (.loop (rec (if jump.isNone then .ready else .done) jump))).heap[w.heap.size]? = some (.deferred (some [])) := fun jump W3 hk3 => by
      have hl3 := hk3.same _ _ hl2 rfl
      have := run_endRound (P := P) jump hl3
      rw [hrec] at this ⊢
      exact ⟨this, by rw [hrec] at hl3; exact hl3, World.putObj_heap_same (Array.getElem?_eq_some_iff.1 hl3).1, (World.putObj_heap_other (by omega)).trans (hk3.same _ _ hk2 rfl)⟩
    rintro e a3 W3 hp
    cases e with
    | normal =>
      obtain ⟨hk3, hi3⟩ := hp
      obtain ⟨hr, hl3, hl4, hk4⟩ := fin none W3 hk3
      exact ⟨_, _, hr, .inl ⟨rfl, hI _ _ _ hi3 (loopOwn_put _ (by omega) hl3 rfl), hl4, hk4⟩⟩
    | ret =>
      obtain ⟨hk3, hi3⟩ := hp
      obtain ⟨hr, hl3, hl4, hk4⟩ := fin (some .ret) W3 hk3
      exact ⟨_, _, hr, .inr ⟨rfl, .ret, hIx _ _ _ _ hi3 (loopOwn_put _ (by omega) hl3 rfl), hl4, hk4⟩⟩
    | exit id =>
      obtain ⟨hk3, hi3⟩ := hp
      obtain ⟨hr, hl3, hl4, hk4⟩ := fin (some (.exit id)) W3 hk3
      exact ⟨_, _, hr, .inr ⟨rfl, .exit id, hIx _ _ _ _ hi3 (loopOwn_put _ (by omega) hl3 rfl), hl4, hk4⟩⟩
    | goto t =>
      obtain ⟨hk3, hi3⟩ := hp
      obtain ⟨hr, hl3, hl4, hk4⟩ := fin (some (.goto t)) W3 hk3
      exact ⟨_, _, hr, .inr ⟨rfl, .goto t, hIx _ _ _ _ hi3 (loopOwn_put _ (by omega) hl3 rfl), hl4, hk4⟩⟩
    | panic ch => exact hp.elim
    | outgrown => exact hp.elim
  · rintro e W2 ⟨⟨v, rfl⟩, (⟨s, hS, hi, hl, hk⟩ | ⟨c, s, hi, hl, hk⟩)⟩
    · exact ⟨none, _, by have := run_endLoop (P := P) hl (by rw [hrec]; simp); rw [hrec] at this; exact this, hdone _ s _ hS (hI _ _ _ hi (loopOwn_put _ (by omega) hl rfl)) ((World.putObj_heap_other (by omega)).trans hk) (Nat.le_refl _)⟩
    · exact ⟨some c, _, by have := run_endLoop (P := P) hl (by rw [hrec]; simp); rw [hrec] at this; exact this, hstop _ c s _ (hIx _ _ _ _ hi (loopOwn_put _ (by omega) hl rfl)) ((World.putObj_heap_other (by omega)).trans hk) (Nat.le_refl _)⟩

end Go.Mine

namespace Go.Mine
open Go.RowKit

/-- The loop's own two blocks. -/
def two (B : Nat) : Nat → Prop := fun k => k = B ∨ k = B + 1
/-- They stay. -/
def KeepTwo (B : Nat) (W W' : World) : Prop := ∀ k, two B k → W'.heap[k]? = W.heap[k]?
theorem KeepTwo.trans {B : Nat} {a b c : World} (h : KeepTwo B a b) (k : KeepTwo B b c) : KeepTwo B a c := fun i hi => (k i hi).trans (h i hi)
theorem KeepTwo.of {S : Nat → Prop} {B : Nat} {W W' : World} (m : Mod S W W') (h1 : B + 1 < W.heap.size) (hs : ∀ k, two B k → ¬ S k) : KeepTwo B W W' := fun k hk => m.block k (by rcases hk with e | e <;> omega) (hs k hk)
/-- How a round may be left. -/
def twoPost {σ : Type} (B : Nat) (I : σ → World → Prop) (Ix : Code → σ → World → Prop) (s : σ) (W : World) : Exit → Act → World → Prop
  | .normal, _, W' => KeepTwo B W W' ∧ I s W'
  | .ret, _, W' => KeepTwo B W W' ∧ Ix .ret s W'
  | .exit id, _, W' => KeepTwo B W W' ∧ Ix (.exit id) s W'
  | .goto t, _, W' => KeepTwo B W W' ∧ Ix (.goto t) s W'
  | .panic _, _, _ => False
  | .outgrown, _, _ => False

variable {F : Fence} {n : Nat} {P : Program}

theorem two_put {B : Nat} {W : World} (o' : Obj) : Mod (two B) W (W.putObj (B + 1) o') :=
  ⟨rfl, rfl, rfl, by simp, fun k _ hs => World.putObj_heap_other (fun e => hs (Or.inr e))⟩

theorem rangeFunc_two {σ α : Type} {g : Operand} {ps : Array Tmp} {assign body : Code} {Q : Exit → Act → World → Prop} {a : Act} {w : World}
    (hro : F.round = none) (h1 : 1 ≤ n) {gf : Nat} {lb : Array Value} (hg : a.eval g = .func (.func gf) #[] lb) (hFg : F.fn gf) (eg : ∀ args w, (callFunc gf args).run P w = .ok (.enter gf args) w)
    (encs : α → Array Value) (hps : ∀ x, (encs x).size = ps.size) (I : σ → World → Prop) (Ix : Code → σ → World → Prop) (step : σ → α → σ) (G : σ → α → Prop) (S : σ → Prop) (s0 : σ)
    (hI : ∀ s W W', I s W → Mod (two w.heap.size) W W' → I s W') (hIx : ∀ c s W W', Ix c s W → Mod (two w.heap.size) W W' → Ix c s W') (h0 : I s0 w) (a₁ : α → Act)
    (hiter : ∀ (l : Nat) (J : σ → World → Prop) (Jx : Code → σ → World → Prop) (W : World), (∀ s W, J s W → I s W) → (∀ s s' W W', J s W → I s' W' → KeepTwo w.heap.size W W' → J s' W') →
      (∀ s x W1, J s W1 → G s x → YieldAt F (n - 1 - 1) P l (encs x) W1 fun e W' => (e = .returned (.bool true) ∧ J (step s x) W') ∨ (e = .returned (.bool false) ∧ ∃ c, Jx c (step s x) W')) → J s0 W → w.heap.size + 2 ≤ W.heap.size →
      CallsIn F (n - 1) P gf (#[.func (.yield l) #[] #[]] ++ lb) W fun e W' => (∃ v, e = .returned v) ∧ ((∃ s, S s ∧ J s W') ∨ (∃ c s, Jx c s W')))
    (hassign : ∀ (l : Nat) (x : α) (W : World) (K : Act → World → Prop), K (a₁ x) W →
      assign.wpIn (F.inRound l) (n - 1 - 1) P (Exit.then K (fun _ _ _ => False)) { tmps := (ps.zip (encs x)).foldl (fun t (p, v) => t.setIfInBounds p v) a.tmps, defers := [] } W)
    (hbody : ∀ (l : Nat) (s : σ) (x : α) (W : World), I s W → G s x → body.wpIn (F.inRound l) (n - 1 - 1) P (twoPost w.heap.size I Ix (step s x) W) (a₁ x) W)
    (hdone : ∀ (D : Nat) (s : σ) (W : World), S s → I s W → W.heap[D]? = some (.deferred (some [])) → D = w.heap.size → Q .normal { a with defers := { target := .collected D, args := #[] } :: a.defers } W)
    (hstop : ∀ (D : Nat) (c : Code) (s : σ) (W : World), Ix c s W → W.heap[D]? = some (.deferred (some [])) → D = w.heap.size → c.wpIn F n P Q { a with defers := { target := .collected D, args := #[] } :: a.defers } W) :
    (Code.rangeFunc g ps assign body).wpIn F n P Q a w := by
  refine wpIn_rangeFunc ?_
  intro fn hfn
  rw [hro]
  obtain ⟨rec, hrec⟩ : ∃ rec : LoopState → Option Code → Loop, rec = fun st pe => { state := st, pending := pe, fn, tmps := a.tmps, params := ps, assign, body, defers := w.heap.size } := ⟨_, rfl⟩
  obtain ⟨W1, hW1⟩ : ∃ W1, (w.alloc (.deferred (some []))).alloc (.loop (rec .ready none)) = W1 := ⟨_, rfl⟩
  have hL : W1.heap[w.heap.size + 1]? = some (.loop (rec .ready none)) := by
    rw [← hW1]; have := World.alloc_heap_new (w.alloc (.deferred (some []))) (.loop (rec .ready none)); rwa [World.size_alloc] at this
  have hK : W1.heap[w.heap.size]? = some (.deferred (some [])) := by
    rw [← hW1]; exact (Below.heap_alloc _ _ _ (by simp)).trans (World.alloc_heap_new w _)
  have hI1 : I s0 W1 := by rw [← hW1]; exact hI _ _ _ h0 (((Mod.refl _ w).alloc _).alloc _)
  refine ⟨w.heap.size + 1, [{ target := .collected w.heap.size, args := #[] }], W1, { target := .fn (.func gf) lb, args := #[.func (.yield (w.heap.size + 1)) #[] #[]] }, W1, gf,
    #[.func (.yield (w.heap.size + 1)) #[] #[]] ++ lb, W1, ?_, ?_, ?_, ?_, fun _ => h1, ?_⟩
  · rw [← hW1, hrec]; exact run_enterLoop_outer _ _ _ _ _
  · simp only [resolve, hg]
    simp [go_sem]
  · intro f' hf'; simp [Target.leads] at hf'; subst hf'; exact hFg
  · simp [invoke, go_sem, eg]
  refine (hiter (w.heap.size + 1)
    (fun s W => I s W ∧ W.heap[w.heap.size + 1]? = some (.loop (rec .ready none)) ∧ W.heap[w.heap.size]? = some (.deferred (some [])))
    (fun c s W => Ix c s W ∧ W.heap[w.heap.size + 1]? = some (.loop (rec .done (some c))) ∧ W.heap[w.heap.size]? = some (.deferred (some [])))
    W1 (fun s W h => h.1) (fun s s' W W' h hi hk => ⟨hi, (hk _ (Or.inr rfl)).trans h.2.1, (hk _ (Or.inl rfl)).trans h.2.2⟩) ?_ ⟨hI1, hL, hK⟩ (by rw [← hW1]; simp)).mono ?_
  · rintro s x W ⟨hi, hl, hk⟩ hG
    have hlt : w.heap.size + 1 < W.heap.size := (Array.getElem?_eq_some_iff.1 hl).1
    have hy := run_yield (P := P) (args := encs x) hl (by rw [hrec]; exact hps x)
    rw [hrec] at hy
    refine ⟨fn, _, assign, body, hy, roundIn_of_wpIn hfn (hassign _ x W _ ⟨_, run_beginRound hl (by rw [hrec]), ?_⟩)⟩
    have hl2 : (W.putObj (w.heap.size + 1) (.loop { rec .ready none with state := .busy })).heap[w.heap.size + 1]? = some (.loop { rec .ready none with state := .busy }) := World.putObj_heap_same hlt
    have hk2 : (W.putObj (w.heap.size + 1) (.loop { rec .ready none with state := .busy })).heap[w.heap.size]? = some (.deferred (some [])) := (World.putObj_heap_other (by omega)).trans hk
    refine wpIn_mono (hbody _ s x _ (hI _ _ _ hi (two_put _)) hG) ?_
    have fin : ∀ (jump : Option Code) (W3 : World), KeepTwo w.heap.size (W.putObj (w.heap.size + 1) (.loop { rec .ready none with state := .busy })) W3 →
        (Instr.endRound (w.heap.size + 1) jump).run P W3 = .ok (.bool jump.isNone) (W3.putObj (w.heap.size + 1) (.loop (rec (if jump.isNone then .ready else .done) jump))) ∧
        W3.heap[w.heap.size + 1]? = some (.loop { rec .ready none with state := .busy }) ∧
        (W3.putObj (w.heap.size + 1) (.loop (rec (if jump.isNone then .ready else .done) jump))).heap[w.heap.size + 1]? = some (.loop (rec (if jump.isNone then .ready else .done) jump)) ∧
        (W3.putObj (w.heap.size + 1) (.loop (rec (if jump.isNone then .ready else .done) jump))).heap[w.heap.size]? = some (.deferred (some [])) := fun jump W3 hk3 => by
      have hl3 := (hk3 _ (Or.inr rfl)).trans hl2
      have := run_endRound (P := P) jump hl3
      rw [hrec] at this ⊢
      exact ⟨this, by rw [hrec] at hl3; exact hl3, World.putObj_heap_same (Array.getElem?_eq_some_iff.1 hl3).1, (World.putObj_heap_other (by omega)).trans ((hk3 _ (Or.inl rfl)).trans hk2)⟩
    rintro e a3 W3 hp
    cases e with
    | normal =>
      obtain ⟨hk3, hi3⟩ := hp
      obtain ⟨hr, hl3, hl4, hk4⟩ := fin none W3 hk3
      exact ⟨_, _, hr, .inl ⟨rfl, hI _ _ _ hi3 (two_put _), hl4, hk4⟩⟩
    | ret =>
      obtain ⟨hk3, hi3⟩ := hp
      obtain ⟨hr, hl3, hl4, hk4⟩ := fin (some .ret) W3 hk3
      exact ⟨_, _, hr, .inr ⟨rfl, .ret, hIx _ _ _ _ hi3 (two_put _), hl4, hk4⟩⟩
    | exit id =>
      obtain ⟨hk3, hi3⟩ := hp
      obtain ⟨hr, hl3, hl4, hk4⟩ := fin (some (.exit id)) W3 hk3
      exact ⟨_, _, hr, .inr ⟨rfl, .exit id, hIx _ _ _ _ hi3 (two_put _), hl4, hk4⟩⟩
    | goto t =>
      obtain ⟨hk3, hi3⟩ := hp
      obtain ⟨hr, hl3, hl4, hk4⟩ := fin (some (.goto t)) W3 hk3
      exact ⟨_, _, hr, .inr ⟨rfl, .goto t, hIx _ _ _ _ hi3 (two_put _), hl4, hk4⟩⟩
    | panic ch => exact hp.elim
    | outgrown => exact hp.elim
  · rintro e W2 ⟨⟨v, rfl⟩, (⟨s, hS, hi, hl, hk⟩ | ⟨c, s, hi, hl, hk⟩)⟩
    · exact ⟨none, _, by have := run_endLoop (P := P) hl (by rw [hrec]; simp); rw [hrec] at this; exact this, hdone _ s _ hS (hI _ _ _ hi (two_put _)) ((World.putObj_heap_other (by omega)).trans hk) rfl⟩
    · exact ⟨some c, _, by have := run_endLoop (P := P) hl (by rw [hrec]; simp); rw [hrec] at this; exact this, hstop _ c s _ (hIx _ _ _ _ hi (two_put _)) ((World.putObj_heap_other (by omega)).trans hk) rfl⟩

end Go.Mine

namespace Go.Mine
open Go.RowKit

variable {F : Fence} {n : Nat} {P : Program}

theorem rangeFunc_size {σ α : Type} {g : Operand} {ps : Array Tmp} {assign body : Code} {Q : Exit → Act → World → Prop} {a : Act} {w : World}
    (hro : F.round = none) (h1 : 1 ≤ n) {gf : Nat} {lb : Array Value} (hg : a.eval g = .func (.func gf) #[] lb) (hFg : F.fn gf) (eg : ∀ args w, (callFunc gf args).run P w = .ok (.enter gf args) w)
    (encs : α → Array Value) (hps : ∀ x, (encs x).size = ps.size) (I : σ → World → Prop) (Ix : Code → σ → World → Prop) (step : σ → α → σ) (G : σ → α → Prop) (S : σ → Prop) (s0 : σ)
    (hI : ∀ s W W', I s W → Mod (two w.heap.size) W W' → I s W') (hIx : ∀ c s W W', Ix c s W → Mod (two w.heap.size) W W' → Ix c s W') (h0 : I s0 w) (a₁ : α → Act)
    (hiter : ∀ (l : Nat) (J : σ → World → Prop) (Jx : Code → σ → World → Prop) (W : World), (∀ s W, J s W → I s W) → (∀ s s' W W', J s W → I s' W' → KeepTwo w.heap.size W W' → J s' W') →
      (∀ s x W1, J s W1 → G s x → YieldAt F (n - 1 - 1) P l (encs x) W1 fun e W' => (e = .returned (.bool true) ∧ J (step s x) W') ∨ (e = .returned (.bool false) ∧ ∃ c, Jx c (step s x) W')) → J s0 W → w.heap.size + 2 ≤ W.heap.size → (∀ s W, J s W → w.heap.size + 2 ≤ W.heap.size) →
      CallsIn F (n - 1) P gf (#[.func (.yield l) #[] #[]] ++ lb) W fun e W' => (∃ v, e = .returned v) ∧ ((∃ s, S s ∧ J s W') ∨ (∃ c s, Jx c s W')))
    (hassign : ∀ (l : Nat) (x : α) (W : World) (K : Act → World → Prop), K (a₁ x) W →
      assign.wpIn (F.inRound l) (n - 1 - 1) P (Exit.then K (fun _ _ _ => False)) { tmps := (ps.zip (encs x)).foldl (fun t (p, v) => t.setIfInBounds p v) a.tmps, defers := [] } W)
    (hbody : ∀ (l : Nat) (s : σ) (x : α) (W : World), I s W → G s x → w.heap.size + 2 ≤ W.heap.size → body.wpIn (F.inRound l) (n - 1 - 1) P (twoPost w.heap.size I Ix (step s x) W) (a₁ x) W)
    (hdone : ∀ (D : Nat) (s : σ) (W : World), S s → I s W → W.heap[D]? = some (.deferred (some [])) → D = w.heap.size → Q .normal { a with defers := { target := .collected D, args := #[] } :: a.defers } W)
    (hstop : ∀ (D : Nat) (c : Code) (s : σ) (W : World), Ix c s W → W.heap[D]? = some (.deferred (some [])) → D = w.heap.size → c.wpIn F n P Q { a with defers := { target := .collected D, args := #[] } :: a.defers } W) :
    (Code.rangeFunc g ps assign body).wpIn F n P Q a w := by
  refine wpIn_rangeFunc ?_
  intro fn hfn
  rw [hro]
  obtain ⟨rec, hrec⟩ : ∃ rec : LoopState → Option Code → Loop, rec = fun st pe => { state := st, pending := pe, fn, tmps := a.tmps, params := ps, assign, body, defers := w.heap.size } := ⟨_, rfl⟩
  obtain ⟨W1, hW1⟩ : ∃ W1, (w.alloc (.deferred (some []))).alloc (.loop (rec .ready none)) = W1 := ⟨_, rfl⟩
  have hL : W1.heap[w.heap.size + 1]? = some (.loop (rec .ready none)) := by
    rw [← hW1]; have := World.alloc_heap_new (w.alloc (.deferred (some []))) (.loop (rec .ready none)); rwa [World.size_alloc] at this
  have hK : W1.heap[w.heap.size]? = some (.deferred (some [])) := by
    rw [← hW1]; exact (Below.heap_alloc _ _ _ (by simp)).trans (World.alloc_heap_new w _)
  have hI1 : I s0 W1 := by rw [← hW1]; exact hI _ _ _ h0 (((Mod.refl _ w).alloc _).alloc _)
  refine ⟨w.heap.size + 1, [{ target := .collected w.heap.size, args := #[] }], W1, { target := .fn (.func gf) lb, args := #[.func (.yield (w.heap.size + 1)) #[] #[]] }, W1, gf,
    #[.func (.yield (w.heap.size + 1)) #[] #[]] ++ lb, W1, ?_, ?_, ?_, ?_, fun _ => h1, ?_⟩
  · rw [← hW1, hrec]; exact run_enterLoop_outer _ _ _ _ _
  · simp only [resolve, hg]
    simp [go_sem]
  · intro f' hf'; simp [Target.leads] at hf'; subst hf'; exact hFg
  · simp [invoke, go_sem, eg]
  refine (hiter (w.heap.size + 1)
    (fun s W => I s W ∧ W.heap[w.heap.size + 1]? = some (.loop (rec .ready none)) ∧ W.heap[w.heap.size]? = some (.deferred (some [])))
    (fun c s W => Ix c s W ∧ W.heap[w.heap.size + 1]? = some (.loop (rec .done (some c))) ∧ W.heap[w.heap.size]? = some (.deferred (some [])))
    W1 (fun s W h => h.1) (fun s s' W W' h hi hk => ⟨hi, (hk _ (Or.inr rfl)).trans h.2.1, (hk _ (Or.inl rfl)).trans h.2.2⟩) ?_ ⟨hI1, hL, hK⟩ (by rw [← hW1]; simp) (fun s W h => by have := (Array.getElem?_eq_some_iff.1 h.2.1).1; omega)).mono ?_
  · rintro s x W ⟨hi, hl, hk⟩ hG
    have hlt : w.heap.size + 1 < W.heap.size := (Array.getElem?_eq_some_iff.1 hl).1
    have hy := run_yield (P := P) (args := encs x) hl (by rw [hrec]; exact hps x)
    rw [hrec] at hy
    refine ⟨fn, _, assign, body, hy, roundIn_of_wpIn hfn (hassign _ x W _ ⟨_, run_beginRound hl (by rw [hrec]), ?_⟩)⟩
    have hl2 : (W.putObj (w.heap.size + 1) (.loop { rec .ready none with state := .busy })).heap[w.heap.size + 1]? = some (.loop { rec .ready none with state := .busy }) := World.putObj_heap_same hlt
    have hk2 : (W.putObj (w.heap.size + 1) (.loop { rec .ready none with state := .busy })).heap[w.heap.size]? = some (.deferred (some [])) := (World.putObj_heap_other (by omega)).trans hk
    refine wpIn_mono (hbody _ s x _ (hI _ _ _ hi (two_put _)) hG (Nat.le_trans (by omega) (two_put (B := w.heap.size) (W := W) _).size)) ?_
    have fin : ∀ (jump : Option Code) (W3 : World), KeepTwo w.heap.size (W.putObj (w.heap.size + 1) (.loop { rec .ready none with state := .busy })) W3 →
        (Instr.endRound (w.heap.size + 1) jump).run P W3 = .ok (.bool jump.isNone) (W3.putObj (w.heap.size + 1) (.loop (rec (if jump.isNone then .ready else .done) jump))) ∧
        W3.heap[w.heap.size + 1]? = some (.loop { rec .ready none with state := .busy }) ∧
        (W3.putObj (w.heap.size + 1) (.loop (rec (if jump.isNone then .ready else .done) jump))).heap[w.heap.size + 1]? = some (.loop (rec (if jump.isNone then .ready else .done) jump)) ∧
        (W3.putObj (w.heap.size + 1) (.loop (rec (if jump.isNone then .ready else .done) jump))).heap[w.heap.size]? = some (.deferred (some [])) := fun jump W3 hk3 => by
      have hl3 := (hk3 _ (Or.inr rfl)).trans hl2
      have := run_endRound (P := P) jump hl3
      rw [hrec] at this ⊢
      exact ⟨this, by rw [hrec] at hl3; exact hl3, World.putObj_heap_same (Array.getElem?_eq_some_iff.1 hl3).1, (World.putObj_heap_other (by omega)).trans ((hk3 _ (Or.inl rfl)).trans hk2)⟩
    rintro e a3 W3 hp
    cases e with
    | normal =>
      obtain ⟨hk3, hi3⟩ := hp
      obtain ⟨hr, hl3, hl4, hk4⟩ := fin none W3 hk3
      exact ⟨_, _, hr, .inl ⟨rfl, hI _ _ _ hi3 (two_put _), hl4, hk4⟩⟩
    | ret =>
      obtain ⟨hk3, hi3⟩ := hp
      obtain ⟨hr, hl3, hl4, hk4⟩ := fin (some .ret) W3 hk3
      exact ⟨_, _, hr, .inr ⟨rfl, .ret, hIx _ _ _ _ hi3 (two_put _), hl4, hk4⟩⟩
    | exit id =>
      obtain ⟨hk3, hi3⟩ := hp
      obtain ⟨hr, hl3, hl4, hk4⟩ := fin (some (.exit id)) W3 hk3
      exact ⟨_, _, hr, .inr ⟨rfl, .exit id, hIx _ _ _ _ hi3 (two_put _), hl4, hk4⟩⟩
    | goto t =>
      obtain ⟨hk3, hi3⟩ := hp
      obtain ⟨hr, hl3, hl4, hk4⟩ := fin (some (.goto t)) W3 hk3
      exact ⟨_, _, hr, .inr ⟨rfl, .goto t, hIx _ _ _ _ hi3 (two_put _), hl4, hk4⟩⟩
    | panic ch => exact hp.elim
    | outgrown => exact hp.elim
  · rintro e W2 ⟨⟨v, rfl⟩, (⟨s, hS, hi, hl, hk⟩ | ⟨c, s, hi, hl, hk⟩)⟩
    · exact ⟨none, _, by have := run_endLoop (P := P) hl (by rw [hrec]; simp); rw [hrec] at this; exact this, hdone _ s _ hS (hI _ _ _ hi (two_put _)) ((World.putObj_heap_other (by omega)).trans hk) rfl⟩
    · exact ⟨some c, _, by have := run_endLoop (P := P) hl (by rw [hrec]; simp); rw [hrec] at this; exact this, hstop _ c s _ (hIx _ _ _ _ hi (two_put _)) ((World.putObj_heap_other (by omega)).trans hk) rfl⟩


/-- The same, where the assignment makes boxes. -/
theorem rangeFunc_box {σ α : Type} {g : Operand} {ps : Array Tmp} {assign body : Code} {Q : Exit → Act → World → Prop} {a : Act} {w : World}
    (hro : F.round = none) (h1 : 1 ≤ n) {gf : Nat} {lb : Array Value} (hg : a.eval g = .func (.func gf) #[] lb) (hFg : F.fn gf) (eg : ∀ args w, (callFunc gf args).run P w = .ok (.enter gf args) w)
    (encs : α → Array Value) (hps : ∀ x, (encs x).size = ps.size) (I : σ → World → Prop) (Ix : Code → σ → World → Prop) (step : σ → α → σ) (G : σ → α → Prop) (S : σ → Prop) (s0 : σ)
    (hI : ∀ s W W', I s W → Mod (two w.heap.size) W W' → I s W') (hIx : ∀ c s W W', Ix c s W → Mod (two w.heap.size) W W' → Ix c s W') (h0 : I s0 w) (R : σ → α → Act → World → Prop) (hR : ∀ s x a W W', R s x a W → Mod (two w.heap.size) W W' → R s x a W')
    (hiter : ∀ (l : Nat) (J : σ → World → Prop) (Jx : Code → σ → World → Prop) (W : World), (∀ s W, J s W → I s W) → (∀ s s' W W', J s W → I s' W' → KeepTwo w.heap.size W W' → J s' W') →
      (∀ s x W1, J s W1 → G s x → YieldAt F (n - 1 - 1) P l (encs x) W1 fun e W' => (e = .returned (.bool true) ∧ J (step s x) W') ∨ (e = .returned (.bool false) ∧ ∃ c, Jx c (step s x) W')) → J s0 W → w.heap.size + 2 ≤ W.heap.size → (∀ s W, J s W → w.heap.size + 2 ≤ W.heap.size) →
      CallsIn F (n - 1) P gf (#[.func (.yield l) #[] #[]] ++ lb) W fun e W' => (∃ v, e = .returned v) ∧ ((∃ s, S s ∧ J s W') ∨ (∃ c s, Jx c s W')))
    (hassign : ∀ (l : Nat) (s : σ) (x : α) (W : World) (K : Act → World → Prop), I s W → G s x → w.heap.size + 2 ≤ W.heap.size → (∀ a1 W1, R s x a1 W1 → KeepTwo w.heap.size W W1 → K a1 W1) →
      assign.wpIn (F.inRound l) (n - 1 - 1) P (Exit.then K (fun _ _ _ => False)) { tmps := (ps.zip (encs x)).foldl (fun t (p, v) => t.setIfInBounds p v) a.tmps, defers := [] } W)
    (hbody : ∀ (l : Nat) (s : σ) (x : α) (a1 : Act) (W : World), R s x a1 W → w.heap.size + 2 ≤ W.heap.size → body.wpIn (F.inRound l) (n - 1 - 1) P (twoPost w.heap.size I Ix (step s x) W) a1 W)
    (hdone : ∀ (D : Nat) (s : σ) (W : World), S s → I s W → W.heap[D]? = some (.deferred (some [])) → D = w.heap.size → Q .normal { a with defers := { target := .collected D, args := #[] } :: a.defers } W)
    (hstop : ∀ (D : Nat) (c : Code) (s : σ) (W : World), Ix c s W → W.heap[D]? = some (.deferred (some [])) → D = w.heap.size → c.wpIn F n P Q { a with defers := { target := .collected D, args := #[] } :: a.defers } W) :
    (Code.rangeFunc g ps assign body).wpIn F n P Q a w := by
  refine wpIn_rangeFunc ?_
  intro fn hfn
  rw [hro]
  obtain ⟨rec, hrec⟩ : ∃ rec : LoopState → Option Code → Loop, rec = fun st pe => { state := st, pending := pe, fn, tmps := a.tmps, params := ps, assign, body, defers := w.heap.size } := ⟨_, rfl⟩
  obtain ⟨W1, hW1⟩ : ∃ W1, (w.alloc (.deferred (some []))).alloc (.loop (rec .ready none)) = W1 := ⟨_, rfl⟩
  have hL : W1.heap[w.heap.size + 1]? = some (.loop (rec .ready none)) := by
    rw [← hW1]; have := World.alloc_heap_new (w.alloc (.deferred (some []))) (.loop (rec .ready none)); rwa [World.size_alloc] at this
  have hK : W1.heap[w.heap.size]? = some (.deferred (some [])) := by
    rw [← hW1]; exact (Below.heap_alloc _ _ _ (by simp)).trans (World.alloc_heap_new w _)
  have hI1 : I s0 W1 := by rw [← hW1]; exact hI _ _ _ h0 (((Mod.refl _ w).alloc _).alloc _)
  refine ⟨w.heap.size + 1, [{ target := .collected w.heap.size, args := #[] }], W1, { target := .fn (.func gf) lb, args := #[.func (.yield (w.heap.size + 1)) #[] #[]] }, W1, gf,
    #[.func (.yield (w.heap.size + 1)) #[] #[]] ++ lb, W1, ?_, ?_, ?_, ?_, fun _ => h1, ?_⟩
  · rw [← hW1, hrec]; exact run_enterLoop_outer _ _ _ _ _
  · simp only [resolve, hg]
    simp [go_sem]
  · intro f' hf'; simp [Target.leads] at hf'; subst hf'; exact hFg
  · simp [invoke, go_sem, eg]
  refine (hiter (w.heap.size + 1)
    (fun s W => I s W ∧ W.heap[w.heap.size + 1]? = some (.loop (rec .ready none)) ∧ W.heap[w.heap.size]? = some (.deferred (some [])))
    (fun c s W => Ix c s W ∧ W.heap[w.heap.size + 1]? = some (.loop (rec .done (some c))) ∧ W.heap[w.heap.size]? = some (.deferred (some [])))
    W1 (fun s W h => h.1) (fun s s' W W' h hi hk => ⟨hi, (hk _ (Or.inr rfl)).trans h.2.1, (hk _ (Or.inl rfl)).trans h.2.2⟩) ?_ ⟨hI1, hL, hK⟩ (by rw [← hW1]; simp) (fun s W h => by have := (Array.getElem?_eq_some_iff.1 h.2.1).1; omega)).mono ?_
  · rintro s x W ⟨hi, hl, hk⟩ hG
    have hlt : w.heap.size + 1 < W.heap.size := (Array.getElem?_eq_some_iff.1 hl).1
    have hy := run_yield (P := P) (args := encs x) hl (by rw [hrec]; exact hps x)
    rw [hrec] at hy
    refine ⟨fn, _, assign, body, hy, roundIn_of_wpIn hfn (hassign _ s x W _ hi hG (by omega) (fun a1 W1 hR1 hk1 => ⟨_, run_beginRound ((hk1 _ (Or.inr rfl)).trans hl) (by rw [hrec]), ?_⟩))⟩
    have hl1 := (hk1 _ (Or.inr rfl)).trans hl
    have hkk1 := (hk1 _ (Or.inl rfl)).trans hk
    have hlt1 : w.heap.size + 1 < W1.heap.size := (Array.getElem?_eq_some_iff.1 hl1).1
    have hl2 : (W1.putObj (w.heap.size + 1) (.loop { rec .ready none with state := .busy })).heap[w.heap.size + 1]? = some (.loop { rec .ready none with state := .busy }) := World.putObj_heap_same hlt1
    have hk2 : (W1.putObj (w.heap.size + 1) (.loop { rec .ready none with state := .busy })).heap[w.heap.size]? = some (.deferred (some [])) := (World.putObj_heap_other (by omega)).trans hkk1
    refine wpIn_mono (hbody _ s x a1 _ (hR _ _ _ _ _ hR1 (two_put _)) (Nat.le_trans (by omega) (two_put (B := w.heap.size) (W := W1) _).size)) ?_
    have fin : ∀ (jump : Option Code) (W3 : World), KeepTwo w.heap.size (W1.putObj (w.heap.size + 1) (.loop { rec .ready none with state := .busy })) W3 →
        (Instr.endRound (w.heap.size + 1) jump).run P W3 = .ok (.bool jump.isNone) (W3.putObj (w.heap.size + 1) (.loop (rec (if jump.isNone then .ready else .done) jump))) ∧
        W3.heap[w.heap.size + 1]? = some (.loop { rec .ready none with state := .busy }) ∧
        (W3.putObj (w.heap.size + 1) (.loop (rec (if jump.isNone then .ready else .done) jump))).heap[w.heap.size + 1]? = some (.loop (rec (if jump.isNone then .ready else .done) jump)) ∧
        (W3.putObj (w.heap.size + 1) (.loop (rec (if jump.isNone then .ready else .done) jump))).heap[w.heap.size]? = some (.deferred (some [])) := fun jump W3 hk3 => by
      have hl3 := (hk3 _ (Or.inr rfl)).trans hl2
      have := run_endRound (P := P) jump hl3
      rw [hrec] at this ⊢
      exact ⟨this, by rw [hrec] at hl3; exact hl3, World.putObj_heap_same (Array.getElem?_eq_some_iff.1 hl3).1, (World.putObj_heap_other (by omega)).trans ((hk3 _ (Or.inl rfl)).trans hk2)⟩
    rintro e a3 W3 hp
    cases e with
    | normal =>
      obtain ⟨hk3, hi3⟩ := hp
      obtain ⟨hr, hl3, hl4, hk4⟩ := fin none W3 hk3
      exact ⟨_, _, hr, .inl ⟨rfl, hI _ _ _ hi3 (two_put _), hl4, hk4⟩⟩
    | ret =>
      obtain ⟨hk3, hi3⟩ := hp
      obtain ⟨hr, hl3, hl4, hk4⟩ := fin (some .ret) W3 hk3
      exact ⟨_, _, hr, .inr ⟨rfl, .ret, hIx _ _ _ _ hi3 (two_put _), hl4, hk4⟩⟩
    | exit id =>
      obtain ⟨hk3, hi3⟩ := hp
      obtain ⟨hr, hl3, hl4, hk4⟩ := fin (some (.exit id)) W3 hk3
      exact ⟨_, _, hr, .inr ⟨rfl, .exit id, hIx _ _ _ _ hi3 (two_put _), hl4, hk4⟩⟩
    | goto t =>
      obtain ⟨hk3, hi3⟩ := hp
      obtain ⟨hr, hl3, hl4, hk4⟩ := fin (some (.goto t)) W3 hk3
      exact ⟨_, _, hr, .inr ⟨rfl, .goto t, hIx _ _ _ _ hi3 (two_put _), hl4, hk4⟩⟩
    | panic ch => exact hp.elim
    | outgrown => exact hp.elim
  · rintro e W2 ⟨⟨v, rfl⟩, (⟨s, hS, hi, hl, hk⟩ | ⟨c, s, hi, hl, hk⟩)⟩
    · exact ⟨none, _, by have := run_endLoop (P := P) hl (by rw [hrec]; simp); rw [hrec] at this; exact this, hdone _ s _ hS (hI _ _ _ hi (two_put _)) ((World.putObj_heap_other (by omega)).trans hk) rfl⟩
    · exact ⟨some c, _, by have := run_endLoop (P := P) hl (by rw [hrec]; simp); rw [hrec] at this; exact this, hstop _ c s _ (hIx _ _ _ _ hi (two_put _)) ((World.putObj_heap_other (by omega)).trans hk) rfl⟩

theorem rangeFunc_box_upd {σ α β : Type} {g : Operand} {ps : Array Tmp} {assign body : Code} {Q : Exit → Act → World → Prop} {a : Act} {w : World}
    (upd : Array Value → α → β → Array Value) (hro : F.round = none) (h1 : 1 ≤ n) {gf : Nat} {lb : Array Value} (hg : a.eval g = .func (.func gf) #[] lb) (hFg : F.fn gf) (eg : ∀ args w, (callFunc gf args).run P w = .ok (.enter gf args) w)
    (encs : α → Array Value) (hps : ∀ x, (encs x).size = ps.size) (I : σ → World → Prop) (Ix : Code → σ → World → Prop) (step : σ → α → σ) (G : σ → α → Prop) (S : σ → Prop) (s0 : σ)
    (hI : ∀ s W W', I s W → Mod (two w.heap.size) W W' → I s W') (hIx : ∀ c s W W', Ix c s W → Mod (two w.heap.size) W W' → Ix c s W') (h0 : I s0 w) (R : σ → α → β → World → Prop) (hR : ∀ s x b W W', R s x b W → Mod (two w.heap.size) W W' → R s x b W')
    (hiter : ∀ (l : Nat) (J : σ → World → Prop) (Jx : Code → σ → World → Prop) (W : World), (∀ s W, J s W → I s W) → (∀ s s' W W', J s W → I s' W' → KeepTwo w.heap.size W W' → J s' W') →
      (∀ s x W1, J s W1 → G s x → YieldAt F (n - 1 - 1) P l (encs x) W1 fun e W' => (e = .returned (.bool true) ∧ J (step s x) W') ∨ (e = .returned (.bool false) ∧ ∃ c, Jx c (step s x) W')) → J s0 W → w.heap.size + 2 ≤ W.heap.size → (∀ s W, J s W → w.heap.size + 2 ≤ W.heap.size) →
      CallsIn F (n - 1) P gf (#[.func (.yield l) #[] #[]] ++ lb) W fun e W' => (∃ v, e = .returned v) ∧ ((∃ s, S s ∧ J s W') ∨ (∃ c s, Jx c s W')))
    (hassign : ∀ (l : Nat) (s : σ) (x : α) (W : World) (K : Act → World → Prop), I s W → G s x → w.heap.size + 2 ≤ W.heap.size → (∀ b W1, R s x b W1 → KeepTwo w.heap.size W W1 → K ⟨upd a.tmps x b, []⟩ W1) →
      assign.wpIn (F.inRound l) (n - 1 - 1) P (Exit.then K (fun _ _ _ => False)) { tmps := (ps.zip (encs x)).foldl (fun t (p, v) => t.setIfInBounds p v) a.tmps, defers := [] } W)
    (hbody : ∀ (l : Nat) (s : σ) (x : α) (b : β) (W : World), R s x b W → w.heap.size + 2 ≤ W.heap.size → body.wpIn (F.inRound l) (n - 1 - 1) P (twoPost w.heap.size I Ix (step s x) W) ⟨upd a.tmps x b, []⟩ W)
    (hdone : ∀ (D : Nat) (s : σ) (W : World), S s → I s W → W.heap[D]? = some (.deferred (some [])) → D = w.heap.size → Q .normal { a with defers := { target := .collected D, args := #[] } :: a.defers } W)
    (hstop : ∀ (D : Nat) (c : Code) (s : σ) (W : World), Ix c s W → W.heap[D]? = some (.deferred (some [])) → D = w.heap.size → c.wpIn F n P Q { a with defers := { target := .collected D, args := #[] } :: a.defers } W) :
    (Code.rangeFunc g ps assign body).wpIn F n P Q a w :=
  rangeFunc_box hro h1 hg hFg eg encs hps I Ix step G S s0 hI hIx h0 (fun s x a1 W => ∃ b, a1 = ⟨upd a.tmps x b, []⟩ ∧ R s x b W) (fun s x a1 W W' ⟨b, e, r⟩ m => ⟨b, e, hR s x b W W' r m⟩) hiter
    (fun l s x W K hi hG hz hK => hassign l s x W K hi hG hz (fun b W1 hr hk => hK _ _ ⟨b, rfl, hr⟩ hk)) (fun l s x a1 W ⟨b, e, hr⟩ hz => by subst e; exact hbody l s x b W hr hz) hdone hstop

open Classical in
/-- The law of ranges over functions, the frame behind the assignment told by what it changes in the frame ahead. -/
theorem rangeFunc_size_upd {F : Fence} {n : Nat} {P : Program} {σ α : Type} {g : Operand} {ps : Array Tmp} {assign body : Code} {Q : Exit → Act → World → Prop} {a : Act} {w : World}
    (upd : Array Value → α → Array Value) (hro : F.round = none) (h1 : 1 ≤ n) {gf : Nat} {lb : Array Value} (hg : a.eval g = .func (.func gf) #[] lb) (hFg : F.fn gf) (eg : ∀ args w, (callFunc gf args).run P w = .ok (.enter gf args) w)
    (encs : α → Array Value) (hps : ∀ x, (encs x).size = ps.size) (I : σ → World → Prop) (Ix : Code → σ → World → Prop) (step : σ → α → σ) (G : σ → α → Prop) (S : σ → Prop) (s0 : σ)
    (hI : ∀ s W W', I s W → Mod (two w.heap.size) W W' → I s W') (hIx : ∀ c s W W', Ix c s W → Mod (two w.heap.size) W W' → Ix c s W') (h0 : I s0 w)
    (hiter : ∀ (l : Nat) (J : σ → World → Prop) (Jx : Code → σ → World → Prop) (W : World), (∀ s W, J s W → I s W) → (∀ s s' W W', J s W → I s' W' → KeepTwo w.heap.size W W' → J s' W') →
      (∀ s x W1, J s W1 → G s x → YieldAt F (n - 1 - 1) P l (encs x) W1 fun e W' => (e = .returned (.bool true) ∧ J (step s x) W') ∨ (e = .returned (.bool false) ∧ ∃ c, Jx c (step s x) W')) → J s0 W → w.heap.size + 2 ≤ W.heap.size → (∀ s W, J s W → w.heap.size + 2 ≤ W.heap.size) →
      CallsIn F (n - 1) P gf (#[.func (.yield l) #[] #[]] ++ lb) W fun e W' => (∃ v, e = .returned v) ∧ ((∃ s, S s ∧ J s W') ∨ (∃ c s, Jx c s W')))
    (hassign : ∀ (l : Nat) (x : α) (W : World) (K : Act → World → Prop), K ⟨upd a.tmps x, []⟩ W →
      assign.wpIn (F.inRound l) (n - 1 - 1) P (Exit.then K (fun _ _ _ => False)) { tmps := (ps.zip (encs x)).foldl (fun t (p, v) => t.setIfInBounds p v) a.tmps, defers := [] } W)
    (hbody : ∀ (l : Nat) (s : σ) (x : α) (W : World), I s W → G s x → w.heap.size + 2 ≤ W.heap.size → body.wpIn (F.inRound l) (n - 1 - 1) P (twoPost w.heap.size I Ix (step s x) W) ⟨upd a.tmps x, []⟩ W)
    (hdone : ∀ (D : Nat) (s : σ) (W : World), S s → I s W → W.heap[D]? = some (.deferred (some [])) → D = w.heap.size → Q .normal { a with defers := { target := .collected D, args := #[] } :: a.defers } W)
    (hstop : ∀ (D : Nat) (c : Code) (s : σ) (W : World), Ix c s W → W.heap[D]? = some (.deferred (some [])) → D = w.heap.size → c.wpIn F n P Q { a with defers := { target := .collected D, args := #[] } :: a.defers } W) :
    (Code.rangeFunc g ps assign body).wpIn F n P Q a w :=
  rangeFunc_size hro h1 hg hFg eg encs hps I Ix step G S s0 hI hIx h0 (fun x => ⟨upd a.tmps x, []⟩) hiter hassign hbody hdone hstop

end Go.Mine

namespace Go.Mine
open Go.Lib

/-- The string behind its first n bytes. -/
def tl (t : ByteArray) (n : Nat) : ByteArray := t.extract n t.size
theorem tl_size (t : ByteArray) (n : Nat) : (tl t n).size = t.size - n := by simp [tl, ByteArray.size_extract]
theorem tl_tl (t : ByteArray) (n m : Nat) : tl (tl t n) m = tl t (n + m) := by
  apply ByteArray.ext
  have e : (tl t n).size = t.data.size - n := tl_size t n
  have hs : t.size = t.data.size := rfl
  unfold tl at e ⊢
  rw [e, hs, ByteArray.data_extract, ByteArray.data_extract, ByteArray.data_extract, Array.extract_extract]
  congr 1
  omega
theorem tl_get (t : ByteArray) (n i : Nat) (h : n + i < t.size) : (tl t n).get! i = t.get! (n + i) := by
  have h1 : i < (tl t n).size := by rw [tl_size]; omega
  have a : (tl t n).get! i = (tl t n).data[i]! := rfl
  have b : t.get! (n + i) = t.data[n + i]! := rfl
  rw [a, b]
  simp only [getElem!_def, tl, ByteArray.data_extract, Array.getElem?_extract]
  have hs : t.size = t.data.size := rfl
  rw [if_pos (by omega)]

theorem decodeN_pos (n b0 b1 b2 b3 : Nat) : 1 ≤ (decodeN n b0 b1 b2 b3).2 ∧ (decodeN n b0 b1 b2 b3).2 ≤ 4 ∧ (1 ≤ n → (decodeN n b0 b1 b2 b3).2 ≤ n) := by
  unfold decodeN
  repeat' split
  all_goals (simp; try omega)
theorem decodeGo_eq {t : ByteArray} (h : t.size ≠ 0) : decodeGo t = decodeN t.size (t.get! 0).toNat (t.get! 1).toNat (t.get! 2).toNat (t.get! 3).toNat := by
  unfold decodeGo
  rw [if_neg h, decode_at]
  rfl
theorem decodeGo_pos {t : ByteArray} (h : t.size ≠ 0) : 1 ≤ (decodeGo t).2 ∧ (decodeGo t).2 ≤ 4 ∧ (decodeGo t).2 ≤ t.size := by
  rw [decodeGo_eq h]
  obtain ⟨a, b, c⟩ := decodeN_pos t.size (t.get! 0).toNat (t.get! 1).toNat (t.get! 2).toNat (t.get! 3).toNat
  exact ⟨a, b, c (by omega)⟩

/-- The first rune is wrong. -/
def bad1 (t : ByteArray) : Prop := (decodeGo t).1 = 65533 ∧ (decodeGo t).2 < 2
instance (t : ByteArray) : Decidable (bad1 t) := by unfold bad1; infer_instance

/-- The runes of a text; none: it is no text. -/
def runesOf (t : ByteArray) : Option (List Nat) :=
  if _h : t.size = 0 then some []
  else if bad1 t then none
  else (runesOf (tl t (decodeGo t).2)).map ((decodeGo t).1 :: ·)
termination_by t.size
decreasing_by have := decodeGo_pos _h; rw [tl_size]; omega

theorem runesOf_nil {t : ByteArray} (h : t.size = 0) : runesOf t = some [] := by rw [runesOf, dif_pos h]
theorem runesOf_bad {t : ByteArray} (h : t.size ≠ 0) (hb : bad1 t) : runesOf t = none := by rw [runesOf, dif_neg h, if_pos hb]
theorem runesOf_step {t : ByteArray} (h : t.size ≠ 0) (hb : ¬ bad1 t) : runesOf t = (runesOf (tl t (decodeGo t).2)).map ((decodeGo t).1 :: ·) := by rw [runesOf, dif_neg h, if_neg hb]

/-- How many runes; -1. -/
def ulen (t : ByteArray) : Int := match runesOf t with
  | some l => (l.length : Int)
  | none => -1

/-- The first rune as the document reads it: (0, 0) where it is wrong. -/
def firstR (t : ByteArray) : Nat × Nat := if bad1 t then (0, 0) else decodeGo t
abbrev bt (t : ByteArray) (i : Nat) : Nat := (t.get! i).toNat

def fR (d : Nat × Nat) : Nat × Nat := if d.1 = 65533 ∧ d.2 < 2 then (0, 0) else d
theorem fR_good (x n : Nat) (h : 2 ≤ n) : fR (x, n) = (x, n) := if_neg (fun e => by have e2 : n < 2 := e.2; omega)
theorem fR_one (x n : Nat) (h : x < 65533) : fR (x, n) = (x, n) := if_neg (fun e => by have e2 : x = 65533 := e.1; omega)
theorem firstR_eq {t : ByteArray} (h : t.size ≠ 0) : firstR t = fR (decodeN t.size (t.get! 0).toNat (t.get! 1).toNat (t.get! 2).toNat (t.get! 3).toNat) := by
  rw [← decodeGo_eq h]
  unfold firstR fR
  by_cases hb : bad1 t
  · have hb2 : (decodeGo t).1 = 65533 ∧ (decodeGo t).2 < 2 := hb
    rw [if_pos hb, if_pos hb2]
  · have hb2 : ¬ ((decodeGo t).1 = 65533 ∧ (decodeGo t).2 < 2) := hb
    rw [if_neg hb, if_neg hb2]

theorem bt_lt (t : ByteArray) (i : Nat) : bt t i < 256 := (t.get! i).toNat_lt

theorem firstR1 {t : ByteArray} (h : t.size ≠ 0) (h0 : bt t 0 < 128) : firstR t = (bt t 0, 1) := by
  rw [firstR_eq h]
  unfold decodeN
  rw [if_pos h0, fR_one _ _ (by unfold bt at h0; omega)]
theorem firstR0 {t : ByteArray} (h : t.size ≠ 0) (h0 : (128 ≤ bt t 0 ∧ bt t 0 < 192) ∨ 248 ≤ bt t 0) : firstR t = (0, 0) := by
  have hl := bt_lt t 0
  rw [firstR_eq h]
  unfold decodeN
  unfold bt at h0 hl
  rw [if_neg (by omega), if_neg (by omega), if_neg (by omega), if_neg (by omega)]
  rfl
theorem firstR2 {t : ByteArray} (h : t.size ≠ 0) (h0 : 192 ≤ bt t 0 ∧ bt t 0 < 224) :
    firstR t = if 2 ≤ t.size ∧ (128 ≤ bt t 1 ∧ bt t 1 ≤ 191) ∧ 128 ≤ 64 * (bt t 0 - 192) + bt t 1 - 128 then (64 * (bt t 0 - 192) + bt t 1 - 128, 2) else (0, 0) := by
  have hl := bt_lt t 0
  have hl1 := bt_lt t 1
  rw [firstR_eq h]
  unfold decodeN
  unfold bt at h0 hl hl1 ⊢
  rw [if_neg (by omega)]
  by_cases hc : 1 < t.size ∧ (t.get! 1).toNat / 64 = 2
  · rw [if_pos ⟨by omega, hc⟩]
    have ex : (t.get! 0).toNat % 32 * 64 + (t.get! 1).toNat % 64 = 64 * ((t.get! 0).toNat - 192) + (t.get! 1).toNat - 128 := by omega
    rw [ex]
    by_cases hv : 128 ≤ 64 * ((t.get! 0).toNat - 192) + (t.get! 1).toNat - 128
    · rw [if_pos hv, if_pos ⟨by omega, by omega, hv⟩, fR_good _ _ (by decide)]
    · rw [if_neg hv, if_neg (fun e => hv e.2.2)]
      rfl
  · rw [if_neg (fun e => hc e.2), if_neg (by omega), if_neg (by omega), if_neg (fun e => hc (by omega))]
    rfl
theorem firstR3 {t : ByteArray} (h : t.size ≠ 0) (h0 : 224 ≤ bt t 0 ∧ bt t 0 < 240) :
    firstR t = if 3 ≤ t.size ∧ (128 ≤ bt t 1 ∧ bt t 1 ≤ 191) ∧ (128 ≤ bt t 2 ∧ bt t 2 ≤ 191) ∧ 2048 ≤ 64 * (64 * (bt t 0 - 224) + bt t 1 - 128) + bt t 2 - 128 ∧ (64 * (64 * (bt t 0 - 224) + bt t 1 - 128) + bt t 2 - 128 < 55296 ∨ 57343 < 64 * (64 * (bt t 0 - 224) + bt t 1 - 128) + bt t 2 - 128)
      then (64 * (64 * (bt t 0 - 224) + bt t 1 - 128) + bt t 2 - 128, 3) else (0, 0) := by
  have hl := bt_lt t 0
  have hl1 := bt_lt t 1
  have hl2 := bt_lt t 2
  rw [firstR_eq h]
  unfold decodeN
  unfold bt at h0 hl hl1 hl2 ⊢
  rw [if_neg (by omega), if_neg (by omega)]
  by_cases hc : (1 < t.size ∧ (t.get! 1).toNat / 64 = 2) ∧ (2 < t.size ∧ (t.get! 2).toNat / 64 = 2)
  · rw [if_pos ⟨by omega, hc⟩]
    have ex : (t.get! 0).toNat % 16 * 4096 + (t.get! 1).toNat % 64 * 64 + (t.get! 2).toNat % 64 = 64 * (64 * ((t.get! 0).toNat - 224) + (t.get! 1).toNat - 128) + (t.get! 2).toNat - 128 := by omega
    rw [ex]
    generalize hx : 64 * (64 * ((t.get! 0).toNat - 224) + (t.get! 1).toNat - 128) + (t.get! 2).toNat - 128 = x
    by_cases hv : 2048 ≤ x ∧ (x < 55296 ∨ 57343 < x)
    · rw [if_pos ⟨hv.1, by omega⟩, if_pos ⟨by omega, by omega, by omega, hv⟩, fR_good _ _ (by decide)]
    · rw [if_neg (by omega), if_neg (fun e => hv e.2.2.2)]
      rfl
  · rw [if_neg (fun e => hc e.2), if_neg (by omega), if_neg (fun e => hc (by omega))]
    rfl
theorem firstR4 {t : ByteArray} (h : t.size ≠ 0) (h0 : 240 ≤ bt t 0 ∧ bt t 0 < 248) :
    firstR t = if 4 ≤ t.size ∧ (128 ≤ bt t 1 ∧ bt t 1 ≤ 191) ∧ (128 ≤ bt t 2 ∧ bt t 2 ≤ 191) ∧ (128 ≤ bt t 3 ∧ bt t 3 ≤ 191) ∧ 65536 ≤ 64 * (64 * (64 * (bt t 0 - 240) + bt t 1 - 128) + bt t 2 - 128) + bt t 3 - 128 ∧ 64 * (64 * (64 * (bt t 0 - 240) + bt t 1 - 128) + bt t 2 - 128) + bt t 3 - 128 ≤ 1114111
      then (64 * (64 * (64 * (bt t 0 - 240) + bt t 1 - 128) + bt t 2 - 128) + bt t 3 - 128, 4) else (0, 0) := by
  have hl := bt_lt t 0
  have hl1 := bt_lt t 1
  have hl2 := bt_lt t 2
  have hl3 := bt_lt t 3
  rw [firstR_eq h]
  unfold decodeN
  unfold bt at h0 hl hl1 hl2 hl3 ⊢
  rw [if_neg (by omega), if_neg (by omega), if_neg (by omega)]
  by_cases hc : (1 < t.size ∧ (t.get! 1).toNat / 64 = 2) ∧ (2 < t.size ∧ (t.get! 2).toNat / 64 = 2) ∧ (3 < t.size ∧ (t.get! 3).toNat / 64 = 2)
  · rw [if_pos ⟨by omega, hc⟩]
    have ex : (t.get! 0).toNat % 8 * 262144 + (t.get! 1).toNat % 64 * 4096 + (t.get! 2).toNat % 64 * 64 + (t.get! 3).toNat % 64 = 64 * (64 * (64 * ((t.get! 0).toNat - 240) + (t.get! 1).toNat - 128) + (t.get! 2).toNat - 128) + (t.get! 3).toNat - 128 := by omega
    rw [ex]
    generalize hx : 64 * (64 * (64 * ((t.get! 0).toNat - 240) + (t.get! 1).toNat - 128) + (t.get! 2).toNat - 128) + (t.get! 3).toNat - 128 = x
    by_cases hv : 65536 ≤ x ∧ x ≤ 1114111
    · rw [if_pos ⟨hv.1, by omega⟩, if_pos ⟨by omega, by omega, by omega, by omega, hv⟩, fR_good _ _ (by decide)]
    · rw [if_neg (by omega), if_neg (fun e => hv e.2.2.2.2)]
      rfl
  · rw [if_neg (fun e => hc e.2), if_neg (fun e => hc (by omega))]
    rfl

/-- The bytes of a rune, as the document says. -/
def encR (r : Nat) : List Nat :=
  if r < 128 then [r] else if r < 2048 then [192 + r / 64, 128 + r % 64] else if r < 65536 then [224 + r / 4096, 128 + r / 64 % 64, 128 + r % 64]
  else [240 + r / 262144, 128 + r / 4096 % 64, 128 + r / 64 % 64, 128 + r % 64]

/-- A string's first bytes. -/
theorem extract_bytes (t : ByteArray) (n : Nat) (h : n ≤ t.size) : t.extract 0 n = ⟨((List.range n).map fun i => t.get! i).toArray⟩ := by
  apply ByteArray.ext
  apply Array.ext_getElem?
  intro i
  have hs : t.size = t.data.size := rfl
  rw [ByteArray.data_extract, Array.getElem?_extract]
  by_cases hi : i < n
  · rw [if_pos (by omega), Nat.zero_add]
    simp only [List.getElem?_toArray, List.getElem?_map, List.getElem?_range hi, Option.map_some]
    have e : t.get! i = t.data[i]! := rfl
    rw [e, getElem!_def, Array.getElem?_eq_getElem (by omega)]
  · rw [if_neg (by omega)]
    simp only [List.getElem?_toArray, List.getElem?_map]
    rw [List.getElem?_eq_none (by simpa using hi)]
    rfl

end Go.Mine

namespace Go.Proofs.YtjgjjlolhdlofaaGreatDoor
open Go.Shelf Go.RowKit Go.Mine
def Tryz.lays119_ren : Go.Shelf.Ren := ⟨fun | 119 => 85 | n => n, fun | 21 => 21 | 4 => 4 | n => n, fun | n => n⟩
theorem Tryz.lays119 : Go.Proofs.Lays.n119 Tryz.prog Tryz.lays119_ren := {
  mixed := by kernel_rfl
  f119 := Tryz.func85.trans (congrArg some (by kernel_rfl))
  t4 := Tryz.underlying4
  a4 := Tryz.isAgg4
  z4 := Tryz.sizeOf4
  v4 := Tryz.zeroValue4
  t21 := Tryz.underlying21
  a21 := Tryz.isAgg21
  z21 := Tryz.sizeOf21
  v21 := Tryz.zeroValue21 }
def Tryz.lays242_ren : Go.Shelf.Ren := ⟨fun | 242 => 86 | 278 => 112 | n => n, fun | 37 => 89 | 21 => 21 | 51 => 174 | 4 => 4 | 5 => 5 | 46 => 190 | n => n, fun | n => n⟩
theorem Tryz.lays242 : Go.Proofs.Lays.n242 Tryz.prog Tryz.lays242_ren := {
  mixed := by kernel_rfl
  f242 := Tryz.func86.trans (congrArg some (by kernel_rfl))
  f278 := Tryz.func112.trans (congrArg some (by kernel_rfl))
  t4 := Tryz.underlying4
  a4 := Tryz.isAgg4
  z4 := Tryz.sizeOf4
  v4 := Tryz.zeroValue4
  t5 := Tryz.underlying5
  a5 := Tryz.isAgg5
  z5 := Tryz.sizeOf5
  v5 := Tryz.zeroValue5
  t21 := Tryz.underlying21
  a21 := Tryz.isAgg21
  z21 := Tryz.sizeOf21
  v21 := Tryz.zeroValue21
  t37 := Tryz.underlying89
  a37 := Tryz.isAgg89
  z37 := Tryz.sizeOf89
  v37 := Tryz.zeroValue89
  t46 := Tryz.underlying190
  a46 := Tryz.isAgg190
  z46 := Tryz.sizeOf190
  v46 := Tryz.zeroValue190
  t51 := Tryz.underlying174
  a51 := Tryz.isAgg174
  z51 := Tryz.sizeOf174
  v51 := Tryz.zeroValue174 }
def Tryz.lays197_ren : Go.Shelf.Ren := ⟨fun | 197 => 126 | 260 => 134 | n => n, fun | 9 => 9 | 21 => 21 | 3 => 3 | 4 => 4 | 5 => 5 | 105 => 148 | 119 => 205 | 0 => 0 | 46 => 190 | 139 => 208 | 138 => 207 | n => n, fun | 3 => 0 | 4 => 1 | n => n⟩
theorem Tryz.lays197 : Go.Proofs.Lays.n197 Tryz.prog Tryz.lays197_ren := {
  mixed := by kernel_rfl
  f197 := Tryz.func126.trans (congrArg some (by kernel_rfl))
  f260 := Tryz.func134.trans (congrArg some (by kernel_rfl))
  t0 := Tryz.underlying0
  a0 := Tryz.isAgg0
  z0 := Tryz.sizeOf0
  v0 := Tryz.zeroValue0
  t3 := Tryz.underlying3
  a3 := Tryz.isAgg3
  z3 := Tryz.sizeOf3
  v3 := Tryz.zeroValue3
  t4 := Tryz.underlying4
  a4 := Tryz.isAgg4
  z4 := Tryz.sizeOf4
  v4 := Tryz.zeroValue4
  t5 := Tryz.underlying5
  a5 := Tryz.isAgg5
  z5 := Tryz.sizeOf5
  v5 := Tryz.zeroValue5
  t9 := Tryz.underlying9
  a9 := Tryz.isAgg9
  z9 := Tryz.sizeOf9
  v9 := Tryz.zeroValue9
  t21 := Tryz.underlying21
  a21 := Tryz.isAgg21
  z21 := Tryz.sizeOf21
  v21 := Tryz.zeroValue21
  t46 := Tryz.underlying190
  a46 := Tryz.isAgg190
  z46 := Tryz.sizeOf190
  v46 := Tryz.zeroValue190
  t105 := Tryz.underlying148
  a105 := Tryz.isAgg148
  z105 := Tryz.sizeOf148
  v105 := Tryz.zeroValue148
  t119 := Tryz.underlying205
  a119 := Tryz.isAgg205
  z119 := Tryz.sizeOf205
  t138 := Tryz.underlying207
  a138 := Tryz.isAgg207
  z138 := Tryz.sizeOf207
  v138 := Tryz.zeroValue207
  t139 := Tryz.underlying208
  a139 := Tryz.isAgg208
  z139 := Tryz.sizeOf208
  v139 := Tryz.zeroValue208
  g3 := by kernel_rfl
  g4 := by kernel_rfl }

/-- The decoder's two tables lie as their initialisers lay them. -/
def tabsOk (w : World) : Prop := Lib.Utf8Tabs (Tryz.lays197_ren.g 3) (Tryz.lays197_ren.g 4) w
def ascii (s : ByteArray) : Prop := ∀ i, i < s.size → (s.get! i).toNat < 128
/-- s can be read in w. -/
def txtOk (w : World) (s : ByteArray) : Prop := tabsOk w ∨ ascii s

theorem tabsOk.mod {S : Nat → Prop} {w w' : World} (h : tabsOk w) (m : Mod S w w') (hs : ∀ b, b < w.heap.size → (b = Tryz.lays197_ren.g 3 ∨ b = Tryz.lays197_ren.g 4) → ¬ S b) : tabsOk w' :=
  ⟨fun c hc => m.cell (hs _ (block_lt_of_cell (h.1 c hc)) (.inl rfl)) (h.1 c hc),
   fun i hi => ⟨m.cell (hs _ (block_lt_of_cell (h.2 i hi).1) (.inr rfl)) (h.2 i hi).1, m.cell (hs _ (block_lt_of_cell (h.2 i hi).2) (.inr rfl)) (h.2 i hi).2⟩⟩
theorem txtOk.grown {w w' : World} {s : ByteArray} (h : txtOk w s) (m : Mod none_ w w') : txtOk w' s := h.imp (fun t => t.mod m (fun _ _ _ e => e)) id
theorem txtOk.below {w w' : World} {s : ByteArray} (h : txtOk w s) (m : Below w.heap.size w w') : txtOk w' s := h.imp (fun t => t.mod (Mod.below m) (fun b hb _ e => by have e' : w.heap.size ≤ b := e; omega)) id
theorem ascii.tl {s : ByteArray} (h : ascii s) (n : Nat) : ascii (tl s n) := fun i hi => by
  rw [tl_size] at hi
  rw [tl_get s n i (by omega)]
  exact h _ (by omega)
theorem txtOk.tl {w : World} {s : ByteArray} (h : txtOk w s) (n : Nat) : txtOk w (tl s n) := h.imp id (fun t => t.tl n)
theorem below_none {w w' : World} (h : Below w.heap.size w w') : Mod none_ w w' := (Mod.below h).mono (fun k hk e => by have e' : w.heap.size ≤ k := e; omega)

theorem valid_any (r : Int) (w : World) : Calls Tryz.prog 85 #[.int .i32 r] w fun e w' => e = .returned (.bool (Lib.validRune r)) ∧ w' = w := Any.utf8_ValidRune Tryz.lays119 r w
theorem decode_any (s : ByteArray) (w : World) (h0 : s.size ≠ 0) (h : txtOk w s) : Calls Tryz.prog 126 #[.string s] w fun e w' => e = .returned (.tuple #[.int .i32 ((Lib.decodeGo s).1 : Int), .int .i64 ((Lib.decodeGo s).2 : Int)]) ∧ Mod none_ w w' := by
  rcases h with h | h
  · refine (Any.utf8_DecodeRuneInString Tryz.lays197 s w h).mono ?_
    rintro e w' ⟨he, hb⟩
    exact ⟨he, below_none hb⟩
  · have hx : s.data.toList[0]? = some (s.get! 0) := by
      have hs : s.data.size ≠ 0 := h0
      have e : s.get! 0 = s.data[0]! := rfl
      rw [e, Array.getElem?_toList, Array.getElem?_eq_getElem (by omega), getElem!_def, Array.getElem?_eq_getElem (by omega)]
    have hlt := h 0 (by omega)
    refine (Any.utf8_DecodeRuneInString_ascii Tryz.lays197 s (s.get! 0) w hx hlt).mono ?_
    rintro e w' ⟨he, rfl⟩
    refine ⟨?_, Mod.refl _ _⟩
    rw [he]
    have e2 : Lib.decodeGo s = ((s.get! 0).toNat, 1) := by
      rw [decodeGo_eq h0]
      unfold Lib.decodeN
      rw [if_pos hlt]
    rw [e2]
    rfl
theorem infoU8 : (Tryz.prog.info? 5).map (fun i => (i.zero, i.size, i.bytes)) = some (some (.int .u8 0), 1, 1) := by kernel_rfl
theorem append_any (B : Nat) (v : Value) (n : Nat) (xs : List Value) (r : Int) (h1 : -2147483648 ≤ r) (h2 : r ≤ 2147483647) (w : World) (hown : w.ownsRow B 5 1 v n xs) (hn : n + 4 ≤ 140737488355328) (hB : B ≤ w.heap.size) :
    Calls Tryz.prog 86 #[v, .int .i32 r] w fun e w' => ∃ v', e = .returned v' ∧ w'.ownsRow B 5 1 v' (n + (Lib.runeCells r).length) (xs ++ Lib.runeCells r) ∧ ∃ o, (w.alloc o).grownBy w' v.ownBlock :=
  Any.utf8_AppendRune_plain Tryz.lays242 infoU8 B v n xs r h1 h2 w hown hn hB

end Go.Proofs.YtjgjjlolhdlofaaGreatDoor

namespace Go.Proofs.YtjgjjlolhdlofaaGreatDoor
open Go.RowKit Go.Shelf Go.Mine
attribute [local go_sem] Oper.semAt_some

theorem keeps_of_mod {S : Nat → Prop} {w w' : World} (m : Mod S w w') (h : ∀ k, S k → ∀ o, w.heap[k]? = some o → o.isCells = true) : KeepsOthers w w' :=
  ⟨m.size, fun k o hk ho => m.blk (fun s => by rw [h k s o hk] at ho; cases ho) hk⟩
theorem keeps_none {w w' : World} (m : Mod none_ w w') : KeepsOthers w w' := keeps_of_mod m (fun _ e => e.elim)

theorem _root_.Go.Mine.Mod.transOwn {w W W' : World} {B : Nat} (m : Mod none_ w W) (h : Mod (loopOwn B W) W W') (hB : w.heap.size ≤ B) : Mod none_ w W' :=
  ⟨h.os.trans m.os, h.tape.trans m.tape, h.output.trans m.output, Nat.le_trans m.size h.size, fun k hk hs => (h.block k (Nat.lt_of_lt_of_le hk m.size) (fun e => by have := e.1; omega)).trans (m.block k hk hs)⟩
theorem _root_.Go.Mine.Blk.own {W W' : World} {B b : Nat} {cs : List Value} {t : TypeId} (k : Blk W b cs t) (m : Mod (loopOwn B W) W W') : Blk W' b cs t := k.mod m (fun s => by have := s.2 _ k; cases this)

theorem steps_any (s : ByteArray) (w : World) : Calls Tryz.prog 114 #[.string s] w fun e w' => e = .returned (.func (.func 125) #[] #[.pointer (some ⟨w.heap.size, 0, none⟩)]) ∧ w' = w.alloc (.cells #[.string s] 9) := by
  go_enter Tryz.func114, Tryz.ntmps114
  go_wp2
  go_ret
  exact ⟨rfl, rfl⟩

/-- What is behind the first c runes of s is t. -/
def lenRel (s t : ByteArray) (c : Nat) : Prop := (∃ pre, runesOf s = (runesOf t).map (pre ++ ·) ∧ pre.length = c) ∧ c + t.size ≤ s.size
theorem lenRel.start (s : ByteArray) : lenRel s s 0 := ⟨⟨[], by simp, rfl⟩, by omega⟩
theorem lenRel.step {s t : ByteArray} {c : Nat} (h : lenRel s t c) (h0 : t.size ≠ 0) (hb : ¬ bad1 t) : lenRel s (tl t (Lib.decodeGo t).2) (c + 1) := by
  obtain ⟨⟨pre, hp, hl⟩, hs⟩ := h
  have hd := decodeGo_pos h0
  refine ⟨⟨pre ++ [(Lib.decodeGo t).1], ?_, by simp [hl]⟩, by rw [tl_size]; omega⟩
  rw [hp, runesOf_step h0 hb]
  cases runesOf (tl t (Lib.decodeGo t).2) <;> simp
theorem lenRel.bad {s t : ByteArray} {c : Nat} (h : lenRel s t c) (h0 : t.size ≠ 0) (hb : bad1 t) : runesOf s = none := by
  obtain ⟨⟨pre, hp, hl⟩, hs⟩ := h
  rw [hp, runesOf_bad h0 hb]; rfl
theorem lenRel.done {s t : ByteArray} {c : Nat} (h : lenRel s t c) (h0 : t.size = 0) : ulen s = c := by
  obtain ⟨⟨pre, hp, hl⟩, hs⟩ := h
  unfold ulen
  rw [hp, runesOf_nil h0]
  simp [hl]

/-- Len's own cells: the result, the count, the text that is left. -/
def lenI (w : World) : Option (ByteArray × Nat) → World → Prop
  | none, _ => False
  | some (t, c), W => Mod none_ w W ∧ Blk W w.heap.size [.int .i64 0] 3 ∧ Blk W (w.heap.size + 1) [.int .i64 (c : Int)] 3 ∧ Blk W (w.heap.size + 2) [.string t] 9
def lenStep : Option (ByteArray × Nat) → Int × Int → Option (ByteArray × Nat)
  | none, _ => none
  | some (t, c), x => if x.1 < 0 then none else some (t, c + 1)
def lenG (s : ByteArray) : Option (ByteArray × Nat) → Int × Int → Prop
  | none, _ => False
  | some (_, c), x => (0 ≤ x.1 ∧ c < s.size) ∨ (x.1 < 0 ∧ runesOf s = none)

set_option maxHeartbeats 1000000 in
set_option maxRecDepth 1000000 in
theorem steps1_any (F : Fence) (hF : F = Fence.wide) (n : Nat) (s : ByteArray) (w : World) (ht : txtOk w s) (_hsz : s.size < 4611686018427387904) (l : Nat) (J : Option (ByteArray × Nat) → World → Prop) (Jx : Code → Option (ByteArray × Nat) → World → Prop) (W : World)
    (hJI : ∀ s W, J s W → lenI w s W) (hJ : ∀ s s' W W', J s W → lenI w s' W' → KeepsOthers W W' → J s' W')
    (hY : ∀ st x W1, J st W1 → lenG s st x → YieldAt F (n - 1) Tryz.prog l #[.int .i32 x.1, .int .i64 x.2] W1 fun e W' => (e = .returned (.bool true) ∧ J (lenStep st x) W') ∨ (e = .returned (.bool false) ∧ ∃ c, Jx c (lenStep st x) W'))
    (h0 : J (some (s, 0)) W) :
    CallsIn F n Tryz.prog 125 (#[.func (.yield l) #[] #[]] ++ #[.pointer (some ⟨w.heap.size + 2, 0, none⟩)]) W fun e W' => (∃ v, e = .returned v) ∧ ((∃ st, (∃ t c, st = some (t, c) ∧ lenRel s t c ∧ t.size = 0) ∧ J st W') ∨ (∃ c st, Jx c st W')) := by
  subst hF
  refine callsIn_of_wp Tryz.func125 rfl trivial ?_ rfl
  simp only [Tryz.ntmps125, List.size_toArray, List.length_cons, List.length_nil, Nat.reduceAdd, Nat.reduceSub, Array.replicate_succ, Array.replicate_zero, List.push_toArray, List.append_toArray, List.nil_append, List.cons_append]
  gi_wp2
  gi_loopw [] (fun wr => ∃ t c, lenRel s t c ∧ txtOk w t ∧ J (some (t, c)) wr) (fun wr => match wr.cell? ⟨w.heap.size + 2, 0, none⟩ with | some (.string t) => t.size | _ => 0)
  case atStart => exact ⟨s, 0, .start s, ht, h0⟩
  case round =>
    obtain ⟨t, c, hrl, htt, hJ0⟩ := hrel
    obtain ⟨m0, k0, k1, k2⟩ := hJI _ _ hJ0
    have hc2 : wr.cell? ⟨w.heap.size + 2, 0, none⟩ = some (.string t) := by rw [k2.cell]; rfl
    by_cases h0 : t.size = 0
    · have hd : decide (0 < (t.size : Int)) = false := by simp [h0]
      gi_wp2
      go_end0
      exact ⟨⟨_, rfl⟩, .inl ⟨some (t, c), ⟨t, c, rfl, hrl, h0⟩, hJ0⟩⟩
    · have hd : decide (0 < (t.size : Int)) = true := by simp; omega
      gi_wp2_with fail
      refine ⟨trivial, fun h => (by cases h), ?_⟩
      refine (callsIn_wide.2 (decode_any t wr h0 (htt.grown m0))).mono ?_
      rintro e W1 ⟨rfl, m1⟩
      have hJ1 := hJ _ (some (t, c)) _ _ hJ0 ⟨m0.trans m1, k0.mod m1 (fun e => e), k1.mod m1 (fun e => e), k2.mod m1 (fun e => e)⟩ (keeps_none m1)
      have hc3 : W1.cell? ⟨w.heap.size + 2, 0, none⟩ = some (.string t) := by rw [(k2.mod m1 (fun e => e)).cell]; rfl
      have hpos := decodeGo_pos h0
      have hcs : c < s.size := by have := hrl.2; omega
      by_cases hb : bad1 t
      · obtain ⟨fn, tmps, assign, body, hy, hR⟩ := hY (some (t, c)) (-1, 0) W1 hJ1 (.inr ⟨by decide, hrl.bad h0 hb⟩)
        have hb' : (Lib.decodeGo t).1 = 65533 ∧ (Lib.decodeGo t).2 < 2 := hb
        obtain ⟨r, hr⟩ : ∃ r, r = (Lib.decodeGo t).1 := ⟨_, rfl⟩
        obtain ⟨q, hq⟩ : ∃ q, q = (Lib.decodeGo t).2 := ⟨_, rfl⟩
        rw [← hr, ← hq] at hb' ⊢
        obtain ⟨rfl, hq2⟩ := hb'
        have hqd : decide ((q : Int) < 2) = true := by simp; omega
        clear hr hq hpos hb
        gi_wp2_with fail
        refine ⟨fun h => (by cases h), ?_⟩
        refine hR.mono ?_
        rintro e W' (⟨rfl, hj⟩ | ⟨rfl, cc, hj⟩)
        · exact (hJI _ _ hj).elim
        · gi_wp2
          refine bodyPost_ret (results_none rfl _ _ _) rfl ?_
          exact ⟨⟨_, rfl⟩, .inr ⟨cc, _, hj⟩⟩
      · obtain ⟨r, hr⟩ : ∃ r, r = (Lib.decodeGo t).1 := ⟨_, rfl⟩
        obtain ⟨q, hq⟩ : ∃ q, q = (Lib.decodeGo t).2 := ⟨_, rfl⟩
        have hst := hrl.step h0 hb
        have hb' : ¬ ((Lib.decodeGo t).1 = 65533 ∧ (Lib.decodeGo t).2 < 2) := hb
        rw [← hr, ← hq] at hb' ⊢
        rw [← hq] at hpos hst
        obtain ⟨fn, tmps, assign, body, hy, hR⟩ := hY (some (t, c)) ((r : Int), (q : Int)) W1 hJ1 (.inl ⟨by simp, hcs⟩)
        have hstep : lenStep (some (t, c)) ((r : Int), (q : Int)) = some (t, c + 1) := by
          show (if (r : Int) < 0 then none else some (t, c + 1)) = _
          rw [if_neg (by omega)]
        rw [hstep] at hR
        dsimp only at hy
        have hr0 : 0 ≤ (r : Int) := by omega
        by_cases h65 : r = 65533
        · have h66 : ((r : Int) == 65533) = true := by simp; omega
          have hq2 : 2 ≤ q := by omega
          have hq3 : decide ((q : Int) < 2) = false := by simp; omega
          clear hr hq hb hb' h65
          gi_wp2_with fail
          refine ⟨fun h => (by cases h), ?_⟩
          refine hR.mono ?_
          rintro e W' (⟨rfl, hj⟩ | ⟨rfl, cc, hj⟩)
          · obtain ⟨m4, k4, k5, k6⟩ := hJI _ _ hj
            have hc4 : W'.cell? ⟨w.heap.size + 2, 0, none⟩ = some (.string t) := by rw [k6.cell]; rfl
            have hf4 := k6.frozen 0
            have hql : q ≤ t.size := hpos.2.2
            have k7 := k6.set 0 (.string (tl t q))
            have hne : ∀ k, one (w.heap.size + 2) k → k = w.heap.size + 2 := fun _ e => e
            have M7 := (Mod.refl (one (w.heap.size + 2)) W').setCell ⟨w.heap.size + 2, 0, none⟩ (fun _ => rfl) (.string (tl t q))
            have e1 : (W'.setCell ⟨w.heap.size + 2, 0, none⟩ (.string (t.extract q t.size))).cell? ⟨w.heap.size + 2, 0, none⟩ = some (.string (tl t q)) := by
              have := k7.cell 0
              exact this
            gi_wp2
            refine ⟨⟨tl t q, c + 1, hst, htt.tl q, hJ _ _ _ _ hj ⟨m4.setCell _ (fun h => absurd h (by simp)) _, k4.mod M7 (fun e => by have := hne _ e; omega), k5.mod M7 (fun e => by have := hne _ e; omega), k7⟩ (KeepsOthers.setCell _ _ _)⟩, ?_⟩
            rw [e1, hc2]
            show (tl t q).size < t.size
            rw [tl_size]; omega
          · gi_wp2
            refine bodyPost_ret (results_none rfl _ _ _) rfl ?_
            exact ⟨⟨_, rfl⟩, .inr ⟨cc, _, hj⟩⟩
        · have h66 : ((r : Int) == 65533) = false := by simp; omega
          have h67 : ¬ (r : Int) = 65533 := by omega
          have h68 : decide ((r : Int) = 65533) = false := by simp; omega
          clear hr hq hb hb'
          gi_wp2_with fail
          refine ⟨fun h => (by cases h), ?_⟩
          refine hR.mono ?_
          rintro e W' (⟨rfl, hj⟩ | ⟨rfl, cc, hj⟩)
          · obtain ⟨m4, k4, k5, k6⟩ := hJI _ _ hj
            have hc4 : W'.cell? ⟨w.heap.size + 2, 0, none⟩ = some (.string t) := by rw [k6.cell]; rfl
            have hf4 := k6.frozen 0
            have hql : q ≤ t.size := hpos.2.2
            have k7 := k6.set 0 (.string (tl t q))
            have hne : ∀ k, one (w.heap.size + 2) k → k = w.heap.size + 2 := fun _ e => e
            have M7 := (Mod.refl (one (w.heap.size + 2)) W').setCell ⟨w.heap.size + 2, 0, none⟩ (fun _ => rfl) (.string (tl t q))
            have e1 : (W'.setCell ⟨w.heap.size + 2, 0, none⟩ (.string (t.extract q t.size))).cell? ⟨w.heap.size + 2, 0, none⟩ = some (.string (tl t q)) := by
              have := k7.cell 0
              exact this
            gi_wp2
            refine ⟨⟨tl t q, c + 1, hst, htt.tl q, hJ _ _ _ _ hj ⟨m4.setCell _ (fun h => absurd h (by simp)) _, k4.mod M7 (fun e => by have := hne _ e; omega), k5.mod M7 (fun e => by have := hne _ e; omega), k7⟩ (KeepsOthers.setCell _ _ _)⟩, ?_⟩
            rw [e1, hc2]
            show (tl t q).size < t.size
            rw [tl_size]; omega
          · gi_wp2
            refine bodyPost_ret (results_none rfl _ _ _) rfl ?_
            exact ⟨⟨_, rfl⟩, .inr ⟨cc, _, hj⟩⟩

set_option maxHeartbeats 1000000 in
set_option maxRecDepth 1000000 in
theorem len_any (s : ByteArray) (w : World) (ht : txtOk w s) (hsz : s.size < 4611686018427387904) : Calls Tryz.prog 97 #[.string s] w fun e w' => e = .returned (.int .i64 (ulen s)) ∧ Mod none_ w w' := by
  refine (callsIn_wide (n := 5)).1 ?_
  refine callsIn_of_wp_marks Tryz.func97 rfl trivial ?_ rfl
  simp only [Tryz.ntmps97, List.size_toArray, List.length_cons, List.length_nil, Nat.reduceAdd, Nat.reduceSub, Array.replicate_succ, Array.replicate_zero, List.push_toArray, List.append_toArray, List.nil_append, List.cons_append]
  gi_wp2_with fail
  refine ⟨trivial, ?_⟩
  refine (callsIn_wide.2 (steps_any s _)).mono ?_
  rintro e w2 ⟨rfl, rfl⟩
  gi_wp2_with fail
  obtain ⟨W0, hW0⟩ : ∃ W0, (((w.alloc (.cells #[.int .i64 0] 3)).alloc (.cells #[.int .i64 0] 3)).alloc (.cells #[.string s] 9)) = W0 := ⟨_, rfl⟩
  have hz : W0.heap.size = w.heap.size + 3 := by rw [← hW0]; simp
  have hI0 : lenI w (some (s, 0)) W0 := by
    rw [← hW0]
    have m := (((Mod.refl none_ w).alloc (.cells #[.int .i64 0] 3)).alloc (.cells #[.int .i64 0] 3)).alloc (.cells #[.string s] 9)
    have b0 := Blk.new (w := w) (cs := [.int .i64 0]) (t := 3)
    have b1 := Blk.new (w := w.alloc (.cells #[.int .i64 0] 3)) (cs := [.int .i64 0]) (t := 3)
    have b2 := Blk.new (w := (w.alloc (.cells #[.int .i64 0] 3)).alloc (.cells #[.int .i64 0] 3)) (cs := [.string s]) (t := 9)
    rw [World.size_alloc] at b1
    rw [World.size_alloc, World.size_alloc] at b2
    exact ⟨m, (b0.mod ((Mod.refl none_ _).alloc _) (fun e => e)).mod ((Mod.refl none_ _).alloc _) (fun e => e), b1.mod ((Mod.refl none_ _).alloc _) (fun e => e), b2⟩
  have hlb : (w.heap.size + 1 + 1 : Nat) = w.heap.size + 2 := rfl
  rw [hW0]
  refine rangeFunc_law (w := W0) rfl (by decide) (gf := 125) (lb := #[.pointer (some ⟨w.heap.size + 1 + 1, 0, none⟩)]) rfl trivial (enters_of Tryz.func125 (by kernel_rfl) rfl)
    (fun x : Int × Int => #[.int .i32 x.1, .int .i64 x.2]) (fun _ => rfl) (lenI w) (fun c st W => c = .ret ∧ runesOf s = none ∧ Mod none_ w W ∧ Blk W w.heap.size [.int .i64 (-1)] 3) lenStep (lenG s) (fun st => ∃ t c, st = some (t, c) ∧ lenRel s t c ∧ t.size = 0) (some (s, 0)) ?hI ?hIx hI0
    (fun x => { tmps := #[.string s, undef, .pointer (some ⟨w.heap.size, 0, none⟩), .pointer (some ⟨w.heap.size + 1, 0, none⟩), .int .i32 x.1, .string s, .func (.func 125) #[] #[.pointer (some ⟨w.heap.size + 1 + 1, 0, none⟩)], .int .i32 x.1, .int .i64 x.2, undef, undef, undef, undef, undef], defers := [] }) ?hiter ?assign ?body ?done ?stop
  case hI =>
    rintro (_ | ⟨t, c⟩) W W' h m
    · exact h.elim
    · obtain ⟨m0, k0, k1, k2⟩ := h
      exact ⟨m0.transOwn m (by omega), k0.own m, k1.own m, k2.own m⟩
  case hIx =>
    rintro c st W W' ⟨h1, h2, m0, k0⟩ m
    exact ⟨h1, h2, m0.transOwn m (by omega), k0.own m⟩
  case hiter =>
    intro l J Jx W hJI hJ hY h0
    exact steps1_any Fence.wide rfl (5 - 1) s w ht hsz l J Jx W hJI hJ hY h0
  case assign =>
    intro l x W K hK
    gi_wp2
    exact hK
  case body =>
    rintro l (_ | ⟨t, c⟩) x W hI hG
    · exact hI.elim
    · obtain ⟨m0, k0, k1, k2⟩ := hI
      have c0 : W.cell? ⟨w.heap.size, 0, none⟩ = some (.int .i64 0) := by rw [k0.cell]; rfl
      have f0 := k0.frozen 0
      have c1 : W.cell? ⟨w.heap.size + 1, 0, none⟩ = some (.int .i64 (c : Int)) := by rw [k1.cell]; rfl
      have f1 := k1.frozen 0
      have hne : ∀ b k, one b k → k = b := fun _ _ e => e
      rcases hG with ⟨hx, hc⟩ | ⟨hx, hs⟩
      · have hd : decide (x.1 < 0) = false := by simp; omega
        have hst : lenStep (some (t, c)) x = some (t, c + 1) := by
          show (if x.1 < 0 then none else some (t, c + 1)) = _
          rw [if_neg (by omega)]
        rw [hst]
        have k7 := k1.set 0 (.int .i64 ((c : Int) + 1))
        have M7 := (Mod.refl (one (w.heap.size + 1)) W).setCell ⟨w.heap.size + 1, 0, none⟩ (fun _ => rfl) (.int .i64 ((c : Int) + 1))
        gi_wp2
        exact ⟨KeepsOthers.setCell _ _ _, m0.setCell _ (fun h => absurd h (by simp)) _, k0.mod M7 (fun e => by have := hne _ _ e; omega), k7, k2.mod M7 (fun e => by have := hne _ _ e; omega)⟩
      · have hd : decide (x.1 < 0) = true := by simp; omega
        have k7 := k0.set 0 (.int .i64 (-1))
        have HS := Lib.hid hs
        clear hs
        gi_wp2
        exact ⟨KeepsOthers.setCell _ _ _, rfl, HS.out, m0.setCell _ (fun h => absurd h (by simp)) _, k7⟩
  case done =>
    rintro D st W ⟨t, c, rfl, hrel, h0⟩ ⟨m0, k0, k1, k2⟩ hD hlt
    have c0 : W.cell? ⟨w.heap.size, 0, none⟩ = some (.int .i64 0) := by rw [k0.cell]; rfl
    have f0 := k0.frozen 0
    have c1 : W.cell? ⟨w.heap.size + 1, 0, none⟩ = some (.int .i64 (c : Int)) := by rw [k1.cell]; rfl
    have k7 := k0.set 0 (.int .i64 (c : Int))
    have hK' := (KeepsOthers.setCell W ⟨w.heap.size, 0, none⟩ (.int .i64 (c : Int))).same D _ hD rfl
    have mP := loopOwn_put (B := W0.heap.size) (.deferred none) hlt hK' rfl
    have hc5 : ((W.setCell ⟨w.heap.size, 0, none⟩ (.int .i64 (c : Int))).putObj D (.deferred none)).cell? ⟨w.heap.size, 0, none⟩ = some (.int .i64 (c : Int)) := (k7.own mP).cell 0
    gi_wp2
    refine ⟨by simp, .inl ⟨_, _, rfl, run_takeDeferred hK', ?_⟩⟩
    refine ⟨.int .i64 (c : Int), ?_, by rw [hrel.done h0], (m0.setCell _ (fun h => absurd h (by simp)) _).transOwn mP (by omega)⟩
    simp [results, Tryz.f97, go_sem, hc5]
  case stop =>
    rintro D c st W ⟨rfl, hs, m0, k0⟩ hD hlt
    have mP := loopOwn_put (B := W0.heap.size) (.deferred none) hlt hD rfl
    have hc5 : (W.putObj D (.deferred none)).cell? ⟨w.heap.size, 0, none⟩ = some (.int .i64 (-1)) := (k0.own mP).cell 0
    have hu : ulen s = -1 := by unfold ulen; rw [hs]
    clear hs
    gi_wp2
    refine ⟨by simp, .inl ⟨_, _, rfl, run_takeDeferred hD, ?_⟩⟩
    refine ⟨.int .i64 (-1), ?_, rfl, m0.transOwn mP (by omega)⟩
    simp [results, Tryz.f97, go_sem, hc5]

end Go.Proofs.YtjgjjlolhdlofaaGreatDoor

namespace Go.Mine
open Go.RowKit

/-- What may change behind the second step is of the first's, or new. -/
theorem Mod.transIn {S T : Nat → Prop} {a b c : World} (h : Mod S a b) (k : Mod T b c) (hT : ∀ x, x < a.heap.size → T x → S x) : Mod S a c :=
  ⟨k.os.trans h.os, k.tape.trans h.tape, k.output.trans h.output, Nat.le_trans h.size k.size, fun i hi hs => (k.block i (Nat.lt_of_lt_of_le hi h.size) (fun t => hs (hT i hi t))).trans (h.block i hi hs)⟩

section
variable {α : Type} {f : α → List Value} {k : Nat}

/-- The cells of the elements, one behind the other. -/
def flat (f : α → List Value) (xs : List α) : List Value := xs.flatMap f

@[simp] theorem flat_nil : flat f [] = [] := rfl
@[simp] theorem flat_cons (x : α) (xs : List α) : flat f (x :: xs) = f x ++ flat f xs := by simp [flat]
@[simp] theorem flat_append (xs ys : List α) : flat f (xs ++ ys) = flat f xs ++ flat f ys := by simp [flat]

theorem flat_length (hk : ∀ x, (f x).length = k) (xs : List α) : (flat f xs).length = xs.length * k := by
  induction xs with
  | nil => simp
  | cons x r ih => simp [ih, hk, Nat.succ_mul]; omega

theorem flat_get (hk : ∀ x, (f x).length = k) : ∀ (xs : List α) (i j : Nat) (x : α), xs[i]? = some x → j < k → (flat f xs)[i * k + j]? = (f x)[j]?
  | [], i, j, x, h, _ => by simp at h
  | y :: r, 0, j, x, h, hj => by
    simp at h; subst h
    rw [flat_cons, Nat.zero_mul, Nat.zero_add, List.getElem?_append_left (by rw [hk]; exact hj)]
  | y :: r, i + 1, j, x, h, hj => by
    rw [flat_cons, List.getElem?_append_right (by rw [hk, Nat.succ_mul]; omega), hk, show (i + 1) * k + j - k = i * k + j from by rw [Nat.succ_mul]; omega]
    exact flat_get hk r i j x (by simpa using h) hj

theorem flat_take (hk : ∀ x, (f x).length = k) (xs : List α) (i : Nat) : (flat f xs).take (i * k) = flat f (xs.take i) := by
  induction xs generalizing i with
  | nil => simp
  | cons x r ih =>
    cases i with
    | zero => simp
    | succ i =>
      rw [flat_cons, List.take_succ_cons, flat_cons, List.take_append, hk, List.take_of_length_le (by rw [hk, Nat.succ_mul]; omega), show (i + 1) * k - k = i * k from by rw [Nat.succ_mul]; omega, ih]

theorem flat_drop (hk : ∀ x, (f x).length = k) (xs : List α) (i : Nat) : (flat f xs).drop (i * k) = flat f (xs.drop i) := by
  induction xs generalizing i with
  | nil => simp
  | cons x r ih =>
    cases i with
    | zero => simp
    | succ i =>
      rw [flat_cons, List.drop_succ_cons, List.drop_append, hk, List.drop_eq_nil_of_le (by rw [hk, Nat.succ_mul]; omega), show (i + 1) * k - k = i * k from by rw [Nat.succ_mul]; omega, ih, List.nil_append]

theorem flat_set (hk : ∀ x, (f x).length = k) (xs : List α) (more : List Value) (i : Nat) (y : α) (hi : i < xs.length) :
    (flat f xs ++ more).take (i * k) ++ f y ++ (flat f xs ++ more).drop (i * k + k) = flat f (xs.set i y) ++ more := by
  have hl := flat_length hk xs
  have h1 : i * k + k ≤ xs.length * k := by rw [← Nat.succ_mul]; exact Nat.mul_le_mul_right k hi
  rw [List.take_append_of_le_length (by omega), List.drop_append_of_le_length (by omega), flat_take hk, ← Nat.succ_mul, flat_drop hk]
  rw [List.set_eq_take_append_cons_drop, if_pos hi]
  simp [Nat.succ_eq_add_one]

/-- The i-th element, read out of a block that holds the row from its head on. -/
theorem Blk.elem {w : World} {g : Nat} {t : TypeId} {xs : List α} {more : List Value} (hk : ∀ x, (f x).length = k) (h : Blk w g (flat f xs ++ more) t) (i j : Nat) (x : α) (hx : xs[i]? = some x) (hj : j < k) :
    w.cell? ⟨g, i * k + j, none⟩ = (f x)[j]? := by
  have hi := (List.getElem?_eq_some_iff.1 hx).1
  have h1 : i * k + k ≤ xs.length * k := by rw [← Nat.succ_mul]; exact Nat.mul_le_mul_right k hi
  rw [h.cell, List.getElem?_append_left (by rw [flat_length hk]; omega), flat_get hk xs i j x hx hj]

theorem Blk.range {w : World} {g : Nat} {t : TypeId} {xs : List α} {more : List Value} (hk : ∀ x, (f x).length = k) (h : Blk w g (flat f xs ++ more) t) (i : Nat) (x : α) (hx : xs[i]? = some x) : w.rangeAt g (i * k) (f x) := by
  intro j v hv
  have hj : j < k := by have := (List.getElem?_eq_some_iff.1 hv).1; rw [hk] at this; exact this
  rw [Blk.elem hk h i j x hx hj, hv]

theorem Blk.there {w : World} {g : Nat} {t : TypeId} {cs : List Value} (h : Blk w g cs t) (o n : Nat) (hn : o + n ≤ cs.length) : w.there g o n := fun j hj => by
  refine ⟨?_, h.frozen _⟩
  rw [h.cell, List.getElem?_eq_getElem (by omega)]; rfl

/-- The i-th element written over. -/
theorem Blk.put {w : World} {g : Nat} {t : TypeId} {xs : List α} {more : List Value} (hk : ∀ x, (f x).length = k) (h : Blk w g (flat f xs ++ more) t) (i : Nat) (hi : i < xs.length) (y : α) :
    Blk (w.setCells g (i * k) (f y)) g (flat f (xs.set i y) ++ more) t ∧ Mod (one g) w (w.setCells g (i * k) (f y)) := by
  have h1 : i * k + k ≤ xs.length * k := by rw [← Nat.succ_mul]; exact Nat.mul_le_mul_right k hi
  obtain ⟨a, b⟩ := Blk.setCells (f y) (i * k) w _ h (by rw [hk, List.length_append, flat_length hk]; omega)
  rw [hk, flat_set hk xs more i y hi] at a
  exact ⟨a, b⟩

end

theorem setCells_drew (w : World) (g o : Nat) (cs : List Value) : w.drew.setCells g o cs = (w.setCells g o cs).drew := by
  induction cs generalizing w o with
  | nil => rfl
  | cons v r ih => simp only [World.setCells]; rw [show w.drew.setCell ⟨g, o, none⟩ v = (w.setCell ⟨g, o, none⟩ v).drew from rfl]; exact ih _ _

def stRow (T : TypeId) (p v : Value) : Sem Unit := Instr.storeAt T p v

theorem run_stRow {P : Program} {T : TypeId} {k : Nat} (hi : (P.info? T).map (·.size) = some k) (w : World) (g o : Nat) (cs : List Value) (hk : cs.length = k) (h1 : ∀ v ∈ cs, v.oneCell' = true) (h : w.there g o k) :
    (stRow T (.pointer (some ⟨g, o, none⟩)) (.agg cs.toArray)).run P w = .ok () (w.setCells g o cs) := by
  subst hk
  have := run_storeAt_mid (P := P) w g o T cs.toArray (by simpa using h) (by simpa using hi) (all_oneCell_toArray h1)
  simpa [stRow] using this

/-- A struct that was just made, written whole, read whole. -/
theorem setCells_alloc_new (w : World) (zs : Array Value) (T : TypeId) (cs : List Value) (h : zs.size = cs.length) : (w.alloc (.cells zs T)).setCells w.heap.size 0 cs = w.alloc (.cells cs.toArray T) := by
  have hb : Blk (w.alloc (.cells zs T)) w.heap.size zs.toList T := heap_alloc_new w _
  obtain ⟨h1, h2⟩ := Blk.setCells cs 0 _ _ hb (by simp [h])
  have e1 : zs.toList.take 0 ++ cs ++ zs.toList.drop (0 + cs.length) = cs := by
    rw [List.take_zero, List.nil_append, List.drop_eq_nil_of_le (by simp [h]), List.append_nil]
  rw [e1] at h1
  have hsz : ∀ (vs : List Value) (o : Nat) (w : World) (g : Nat), (w.setCells g o vs).heap.size = w.heap.size := by
    intro vs
    induction vs with
    | nil => intro o w g; rfl
    | cons v r ih => intro o w g; simp only [World.setCells]; rw [ih]; simp [World.setCell]
  have hother : ∀ (vs : List Value) (o : Nat) (w : World) (g : Nat), (w.setCells g o vs).drawn = w.drawn ∧ (w.setCells g o vs).tape = w.tape ∧ (w.setCells g o vs).os = w.os ∧ (w.setCells g o vs).output = w.output := by
    intro vs
    induction vs with
    | nil => intro o w g; exact ⟨rfl, rfl, rfl, rfl⟩
    | cons v r ih => intro o w g; simp only [World.setCells]; exact ih _ _ _
  obtain ⟨d1, d2, d3, d4⟩ := hother cs 0 (w.alloc (.cells zs T)) w.heap.size
  have hheap : ((w.alloc (.cells zs T)).setCells w.heap.size 0 cs).heap = (w.alloc (.cells cs.toArray T)).heap := by
    apply Array.ext_getElem?
    intro i
    by_cases hi : i = w.heap.size
    · subst hi
      have : (w.alloc (.cells cs.toArray T)).heap[w.heap.size]? = some (.cells cs.toArray T) := heap_alloc_new w _
      rw [this]; exact h1
    · by_cases hlt : i < w.heap.size
      · rw [h2.block i (by simp; omega) hi, Below.heap_alloc w _ i hlt, Below.heap_alloc w _ i hlt]
      · rw [Array.getElem?_eq_none (by rw [hsz]; simp; omega), Array.getElem?_eq_none (by simp; omega)]
  have hx : ∀ A C : World, A.heap = C.heap → A.drawn = C.drawn → A.tape = C.tape → A.os = C.os → A.output = C.output → A = C := by
    intro A C e1 e2 e3 e4 e5
    cases A; cases C
    simp only at e1 e2 e3 e4 e5
    subst e1 e2 e3 e4 e5; rfl
  exact hx _ _ hheap d1 d2 d3 d4

theorem there_alloc_new (w : World) (cs : Array Value) (T : TypeId) (k : Nat) (h : k ≤ cs.size) : (w.alloc (.cells cs T)).there w.heap.size 0 k :=
  Blk.there (t := T) (cs := cs.toList) (heap_alloc_new w _) 0 k (by simpa using h)
end Go.Mine

namespace Go.Proofs.YtjgjjlolhdlofaaGreatDoor
open Go.RowKit Go.Mine

/-- Spans in memory. -/
structure IsSpans (w : World) (a : Option Addr) (len cap : Nat) (l : List (Int × Int)) : Prop where
  n : l.length = len
  le : len ≤ cap
  big : cap ≤ maxLen
  ok : ∀ x ∈ l, (-9223372036854775808 ≤ x.1 ∧ x.1 ≤ 9223372036854775807) ∧ (-9223372036854775808 ≤ x.2 ∧ x.2 ≤ 9223372036854775807)
  cells : ∀ (i : Nat) (x : Int × Int), l[i]? = some x → ∃ b off, a = some ⟨b, off, none⟩ ∧ w.cell? ⟨b, off + i * 2, none⟩ = some (.int .i64 x.1) ∧ w.cell? ⟨b, off + i * 2 + 1, none⟩ = some (.int .i64 x.2)
theorem IsSpans.grown {w w' : World} {a : Option Addr} {len cap : Nat} {l : List (Int × Int)} (h : IsSpans w a len cap l) (m : Mod none_ w w') : IsSpans w' a len cap l :=
  ⟨h.n, h.le, h.big, h.ok, fun i x hx => by
    obtain ⟨b, off, e, c0, c1⟩ := h.cells i x hx
    exact ⟨b, off, e, m.cell (fun e => e) c0, m.cell (fun e => e) c1⟩⟩

/-- May a list of spans be, behind a place? -/
def spansFrom : Int → List (Int × Int) → Bool
  | _, [] => true
  | last, x :: r => decide (0 ≤ x.1 ∧ x.1 ≤ 20000 ∧ 1 ≤ x.2 ∧ x.2 ≤ 20000 - x.1 ∧ last < x.1) && spansFrom (x.1 + x.2) r
def spansOk (l : List (Int × Int)) : Bool := spansFrom (-1) l

def fitsB (x : Int × Int) : Bool := decide (0 ≤ x.1 ∧ x.1 ≤ 20000 ∧ 0 ≤ x.2 ∧ x.2 ≤ 20000 - x.1)

theorem fits_any (a b : Int) (w : World) (ha : -9223372036854775808 ≤ a ∧ a ≤ 9223372036854775807) (hb : -9223372036854775808 ≤ b ∧ b ≤ 9223372036854775807) :
    Calls Tryz.prog 167 #[.agg #[.int .i64 a, .int .i64 b]] w fun e w' => e = .returned (.bool (fitsB (a, b))) ∧ Mod none_ w w' := by
  have m := (Mod.refl none_ w).alloc (.cells #[.int .i64 a, .int .i64 b] 55)
  by_cases h1 : 0 ≤ a
  · by_cases h2 : a ≤ 20000
    · by_cases h3 : 0 ≤ b
      · by_cases h4 : b ≤ 20000 - a
        · have hf : fitsB (a, b) = true := by simp [fitsB]; omega
          rw [hf]
          go_enter Tryz.func167, Tryz.ntmps167
          go_wp2
          go_ret
          exact ⟨rfl, m⟩
        · have hf : fitsB (a, b) = false := by simp [fitsB]; omega
          rw [hf]
          go_enter Tryz.func167, Tryz.ntmps167
          go_wp2
          go_ret
          exact ⟨rfl, m⟩
      · have hf : fitsB (a, b) = false := by simp [fitsB]; omega
        rw [hf]
        go_enter Tryz.func167, Tryz.ntmps167
        go_wp2
        go_ret
        exact ⟨rfl, m⟩
    · have hf : fitsB (a, b) = false := by simp [fitsB]; omega
      rw [hf]
      go_enter Tryz.func167, Tryz.ntmps167
      go_wp2
      go_ret
      exact ⟨rfl, m⟩
  · have hf : fitsB (a, b) = false := by simp [fitsB]; omega
    rw [hf]
    go_enter Tryz.func167, Tryz.ntmps167
    go_wp2
    go_ret
    exact ⟨rfl, m⟩

theorem end_any (a b : Int) (w : World) (h : -9223372036854775808 ≤ a + b ∧ a + b ≤ 9223372036854775807) :
    Calls Tryz.prog 168 #[.agg #[.int .i64 a, .int .i64 b]] w fun e w' => e = .returned (.int .i64 (a + b)) ∧ Mod none_ w w' := by
  have m := (Mod.refl none_ w).alloc (.cells #[.int .i64 a, .int .i64 b] 55)
  go_enter Tryz.func168, Tryz.ntmps168
  go_wp2
  go_ret
  exact ⟨rfl, m⟩

theorem spansFrom_cons (last f n : Int) (r : List (Int × Int)) : spansFrom last ((f, n) :: r) = (decide (0 ≤ f ∧ f ≤ 20000 ∧ 1 ≤ n ∧ n ≤ 20000 - f ∧ last < f) && spansFrom (f + n) r) := rfl

set_option maxHeartbeats 1000000 in
set_option maxRecDepth 1000000 in
theorem spansMay_any (w : World) (a : Option Addr) (len cap : Nat) (l : List (Int × Int)) (h : IsSpans w a len cap l) :
    Calls Tryz.prog 166 #[.slice a len cap] w fun e w' => e = .returned (.bool (spansOk l)) ∧ Mod none_ w w' := by
  have hle := h.le
  have hbig := h.big
  unfold maxLen at hbig
  have hN := h.n
  have H := Lib.hid h
  clear h
  go_enter Tryz.func166, Tryz.ntmps166
  go_wp2_with fail
  go_loopg [3, 8] len (fun g s3 s8 wx => ∃ (k : Nat) (last : Int), g = len - k ∧ s3 = .int .i64 last ∧ s8 = .int .i64 k ∧ k ≤ len ∧ (-1 ≤ last ∧ last ≤ 20000) ∧ Mod none_ w wx ∧ RowKit.Hid (spansOk l = spansFrom last (l.drop k)))
  case atStart => exact ⟨0, -1, rfl, rfl, rfl, Nat.zero_le _, by omega, Mod.refl _ _, Lib.hid rfl⟩
  case round =>
    obtain ⟨k, last, rfl, rfl, rfl, hk, hlast, m0, hS⟩ := hrel
    have M0 := Lib.hid m0
    by_cases hlk : k < len
    · obtain ⟨⟨f, n⟩, hx⟩ : ∃ x, l[k]? = some x := ⟨l[k]'(by omega), by simp⟩
      obtain ⟨b, off, rfl, c0, c1⟩ := H.out.cells k _ hx
      obtain ⟨hf, hn⟩ := H.out.ok _ (List.mem_of_getElem? hx)
      have hd : l.drop k = (f, n) :: l.drop (k + 1) := by
        obtain ⟨hk', e⟩ := List.getElem?_eq_some_iff.1 hx
        rw [List.drop_eq_getElem_cons hk', e]
      have c0' := m0.cell (fun e => e) c0
      have c1' := m0.cell (fun e => e) c1
      dsimp only at hf hn c0' c1'
      have hlb := block_lt_of_cell c0'
      rw [hd, spansFrom_cons] at hS
      clear c0 c1 hx hd m0
      by_cases hF : fitsB (f, n) = true
      · have hff : 0 ≤ f ∧ f ≤ 20000 ∧ 0 ≤ n ∧ n ≤ 20000 - f := by simpa [fitsB] using hF
        by_cases hn1 : n < 1
        · have HR := Lib.hid (show spansOk l = false by rw [hS.out]; simp; omega)
          have hd1 : decide (n < 1) = true := by simpa using hn1
          go_wp2_with fail
          refine (fits_any f n _ hf hn).mono ?_
          rintro e w1 ⟨rfl, m1⟩
          rw [hF]
          have M1 := Lib.hid (M0.out.trans (((Mod.refl none_ wr).alloc _).trans m1))
          have kb := (Blk.new (w := wr) (cs := [.int .i64 f, .int .i64 n]) (t := 55)).mod m1 (fun e => e)
          have c2 : w1.cell? ⟨wr.heap.size, 1, none⟩ = some (.int .i64 n) := by rw [kb.cell]; rfl
          clear m1 kb
          go_wp2_with fail
          go_ret
          exact ⟨by rw [HR.out]; rfl, M1.out⟩
        · have hd1 : decide (n < 1) = false := by simp; omega
          by_cases hl1 : f ≤ last
          · have HR := Lib.hid (show spansOk l = false by rw [hS.out]; simp; omega)
            have hd2 : decide (f ≤ last) = true := by simpa using hl1
            go_wp2_with fail
            refine (fits_any f n _ hf hn).mono ?_
            rintro e w1 ⟨rfl, m1⟩
            rw [hF]
            have M1 := Lib.hid (M0.out.trans (((Mod.refl none_ wr).alloc _).trans m1))
            have kb := (Blk.new (w := wr) (cs := [.int .i64 f, .int .i64 n]) (t := 55)).mod m1 (fun e => e)
            have c2 : w1.cell? ⟨wr.heap.size, 1, none⟩ = some (.int .i64 n) := by rw [kb.cell]; rfl
            have c3 : w1.cell? ⟨wr.heap.size, 0, none⟩ = some (.int .i64 f) := by rw [kb.cell]; rfl
            clear m1 kb
            go_wp2_with fail
            go_ret
            exact ⟨by rw [HR.out]; rfl, M1.out⟩
          · have hd2 : decide (f ≤ last) = false := by simp; omega
            have HR := Lib.hid (show spansOk l = spansFrom (f + n) (l.drop (k + 1)) by
              have e1 : decide (0 ≤ f ∧ f ≤ 20000 ∧ 1 ≤ n ∧ n ≤ 20000 - f ∧ last < f) = true := by simp; omega
              rw [hS.out, e1, Bool.true_and])
            go_wp2_with fail
            refine (fits_any f n _ hf hn).mono ?_
            rintro e w1 ⟨rfl, m1⟩
            rw [hF]
            have M1 := Lib.hid (M0.out.trans (((Mod.refl none_ wr).alloc _).trans m1))
            have kb := (Blk.new (w := wr) (cs := [.int .i64 f, .int .i64 n]) (t := 55)).mod m1 (fun e => e)
            have c2 : w1.cell? ⟨wr.heap.size, 1, none⟩ = some (.int .i64 n) := by rw [kb.cell]; rfl
            have c3 : w1.cell? ⟨wr.heap.size, 0, none⟩ = some (.int .i64 f) := by rw [kb.cell]; rfl
            clear m1 kb
            go_wp2_with fail
            refine (end_any f n _ (by omega)).mono ?_
            rintro e w2 ⟨rfl, m2⟩
            have M2 := Lib.hid (M1.out.trans m2)
            clear m2
            go_wp2_with fail
            go_roundg (len - (k + 1))
            case measure => omega
            case rel => exact ⟨k + 1, f + n, rfl, rfl, by go_num, by omega, by omega, M2.out, HR⟩
      · have hF' : fitsB (f, n) = false := by simpa using hF
        have hff : ¬ (0 ≤ f ∧ f ≤ 20000 ∧ 0 ≤ n ∧ n ≤ 20000 - f) := by
          intro h; apply hF; simpa [fitsB] using h
        have HR := Lib.hid (show spansOk l = false by rw [hS.out]; simp; omega)
        go_wp2_with fail
        refine (fits_any f n _ hf hn).mono ?_
        rintro e w1 ⟨rfl, m1⟩
        rw [hF']
        have M1 := Lib.hid (M0.out.trans (((Mod.refl none_ wr).alloc _).trans m1))
        clear m1
        go_wp2_with fail
        go_ret
        exact ⟨by rw [HR.out]; rfl, M1.out⟩
    · obtain rfl : k = len := by omega
      have HR := Lib.hid (show spansOk l = true by rw [hS.out, List.drop_eq_nil_of_le (by omega)]; rfl)
      clear hS m0
      go_wp2_with fail
      go_ret
      exact ⟨by rw [HR.out]; rfl, M0.out⟩

end Go.Proofs.YtjgjjlolhdlofaaGreatDoor

namespace Go.Proofs.YtjgjjlolhdlofaaGreatDoor
open Go.RowKit Go.Mine

set_option maxHeartbeats 2000000 in
set_option maxRecDepth 1000000 in
theorem rspansMay_any (w : World) (a : Option Addr) (len cap : Nat) (l : List (Int × Int)) (h : IsSpans w a len cap l) :
    Calls Tryz.prog 87 #[.slice a len cap] w fun e w' => e = .returned (.bool (spansOk l)) ∧ Mod none_ w w' := by
  have hle := h.le
  have hbig := h.big
  unfold maxLen at hbig
  have hN := h.n
  have H := Lib.hid h
  clear h
  go_enter Tryz.func87, Tryz.ntmps87
  go_wp2_with fail
  go_loopg [3, 4] len (fun g s3 s4 wx => ∃ (k : Nat) (last : Int), g = len - k ∧ s3 = .int .i64 last ∧ s4 = .int .i64 k ∧ k ≤ len ∧ (-1 ≤ last ∧ last ≤ 20000) ∧ Mod none_ w wx ∧ RowKit.Hid (spansOk l = spansFrom last (l.drop k)))
  case atStart => exact ⟨0, -1, rfl, rfl, rfl, Nat.zero_le _, by omega, Mod.refl _ _, Lib.hid rfl⟩
  case round =>
    obtain ⟨k, last, rfl, rfl, rfl, hk, hlast, m0, hS⟩ := hrel
    have M0 := Lib.hid m0
    by_cases hlk : k < len
    · obtain ⟨⟨f, n⟩, hx⟩ : ∃ x, l[k]? = some x := ⟨l[k]'(by omega), by simp⟩
      obtain ⟨b, off, rfl, c0, c1⟩ := H.out.cells k _ hx
      obtain ⟨hf, hn⟩ := H.out.ok _ (List.mem_of_getElem? hx)
      have hd : l.drop k = (f, n) :: l.drop (k + 1) := by
        obtain ⟨hk', e⟩ := List.getElem?_eq_some_iff.1 hx
        rw [List.drop_eq_getElem_cons hk', e]
      have c0' := m0.cell (fun e => e) c0
      have c1' := m0.cell (fun e => e) c1
      dsimp only at hf hn c0' c1'
      have hlb := block_lt_of_cell c0'
      rw [hd, spansFrom_cons] at hS
      clear c0 c1 hx hd m0
      by_cases hn1 : n < 1
      · have HR := Lib.hid (show spansOk l = false by rw [hS.out]; simp; omega)
        have hd1 : decide (n < 1) = true := by simpa using hn1
        go_wp2_with fail
        go_quiet (fail)
        go_wp2_with fail
        go_ret
        exact ⟨by rw [HR.out]; rfl, M0.out.drewN _⟩
      have hd1 : decide (n < 1) = false := by simp; omega
      by_cases hl1 : f ≤ last
      · have HR := Lib.hid (show spansOk l = false by rw [hS.out]; simp; omega)
        have hd2 : decide (f ≤ last) = true := by simpa using hl1
        go_wp2_with fail
        go_quiet (fail)
        go_wp2_with fail
        go_ret
        exact ⟨by rw [HR.out]; rfl, M0.out.drewN _⟩
      have hd2 : decide (f ≤ last) = false := by simp; omega
      by_cases h20 : 20000 < f
      · have HR := Lib.hid (show spansOk l = false by rw [hS.out]; simp; omega)
        have hd3 : decide (20000 < f) = true := by simpa using h20
        go_wp2_with fail
        go_quiet (fail)
        go_wp2_with fail
        go_ret
        exact ⟨by rw [HR.out]; rfl, M0.out.drewN _⟩
      have hd3 : decide (20000 < f) = false := by simp; omega
      by_cases hfn : 20000 - f < n
      · have HR := Lib.hid (show spansOk l = false by rw [hS.out]; simp; omega)
        have hd4 : decide (20000 - f < n) = true := by simpa using hfn
        go_wp2_with fail
        go_quiet (fail)
        go_wp2_with fail
        go_ret
        exact ⟨by rw [HR.out]; rfl, M0.out.drewN _⟩
      have hd4 : decide (20000 - f < n) = false := by simp; omega
      have HR := Lib.hid (show spansOk l = spansFrom (f + n) (l.drop (k + 1)) by
        have e1 : decide (0 ≤ f ∧ f ≤ 20000 ∧ 1 ≤ n ∧ n ≤ 20000 - f ∧ last < f) = true := by simp; omega
        rw [hS.out, e1, Bool.true_and])
      go_wp2_with fail
      go_quiet (fail)
      go_wp2_with fail
      go_quiet (fail)
      go_wp2_with fail
      go_roundg (len - (k + 1))
      case measure => omega
      case rel => exact ⟨k + 1, f + n, rfl, rfl, by go_num, by omega, by omega, M0.out.drewN _, HR⟩
    · obtain rfl : k = len := by omega
      have HR := Lib.hid (show spansOk l = true by rw [hS.out, List.drop_eq_nil_of_le (by omega)]; rfl)
      clear hS m0
      go_wp2_with fail
      go_ret
      exact ⟨by rw [HR.out]; rfl, M0.out⟩

theorem spansFrom_ok : ∀ (l : List (Int × Int)) (last : Int), spansFrom last l = true → ∀ x ∈ l, 0 ≤ x.1 ∧ x.1 ≤ 20000 ∧ 1 ≤ x.2 ∧ x.2 ≤ 20000 - x.1
  | [], _, _, x, hx => by simp at hx
  | y :: r, last, h, x, hx => by
    simp only [spansFrom, Bool.and_eq_true, decide_eq_true_eq] at h
    rcases List.mem_cons.1 hx with rfl | hx
    · omega
    · exact spansFrom_ok r _ h.2 x hx
end Go.Proofs.YtjgjjlolhdlofaaGreatDoor

namespace Go.Proofs.YtjgjjlolhdlofaaGreatDoor
open Go.RowKit Go.Mine

/-- Does a span of the list have the place? -/
def hasPl (l : List (Int × Int)) (i : Nat) : Bool := l.any fun x => decide (x.1 ≤ (i : Int) ∧ (i : Int) < x.1 + x.2)
theorem hasPl_past : ∀ (l : List (Int × Int)) (last : Int) (i : Nat), spansFrom last l = true → (i : Int) ≤ last → hasPl l i = false
  | [], _, _, _, _ => rfl
  | x :: r, last, i, h, hi => by
    simp only [spansFrom, Bool.and_eq_true, decide_eq_true_eq] at h
    have h2 := hasPl_past r (x.1 + x.2) i h.2 (by omega)
    unfold hasPl at h2 ⊢
    rw [List.any_cons, h2, Bool.or_false]
    simp; omega
end Go.Proofs.YtjgjjlolhdlofaaGreatDoor

namespace Go.Proofs.YtjgjjlolhdlofaaGreatDoor
open Go.RowKit Go.Mine

def marksOf (M : Nat → Bool) : List Value := (List.range 20000).map fun i => .bool (M i)
theorem marksOf_len (M : Nat → Bool) : (marksOf M).length = 20000 := by unfold marksOf; rw [List.length_map, List.length_range]
theorem marksOf_at (M : Nat → Bool) (i : Nat) (hi : i < 20000) : (marksOf M)[i]? = some (.bool (M i)) := by
  unfold marksOf; rw [List.getElem?_map, List.getElem?_range hi]; rfl
theorem marksOf_nil : marksOf (fun _ => false) = List.replicate 20000 (.bool false) := by
  unfold marksOf
  apply List.ext_getElem?
  intro j
  rw [List.getElem?_map, List.getElem?_replicate]
  by_cases h : j < 20000
  · rw [List.getElem?_range h, if_pos h]; rfl
  · rw [List.getElem?_eq_none (by rw [List.length_range]; omega), if_neg h]; rfl
theorem marksOf_set (M : Nat → Bool) (i : Nat) (hi : i < 20000) : (marksOf M).set i (.bool true) = marksOf (fun j => M j || decide (j = i)) := by
  apply List.ext_getElem?
  intro j
  by_cases hj : j < 20000
  · rw [marksOf_at _ _ hj, List.getElem?_set, marksOf_len, marksOf_at _ _ hj]
    by_cases e : i = j
    · subst e; rw [if_pos rfl, if_pos hi]; simp
    · rw [if_neg e]; simp [show ¬ j = i from fun h => e h.symm]
  · rw [List.getElem?_eq_none (by rw [List.length_set, marksOf_len]; omega), List.getElem?_eq_none (by rw [marksOf_len]; omega)]
theorem made_n (n : Nat) : (madeCells #[Value.bool false] n) = (List.replicate n (Value.bool false)).toArray := by
  rw [← toList_madeCells_one]
theorem marksOf_made (w : World) : Blk (w.alloc (.cells (madeCells #[.bool false] 20000) 4)) w.heap.size (marksOf (hasPl [])) 4 := by
  have e : hasPl [] = fun _ => false := rfl
  rw [e, marksOf_nil]
  rw [made_n]
  exact Blk.new
theorem hasPl_take (l : List (Int × Int)) (k F N : Nat) (hx : l[k]? = some ((F : Int), (N : Int))) (i : Nat) : hasPl (l.take (k + 1)) i = (hasPl (l.take k) i || decide (F ≤ i ∧ i < F + N)) := by
  obtain ⟨hk, e⟩ := List.getElem?_eq_some_iff.1 hx
  unfold hasPl
  rw [List.take_succ_eq_append_getElem hk, List.any_append, e]
  congr 1
  simp only [List.any_cons, List.any_nil, Bool.or_false]
  congr 1
  exact propext ⟨fun h => by omega, fun h => by omega⟩

set_option maxHeartbeats 2000000 in
set_option maxRecDepth 1000000 in
theorem marks_any (w : World) (a : Option Addr) (len cap : Nat) (l : List (Int × Int)) (h : IsSpans w a len cap l) (hok : spansOk l = true) :
    Calls Tryz.prog 37 #[.slice a len cap] w fun e w' => e = .returned (.tuple #[.slice (some ⟨w.heap.size, 0, none⟩) 20000 20000, .bool true]) ∧ Blk w' w.heap.size (marksOf (hasPl l)) 4 ∧ Mod none_ w w' := by
  have hle := h.le
  have hbig := h.big
  unfold maxLen at hbig
  have hN := h.n
  have H := Lib.hid h
  have HA := Lib.hid (spansFrom_ok l (-1) hok)
  have hmk : ∀ w, (Instr.makeSlice 85 (.int .i64 20000) (.int .i64 20000)).run Tryz.prog w = .ok (.slice (some ⟨w.heap.size, 0, none⟩) 20000 20000) (w.alloc (.cells (madeCells #[.bool false] 20000) 4)) := fun w => by
    exact run_make_row' (P := Tryz.prog) 85 4 (.bool false) 1 Tryz.underlying85 (by kernel_rfl) rfl .i64 .i64 20000 (by decide) (by decide) w
  have kG := Lib.hid (marksOf_made w)
  have mG := Lib.hid ((Mod.refl none_ w).alloc (.cells (madeCells #[.bool false] 20000) 4))
  clear h hok
  go_enter Tryz.func37, Tryz.ntmps37
  go_wp2_with fail
  generalize w.alloc (.cells (madeCells #[.bool false] 20000) 4) = w0 at kG mG ⊢
  obtain ⟨G, hG⟩ : ∃ G, G = w.heap.size := ⟨_, rfl⟩
  rw [← hG] at kG ⊢
  have HG := Lib.hid hG
  have hGlow : w.heap.size ≤ G := by omega
  clear hG
  go_loopg [5] len (fun g s5 wx => ∃ k : Nat, g = len - k ∧ s5 = .int .i64 k ∧ k ≤ len ∧ Mod none_ w wx ∧ Blk wx G (marksOf (hasPl (l.take k))) 4)
  case atStart => exact ⟨0, rfl, rfl, Nat.zero_le _, mG.out, by rw [List.take_zero]; exact kG.out⟩
  case round =>
    obtain ⟨k, rfl, rfl, hk, m0, kb⟩ := hrel
    have M0 := Lib.hid m0
    have KB := Lib.hid kb
    by_cases hlk : k < len
    · obtain ⟨⟨f, n⟩, hx⟩ : ∃ x, l[k]? = some x := ⟨l[k]'(by omega), by simp⟩
      obtain ⟨b, off, rfl, c0, c1⟩ := H.out.cells k _ hx
      obtain ⟨hf0, hf1, hn0, hn1⟩ := HA.out _ (List.mem_of_getElem? hx)
      have c0' := m0.cell (fun e => e) c0
      have c1' := m0.cell (fun e => e) c1
      dsimp only at hf0 hf1 hn0 hn1 c0' c1'
      obtain ⟨F, rfl⟩ : ∃ F : Nat, f = F := ⟨f.toNat, by omega⟩
      obtain ⟨N, rfl⟩ : ∃ N : Nat, n = N := ⟨n.toNat, by omega⟩
      have hlb := block_lt_of_cell c0'
      have HT := Lib.hid (hasPl_take l k F N hx)
      have hd1 : decide ((F : Int) < 0) = false := by simp
      have hd2 : decide (20000 < (F : Int)) = false := by simp; omega
      have hd3 : decide ((N : Int) < 0) = false := by simp
      have hd4 : decide (20000 - (F : Int) < (N : Int)) = false := by simp; omega
      have mB := Lib.hid (m0.alloc (.cells #[.int .i64 (F : Int), .int .i64 (N : Int)] 55))
      have kS := Lib.hid (Blk.new (w := wr) (cs := [.int .i64 (F : Int), .int .i64 (N : Int)]) (t := 55))
      have kB := Lib.hid (kb.mod ((Mod.refl none_ wr).alloc (.cells #[.int .i64 (F : Int), .int .i64 (N : Int)] 55)) (fun e => e))
      have hGl := kb.lt
      clear c0 c1 hx m0 kb
      go_wp2_with fail
      generalize wr.alloc (.cells #[.int .i64 (F : Int), .int .i64 (N : Int)] 55) = wA at mB kS kB ⊢
      obtain ⟨S, hS⟩ : ∃ S, S = wr.heap.size := ⟨_, rfl⟩
      rw [← hS] at kS hGl ⊢
      clear hS
      go_loopg [7] N (fun g s7 wx => ∃ j : Nat, g = N - j ∧ s7 = .int .i64 j ∧ j ≤ N ∧ Mod none_ w wx ∧ Blk wx G (marksOf (fun i => hasPl (l.take k) i || decide (F ≤ i ∧ i < F + j))) 4 ∧ Blk wx S [.int .i64 (F : Int), .int .i64 (N : Int)] 55)
      case atStart =>
        refine ⟨0, rfl, rfl, Nat.zero_le _, mB.out, ?_, kS.out⟩
        have e : (fun i => hasPl (l.take k) i || decide (F ≤ i ∧ i < F + 0)) = hasPl (l.take k) := by
          funext i
          rw [decide_eq_false (by omega), Bool.or_false]
        rw [e]; exact kB.out
      case round =>
        obtain ⟨j, rfl, rfl, hj, m2, kg, ks⟩ := hrel
        have M2 := Lib.hid m2
        have e0 : wr.cell? ⟨S, 0, none⟩ = some (.int .i64 (F : Int)) := by rw [ks.cell]; rfl
        have e1 : wr.cell? ⟨S, 1, none⟩ = some (.int .i64 (N : Int)) := by rw [ks.cell]; rfl
        by_cases hjn : j < N
        · have hFj : F + j < 20000 := by omega
          have g0 : wr.cell? ⟨G, F + j, none⟩ = some (.bool (hasPl (l.take k) (F + j) || decide (F ≤ F + j ∧ F + j < F + j))) := by rw [kg.cell, marksOf_at _ _ hFj]
          have gf := kg.frozen (F + j)
          have kn := kg.set (F + j) (.bool true)
          rw [marksOf_set _ _ hFj] at kn
          have ef : (fun i => (hasPl (l.take k) i || decide (F ≤ i ∧ i < F + j)) || decide (i = F + j)) = (fun i => hasPl (l.take k) i || decide (F ≤ i ∧ i < F + (j + 1))) := by
            funext i
            rw [Bool.or_assoc]
            congr 1
            rw [← Bool.decide_or]
            congr 1
            exact propext ⟨fun h => by omega, fun h => by omega⟩
          have KN := Lib.hid (by rw [← ef]; exact kn : Blk (wr.setCell ⟨G, F + j, none⟩ (.bool true)) G (marksOf (fun i => hasPl (l.take k) i || decide (F ≤ i ∧ i < F + (j + 1)))) 4)
          have mS := (Mod.refl (one G) wr).setCell ⟨G, F + j, none⟩ (fun _ => rfl) (.bool true)
          have KS := Lib.hid (ks.mod mS (fun e => by have e' : S = G := e; omega))
          have MN := Lib.hid (m2.setCell ⟨G, F + j, none⟩ (fun h => absurd h (by show ¬ G < w.heap.size; omega)) (.bool true))
          clear m2 kg ks kn ef mS
          go_wp2_with fail
          go_roundg (N - (j + 1))
          case measure => omega
          case rel => exact ⟨j + 1, rfl, by go_num, by omega, MN.out, KN.out, KS.out⟩
        · obtain rfl : j = N := by omega
          have ef : (fun i => hasPl (l.take k) i || decide (F ≤ i ∧ i < F + j)) = hasPl (l.take (k + 1)) := by
            funext i; rw [HT.out i]
          rw [ef] at kg
          have KG := Lib.hid kg
          clear m2 kg ks ef
          go_wp2_with fail
          go_roundg (len - (k + 1))
          case measure => omega
          case rel => exact ⟨k + 1, rfl, by go_num, by omega, M2.out, KG.out⟩
    · obtain rfl : k = len := by omega
      have e : l.take k = l := List.take_of_length_le (by omega)
      have KE := Lib.hid (by rw [← e]; exact kb : Blk wr G (marksOf (hasPl l)) 4)
      clear m0 kb
      go_wp2_with fail
      go_ret2
      exact ⟨by rw [← HG.out]; rfl, by rw [← HG.out]; exact KE.out, M0.out⟩

end Go.Proofs.YtjgjjlolhdlofaaGreatDoor

namespace Go.Proofs.YtjgjjlolhdlofaaGreatDoor
open Go.RowKit Go.Mine

def inB (n lo hi : Int) : Bool := decide (lo ≤ n ∧ n ≤ hi)
def nameOk (s q : Int) : Bool := inB s 1 16 && inB q 1 1099511627776
def textOk (s : ByteArray) : Bool := decide (s.size ≤ 800) && inB (ulen s) 1 200

theorem owithin_any (n lo hi : Int) (w : World) : Calls Tryz.prog 106 #[.int .i64 n, .int .i64 lo, .int .i64 hi] w fun e w' => e = .returned (.bool (inB n lo hi)) ∧ w' = w := by
  by_cases h1 : lo ≤ n
  · by_cases h2 : n ≤ hi
    · have hb : inB n lo hi = true := by simp [inB]; omega
      rw [hb]
      go_enter Tryz.func106, Tryz.ntmps106
      go_wp2
      go_ret
      exact ⟨rfl, rfl⟩
    · have hb : inB n lo hi = false := by simp [inB]; omega
      rw [hb]
      go_enter Tryz.func106, Tryz.ntmps106
      go_wp2
      go_ret
      exact ⟨rfl, rfl⟩
  · have hb : inB n lo hi = false := by simp [inB]; omega
    rw [hb]
    go_enter Tryz.func106, Tryz.ntmps106
    go_wp2
    go_ret
    exact ⟨rfl, rfl⟩
theorem vwithin_any (n lo hi : Int) (w : World) : Calls Tryz.prog 104 #[.int .i64 n, .int .i64 lo, .int .i64 hi] w fun e w' => e = .returned (.bool (inB n lo hi)) ∧ w' = w := by
  by_cases h1 : lo ≤ n
  · by_cases h2 : n ≤ hi
    · have hb : inB n lo hi = true := by simp [inB]; omega
      rw [hb]
      go_enter Tryz.func104, Tryz.ntmps104
      go_wp2
      go_ret
      exact ⟨rfl, rfl⟩
    · have hb : inB n lo hi = false := by simp [inB]; omega
      rw [hb]
      go_enter Tryz.func104, Tryz.ntmps104
      go_wp2
      go_ret
      exact ⟨rfl, rfl⟩
  · have hb : inB n lo hi = false := by simp [inB]; omega
    rw [hb]
    go_enter Tryz.func104, Tryz.ntmps104
    go_wp2
    go_ret
    exact ⟨rfl, rfl⟩
theorem vname_any (s q : Int) (w : World) : Calls Tryz.prog 102 #[.agg #[.int .i64 s, .int .i64 q]] w fun e w' => e = .returned (.bool (nameOk s q)) ∧ Mod none_ w w' := by
  have m := (Mod.refl none_ w).alloc (.cells #[.int .i64 s, .int .i64 q] 42)
  cases h1 : inB s 1 16
  · have hb : nameOk s q = false := by simp [nameOk, h1]
    rw [hb]
    go_enter Tryz.func102, Tryz.ntmps102
    go_wp2_with fail
    refine (vwithin_any s 1 16 _).mono ?_
    rintro e w1 ⟨rfl, rfl⟩
    rw [h1]
    go_wp2_with fail
    go_ret
    exact ⟨rfl, m⟩
  · have hb : nameOk s q = inB q 1 1099511627776 := by simp [nameOk, h1]
    rw [hb]
    go_enter Tryz.func102, Tryz.ntmps102
    go_wp2_with fail
    refine (vwithin_any s 1 16 _).mono ?_
    rintro e w1 ⟨rfl, rfl⟩
    rw [h1]
    go_wp2_with fail
    refine (vwithin_any q 1 1099511627776 _).mono ?_
    rintro e w1 ⟨rfl, rfl⟩
    cases h2 : inB q 1 1099511627776
    · go_wp2_with fail
      go_ret
      exact ⟨by rw [h2]; rfl, m⟩
    · go_wp2_with fail
      go_ret
      exact ⟨by rw [h2]; rfl, m⟩
theorem mayText_any (s : ByteArray) (w : World) (ht : txtOk w s) (hsz : s.size < 4611686018427387904) : Calls Tryz.prog 107 #[.string s] w fun e w' => e = .returned (.bool (textOk s)) ∧ Mod none_ w w' := by
  by_cases h1 : s.size ≤ 800
  · have hb : textOk s = inB (ulen s) 1 200 := by simp [textOk, h1]
    have hd : decide ((s.size : Int) ≤ 800) = true := by simp; omega
    rw [hb]
    have HT := Lib.hid ht
    clear ht hb
    go_enter Tryz.func107, Tryz.ntmps107
    go_wp2_with fail
    refine (len_any s w HT.out hsz).mono ?_
    rintro e w1 ⟨rfl, m1⟩
    have M1 := Lib.hid m1
    clear m1
    go_wp2_with fail
    refine (owithin_any (ulen s) 1 200 _).mono ?_
    rintro e w1 ⟨rfl, rfl⟩
    cases h2 : inB (ulen s) 1 200
    · go_wp2_with fail
      go_ret
      exact ⟨by rw [h2]; rfl, M1.out⟩
    · go_wp2_with fail
      go_ret
      exact ⟨by rw [h2]; rfl, M1.out⟩
  · have hb : textOk s = false := by simp [textOk]; omega
    have hd : decide ((s.size : Int) ≤ 800) = false := by simp; omega
    rw [hb]
    clear ht hb
    go_enter Tryz.func107, Tryz.ntmps107
    go_wp2_with fail
    go_ret
    exact ⟨rfl, Mod.refl _ _⟩

/-- An operation. -/
structure OpV where
  site : Int
  seq : Int
  num : Int
  kind : Int
  at_ : Int
  text : ByteArray
  sa : Option Addr
  slen : Nat
  scap : Nat
abbrev OpV.cs (o : OpV) : List Value := [.int .i64 o.site, .int .i64 o.seq, .int .i64 o.num, .int .i64 o.kind, .int .i64 o.at_, .string o.text, .slice o.sa o.slen o.scap]
abbrev OpV.v (o : OpV) : Value := .agg #[.int .i64 o.site, .int .i64 o.seq, .int .i64 o.num, .int .i64 o.kind, .int .i64 o.at_, .string o.text, .slice o.sa o.slen o.scap]
/-- Its fields are of their types, its text can be read, its spans are l. -/
structure OpV.ok (o : OpV) (w : World) (l : List (Int × Int)) : Prop where
  i1 : -9223372036854775808 ≤ o.site ∧ o.site ≤ 9223372036854775807
  i2 : -9223372036854775808 ≤ o.seq ∧ o.seq ≤ 9223372036854775807
  i3 : -9223372036854775808 ≤ o.num ∧ o.num ≤ 9223372036854775807
  i4 : -9223372036854775808 ≤ o.kind ∧ o.kind ≤ 9223372036854775807
  i5 : -9223372036854775808 ≤ o.at_ ∧ o.at_ ≤ 9223372036854775807
  tx : txtOk w o.text
  sz : o.text.size < 4611686018427387904
  sp : IsSpans w o.sa o.slen o.scap l
theorem OpV.ok.grown {o : OpV} {w w' : World} {l : List (Int × Int)} (h : o.ok w l) (m : Mod none_ w w') : o.ok w' l := { h with tx := h.tx.grown m, sp := h.sp.grown m }

/-- May an insertion be upon a size? -/
def insOk (o : OpV) (size : Int) : Bool := inB o.at_ 0 size && textOk o.text && decide (o.slen = 0) && decide (ulen o.text ≤ 20000 - size)

set_option maxHeartbeats 2000000 in
set_option maxRecDepth 1000000 in
theorem insMay_any (o : OpV) (size : Int) (w : World) (l : List (Int × Int)) (h : o.ok w l) (hs : 0 ≤ size ∧ size ≤ 20000) :
    Calls Tryz.prog 161 #[.agg #[], o.v, .int .i64 size] w fun e w' => e = .returned (.bool (insOk o size)) ∧ Mod none_ w w' := by
  have hsz := h.sz
  obtain ⟨W0, hW0⟩ : ∃ W0, (w.alloc (.cells #[] 195)).alloc (.cells o.cs.toArray 58) = W0 := ⟨_, rfl⟩
  have m0 : Mod none_ w W0 := by rw [← hW0]; exact ((Mod.refl none_ w).alloc _).alloc _
  have kB : Blk W0 (w.heap.size + 1) o.cs 58 := by
    have := Blk.new (w := w.alloc (.cells #[] 195)) (cs := o.cs) (t := 58)
    rw [World.size_alloc] at this
    rw [← hW0]; exact this
  have H0 := Lib.hid (h.grown m0)
  have M0 := Lib.hid m0
  have c3 : W0.cell? ⟨w.heap.size + 1, 4, none⟩ = some (.int .i64 o.at_) := by rw [kB.cell]; rfl
  have c4 : W0.cell? ⟨w.heap.size + 1, 5, none⟩ = some (.string o.text) := by rw [kB.cell]; rfl
  have KB := Lib.hid kB
  obtain ⟨R, hR⟩ : ∃ R, R = insOk o size := ⟨_, rfl⟩
  rw [← hR]
  have HR := Lib.hid hR
  clear h m0 kB hR
  go_enter Tryz.func161, Tryz.ntmps161
  go_upto_region 1 with fail
  clear hW0
  go_wp2_with fail
  refine (owithin_any o.at_ 0 size _).mono ?_
  rintro e w1 ⟨rfl, rfl⟩
  cases h1 : inB o.at_ 0 size
  · go_wp2_with fail
    go_ret
    exact ⟨by rw [HR.out]; simp [insOk, h1], M0.out⟩
  go_wp2_with fail
  refine (mayText_any o.text _ H0.out.tx hsz).mono ?_
  rintro e w2 ⟨rfl, m2⟩
  have c6 : w2.cell? ⟨w.heap.size + 1, 6, none⟩ = some (.slice o.sa o.slen o.scap) := by rw [(KB.out.mod m2 (fun e => e)).cell]; rfl
  have c5 : w2.cell? ⟨w.heap.size + 1, 5, none⟩ = some (.string o.text) := by rw [(KB.out.mod m2 (fun e => e)).cell]; rfl
  have M2 := Lib.hid (M0.out.trans m2)
  have T2 := Lib.hid (H0.out.tx.grown m2)
  clear m2
  cases h2 : textOk o.text
  · go_wp2_with fail
    go_ret
    exact ⟨by rw [HR.out]; simp [insOk, h1, h2], M2.out⟩
  by_cases h3 : o.slen = 0
  · have hd3 : decide ((o.slen : Int) = 0) = true := by simp [h3]
    rw [h3] at c6
    go_wp2_with fail
    refine (len_any o.text _ T2.out hsz).mono ?_
    rintro e w3 ⟨rfl, m3⟩
    have M3 := Lib.hid (M2.out.trans m3)
    have hu : -1 ≤ ulen o.text := by unfold ulen; split <;> omega
    clear m3
    by_cases h4 : ulen o.text ≤ 20000 - size
    · have hd4 : decide (ulen o.text ≤ 20000 - size) = true := by simpa using h4
      go_wp2_with fail
      go_ret
      exact ⟨by rw [HR.out]; simp [insOk, h1, h2, h3]; omega, M3.out⟩
    · have hd4 : decide (ulen o.text ≤ 20000 - size) = false := by simp; omega
      go_wp2_with fail
      go_ret
      exact ⟨by rw [HR.out]; simp [insOk, h1, h2, h3]; omega, M3.out⟩
  · have hd3 : decide ((o.slen : Int) = 0) = false := by simp; omega
    go_wp2_with fail
    go_ret
    exact ⟨by rw [HR.out]; simp [insOk, h1, h2, h3], M2.out⟩

end Go.Proofs.YtjgjjlolhdlofaaGreatDoor

namespace Go.Proofs.YtjgjjlolhdlofaaGreatDoor
open Go.RowKit Go.Mine

theorem m_imay (w : World) : (method 333 195 (.agg #[]) "foolscap/ops.may").run Tryz.prog w = .ok (161, .agg #[]) w := by kernel_rfl
theorem m_dmay (w : World) : (method 333 196 (.agg #[]) "foolscap/ops.may").run Tryz.prog w = .ok (164, .agg #[]) w := by kernel_rfl
theorem m_nmay (w : World) : (method 333 193 (.agg #[]) "foolscap/ops.may").run Tryz.prog w = .ok (157, .agg #[]) w := by kernel_rfl
theorem m_iadds (w : World) : (method 333 195 (.agg #[]) "foolscap/ops.adds").run Tryz.prog w = .ok (159, .agg #[]) w := by kernel_rfl
theorem m_nadds (w : World) : (method 333 193 (.agg #[]) "foolscap/ops.adds").run Tryz.prog w = .ok (155, .agg #[]) w := by kernel_rfl
theorem m_dadds (w : World) : (method 333 196 (.agg #[]) "foolscap/ops.adds").run Tryz.prog w = .ok (155, .agg #[]) w := by kernel_rfl

/-- The kind's value. -/
def kindV (k : Int) : Value := if k = 1 then .iface 195 (.agg #[]) else if k = 2 then .iface 196 (.agg #[]) else .iface 193 (.agg #[])
theorem of_any (k : Int) (w : World) : Calls Tryz.prog 115 #[.int .i64 k] w fun e w' => e = .returned (kindV k) ∧ w' = w := by
  by_cases h1 : k = 1
  · subst h1
    go_enter Tryz.func115, Tryz.ntmps115
    go_wp2
    go_ret
    exact ⟨rfl, rfl⟩
  · by_cases h2 : k = 2
    · subst h2
      go_enter Tryz.func115, Tryz.ntmps115
      go_wp2
      go_ret
      exact ⟨rfl, rfl⟩
    · have e : kindV k = .iface 193 (.agg #[]) := by unfold kindV; rw [if_neg h1, if_neg h2]
      rw [e]
      go_enter Tryz.func115, Tryz.ntmps115
      go_wp2
      go_ret
      exact ⟨rfl, rfl⟩
theorem nmay_any (o : OpV) (size : Int) (w : World) : Calls Tryz.prog 157 #[.agg #[], o.v, .int .i64 size] w fun e w' => e = .returned (.bool false) ∧ Mod none_ w w' := by
  have m := ((Mod.refl none_ w).alloc (.cells #[] 193)).alloc (.cells o.cs.toArray 58)
  go_enter Tryz.func157, Tryz.ntmps157
  go_wp2
  go_ret
  exact ⟨rfl, m⟩
theorem nadds_any (o : OpV) (w : World) : Calls Tryz.prog 155 #[.agg #[], o.v] w fun e w' => e = .returned (.int .i64 0) ∧ Mod none_ w w' := by
  have m := ((Mod.refl none_ w).alloc (.cells #[] 193)).alloc (.cells o.cs.toArray 58)
  go_enter Tryz.func155, Tryz.ntmps155
  go_wp2
  go_ret
  exact ⟨rfl, m⟩

/-- A box with an operation in it. -/
theorem opBox {w W0 : World} {o : OpV} {z : Obj} (hW : (w.alloc z).alloc (.cells o.cs.toArray 58) = W0) : Mod none_ w W0 ∧ Blk W0 (w.heap.size + 1) o.cs 58 := by
  refine ⟨by rw [← hW]; exact ((Mod.refl none_ w).alloc _).alloc _, ?_⟩
  have := Blk.new (w := w.alloc z) (cs := o.cs) (t := 58)
  rw [World.size_alloc] at this
  rw [← hW]; exact this

theorem iadds_any (o : OpV) (w : World) (l : List (Int × Int)) (h : o.ok w l) :
    Calls Tryz.prog 159 #[.agg #[], o.v] w fun e w' => e = .returned (.int .i64 (max 0 (ulen o.text))) ∧ Mod none_ w w' := by
  have hsz := h.sz
  obtain ⟨W0, hW0⟩ : ∃ W0, (w.alloc (.cells #[] 195)).alloc (.cells o.cs.toArray 58) = W0 := ⟨_, rfl⟩
  obtain ⟨m0, kB⟩ := opBox hW0
  have T0 := Lib.hid (h.tx.grown m0)
  have M0 := Lib.hid m0
  have c4 : W0.cell? ⟨w.heap.size + 1, 5, none⟩ = some (.string o.text) := by rw [kB.cell]; rfl
  clear h m0 kB
  go_enter Tryz.func159, Tryz.ntmps159
  go_upto_region 1 with fail
  clear hW0
  go_wp2_with fail
  refine (len_any o.text _ T0.out hsz).mono ?_
  rintro e w3 ⟨rfl, m3⟩
  have M3 := Lib.hid (M0.out.trans m3)
  clear m3
  go_wp2_with fail
  go_ret
  exact ⟨rfl, M3.out⟩

/-- How many cells an operation adds. -/
def addsOf (o : OpV) : Int := if o.kind = 1 then max 0 (ulen o.text) else 0

end Go.Proofs.YtjgjjlolhdlofaaGreatDoor

namespace Go.Proofs.YtjgjjlolhdlofaaGreatDoor
open Go.RowKit Go.Mine
attribute [local go_sem] m_imay m_dmay m_nmay m_iadds m_nadds m_dadds

/-- A box with an operation in it, alone. -/
theorem opBox1 {w W0 : World} {o : OpV} (hW : w.alloc (.cells o.cs.toArray 58) = W0) : Mod none_ w W0 ∧ Blk W0 w.heap.size o.cs 58 := by
  refine ⟨by rw [← hW]; exact (Mod.refl none_ w).alloc _, ?_⟩
  rw [← hW]; exact Blk.new

set_option maxHeartbeats 2000000 in
set_option maxRecDepth 1000000 in
theorem adds_any (o : OpV) (w : World) (l : List (Int × Int)) (h : o.ok w l) :
    Calls Tryz.prog 111 #[o.v] w fun e w' => e = .returned (.int .i64 (addsOf o)) ∧ Mod none_ w w' := by
  obtain ⟨W0, hW0⟩ : ∃ W0, w.alloc (.cells o.cs.toArray 58) = W0 := ⟨_, rfl⟩
  obtain ⟨m0, kB⟩ := opBox1 hW0
  have H0 := Lib.hid (h.grown m0)
  have M0 := Lib.hid m0
  have c0 : W0.cell? ⟨w.heap.size, 0, none⟩ = some (.int .i64 o.site) := by rw [kB.cell]; rfl
  have c1 : W0.cell? ⟨w.heap.size, 1, none⟩ = some (.int .i64 o.seq) := by rw [kB.cell]; rfl
  have c2 : W0.cell? ⟨w.heap.size, 2, none⟩ = some (.int .i64 o.num) := by rw [kB.cell]; rfl
  have c3 : W0.cell? ⟨w.heap.size, 3, none⟩ = some (.int .i64 o.kind) := by rw [kB.cell]; rfl
  have c4 : W0.cell? ⟨w.heap.size, 4, none⟩ = some (.int .i64 o.at_) := by rw [kB.cell]; rfl
  have c5 : W0.cell? ⟨w.heap.size, 5, none⟩ = some (.string o.text) := by rw [kB.cell]; rfl
  have c6 : W0.cell? ⟨w.heap.size, 6, none⟩ = some (.slice o.sa o.slen o.scap) := by rw [kB.cell]; rfl
  obtain ⟨R, hR⟩ : ∃ R, R = addsOf o := ⟨_, rfl⟩
  rw [← hR]
  have HR := Lib.hid hR
  clear h m0 kB hR
  by_cases h1 : o.kind = 1
  · have hk : kindV o.kind = .iface 195 (.agg #[]) := by unfold kindV; rw [if_pos h1]
    have HE := Lib.hid (show R = max 0 (ulen o.text) by rw [HR.out]; unfold addsOf; rw [if_pos h1])
    have HO := Lib.hid (of_any o.kind)
    rw [hk] at HO
    clear h1 hk
    go_enter Tryz.func111, Tryz.ntmps111
    go_upto_region 1 with fail
    clear hW0
    go_region_law (first
      | (go_simp; go_at_call 115; refine (HO.out _).mono ?_; rintro e w1 ⟨rfl, rfl⟩)
      | (go_simp; go_at_call 159; refine (iadds_any o _ _ (by exact H0.out.grown (Mod.refl none_ _).drew)).mono ?_; rintro e w1 ⟨rfl, m1⟩; have M1 := Lib.hid m1; clear m1))
    all_goals go_wp2_with fail
    all_goals go_ret
    all_goals exact ⟨by rw [HE.out]; rfl, (Mod.drew M0.out).trans M1.out⟩
  by_cases h2 : o.kind = 2
  · have hk : kindV o.kind = .iface 196 (.agg #[]) := by unfold kindV; rw [if_neg h1, if_pos h2]
    clear h2
    have HE := Lib.hid (show R = 0 by rw [HR.out]; unfold addsOf; rw [if_neg h1])
    have HO := Lib.hid (of_any o.kind)
    rw [hk] at HO
    clear h1 hk HR
    go_enter Tryz.func111, Tryz.ntmps111
    go_upto_region 1 with fail
    clear hW0
    go_region_law (first
      | (go_simp; go_at_call 115; refine (HO.out _).mono ?_; rintro e w1 ⟨rfl, rfl⟩)
      | (go_simp; go_at_call 155; refine (nadds_any o _).mono ?_; rintro e w1 ⟨rfl, m1⟩; have M1 := Lib.hid m1; clear m1))
    all_goals go_wp2_with fail
    all_goals go_ret
    all_goals exact ⟨by rw [HE.out]; rfl, (Mod.drew M0.out).trans M1.out⟩
  · have hk : kindV o.kind = .iface 193 (.agg #[]) := by unfold kindV; rw [if_neg h1, if_neg h2]
    clear h2
    have HE := Lib.hid (show R = 0 by rw [HR.out]; unfold addsOf; rw [if_neg h1])
    have HO := Lib.hid (of_any o.kind)
    rw [hk] at HO
    clear h1 hk HR
    go_enter Tryz.func111, Tryz.ntmps111
    go_upto_region 1 with fail
    clear hW0
    go_region_law (first
      | (go_simp; go_at_call 115; refine (HO.out _).mono ?_; rintro e w1 ⟨rfl, rfl⟩)
      | (go_simp; go_at_call 155; refine (nadds_any o _).mono ?_; rintro e w1 ⟨rfl, m1⟩; have M1 := Lib.hid m1; clear m1))
    all_goals go_wp2_with fail
    all_goals go_ret
    all_goals exact ⟨by rw [HE.out]; rfl, (Mod.drew M0.out).trans M1.out⟩

end Go.Proofs.YtjgjjlolhdlofaaGreatDoor

namespace Go.Proofs.YtjgjjlolhdlofaaGreatDoor
open Go.RowKit Go.Mine

/-- Is the last span's end at most a size? -/
def lastLe (l : List (Int × Int)) (size : Int) : Bool := match l.getLast? with
  | none => true
  | some x => decide (x.1 + x.2 ≤ size)
def delOk (o : OpV) (size : Int) (l : List (Int × Int)) : Bool := decide (o.at_ = 0) && o.text.toList.isEmpty && spansOk l && lastLe l size

set_option maxHeartbeats 16000000 in
set_option maxRecDepth 1000000 in
theorem delMay_any (o : OpV) (size : Int) (w : World) (l : List (Int × Int)) (h : o.ok w l) (_hs : 0 ≤ size ∧ size ≤ 20000) :
    Calls Tryz.prog 164 #[.agg #[], o.v, .int .i64 size] w fun e w' => e = .returned (.bool (delOk o size l)) ∧ Mod none_ w w' := by
  obtain ⟨W0, hW0⟩ : ∃ W0, (w.alloc (.cells #[] 196)).alloc (.cells o.cs.toArray 58) = W0 := ⟨_, rfl⟩
  obtain ⟨m0, kB⟩ := opBox hW0
  have H0 := Lib.hid (h.grown m0)
  have M0 := Lib.hid m0
  have c3 : W0.cell? ⟨w.heap.size + 1, 4, none⟩ = some (.int .i64 o.at_) := by rw [kB.cell]; rfl
  have c4 : W0.cell? ⟨w.heap.size + 1, 5, none⟩ = some (.string o.text) := by rw [kB.cell]; rfl
  have c6 : W0.cell? ⟨w.heap.size + 1, 6, none⟩ = some (.slice o.sa o.slen o.scap) := by rw [kB.cell]; rfl
  have hle := h.sp.le
  have hbig := h.sp.big
  unfold maxLen at hbig
  have hN := h.sp.n
  obtain ⟨R, hR⟩ : ∃ R, R = delOk o size l := ⟨_, rfl⟩
  rw [← hR]
  have HR := Lib.hid hR
  have HS := Lib.hid (fun W (m : Mod none_ W0 W) => spansMay_any W o.sa o.slen o.scap l (H0.out.sp.grown m))
  clear h m0 kB hR
  go_enter Tryz.func164, Tryz.ntmps164
  go_upto_region 2 with fail
  clear hW0
  by_cases h1 : o.at_ = 0
  · have hd1 : decide (o.at_ = 0) = true := by simpa using h1
    have hb1 : (o.at_ == 0) = true := by simpa using h1
    cases h2 : o.text.toList.isEmpty
    · have HE := Lib.hid (show R = false by rw [HR.out]; simp [delOk, h2])
      clear h1
      go_quiet (fail)
      go_wp2_with fail
      go_ret
      exact ⟨by rw [HE.out]; rfl, M0.out.drewN _⟩
    · have htx : o.text = ⟨#[]⟩ := by
        have h : o.text.toList = [] := by simpa using h2
        have h3 : o.text.size = 0 := by
          have := congrArg List.length h
          rw [List.length_nil, ByteArray.toList_eq] at this
          rw [← this]; exact (Array.length_toList (xs := o.text.data)).symm
        exact ByteArray.ext (Array.eq_empty_of_size_eq_zero (by rw [← h3]; rfl))
      rw [htx] at c4
      clear htx
      cases h3 : spansOk l
      · have HE := Lib.hid (show R = false by rw [HR.out]; simp [delOk, h3])
        have HS3 := HS.out
        rw [h3] at HS3
        have HS3 := Lib.hid HS3
        clear h1 h3
        refine wp_region_held_drew (S := fun w' => Mod none_ W0 w' ∧ w'.cell? ⟨w.heap.size + 1, 4, none⟩ = some (.int .i64 o.at_) ∧ w'.cell? ⟨w.heap.size + 1, 5, none⟩ = some (.string ⟨#[]⟩) ∧ w'.cell? ⟨w.heap.size + 1, 6, none⟩ = some (.slice o.sa o.slen o.scap)) (by kernel_rfl) ⟨Mod.drew (Mod.refl none_ W0), c3, c4, c6⟩ (fun hS => ?_)
        refine wpAnyH_take (i := 0) (v := .pointer (some ⟨w.heap.size + 1, 4, none⟩)) rfl (by kernel_rfl) (by kernel_rfl) (by kernel_rfl) (fun _ _ _ h => h) (Or.inl ⟨by kernel_rfl, ?_⟩) hS ?_
        · rintro w' ⟨_, q0, q1, q2⟩; go_simp
        simp only [Act.put, List.setIfInBounds_toArray]
        refine wpAnyH_take (i := 1) (v := .int .i64 o.at_) rfl (by kernel_rfl) (by kernel_rfl) (by kernel_rfl) (fun _ _ _ h => h) (Or.inl ⟨by kernel_rfl, ?_⟩) hS ?_
        · rintro w' ⟨_, q0, q1, q2⟩; go_simp
        simp only [Act.put]
        refine wpAnyH_take (i := 2) (v := .bool true) rfl (by kernel_rfl) (by kernel_rfl) (by kernel_rfl) (fun _ _ _ h => h) (Or.inl ⟨by kernel_rfl, ?_⟩) hS ?_
        · rintro w' ⟨_, q0, q1, q2⟩; go_simp
        simp only [Act.put]
        refine wpAnyH_take (i := 3) (v := .bool true) rfl (by kernel_rfl) (by kernel_rfl) (by kernel_rfl) (fun _ _ _ h => h) (Or.inl ⟨by kernel_rfl, ?_⟩) hS ?_
        · rintro w' ⟨_, q0, q1, q2⟩; go_simp
        simp only [Act.put]
        refine wpAnyH_take (i := 4) (v := .pointer (some ⟨w.heap.size + 1, 5, none⟩)) rfl (by kernel_rfl) (by kernel_rfl) (by kernel_rfl) (fun _ _ _ h => h) (Or.inl ⟨by kernel_rfl, ?_⟩) hS ?_
        · rintro w' ⟨_, q0, q1, q2⟩; go_simp
        simp only [Act.put]
        refine wpAnyH_take (i := 5) (v := .string ⟨#[]⟩) rfl (by kernel_rfl) (by kernel_rfl) (by kernel_rfl) (fun _ _ _ h => h) (Or.inl ⟨by kernel_rfl, ?_⟩) hS ?_
        · rintro w' ⟨_, q0, q1, q2⟩; go_simp
        simp only [Act.put]
        refine wpAnyH_take (i := 6) (v := .bool true) rfl (by kernel_rfl) (by kernel_rfl) (by kernel_rfl) (fun _ _ _ h => h) (Or.inl ⟨by kernel_rfl, ?_⟩) hS ?_
        · rintro w' ⟨_, q0, q1, q2⟩; go_simp
        simp only [Act.put]
        refine wpAnyH_take (i := 7) (v := .bool true) rfl (by kernel_rfl) (by kernel_rfl) (by kernel_rfl) (fun _ _ _ h => h) (Or.inl ⟨by kernel_rfl, ?_⟩) hS ?_
        · rintro w' ⟨_, q0, q1, q2⟩; go_simp
        simp only [Act.put]
        refine wpAnyH_take (i := 8) (v := .bool true) rfl (by kernel_rfl) (by kernel_rfl) (by kernel_rfl) (fun _ _ _ h => h) (Or.inl ⟨by kernel_rfl, ?_⟩) hS ?_
        · rintro w' ⟨_, q0, q1, q2⟩; go_simp
        simp only [Act.put]
        refine wpAnyH_take (i := 9) (v := .pointer (some ⟨w.heap.size + 1, 6, none⟩)) rfl (by kernel_rfl) (by kernel_rfl) (by kernel_rfl) (fun _ _ _ h => h) (Or.inl ⟨by kernel_rfl, ?_⟩) hS ?_
        · rintro w' ⟨_, q0, q1, q2⟩; go_simp
        simp only [Act.put]
        refine wpAnyH_take (i := 10) (v := .slice o.sa o.slen o.scap) rfl (by kernel_rfl) (by kernel_rfl) (by kernel_rfl) (fun _ _ _ h => h) (Or.inl ⟨by kernel_rfl, ?_⟩) hS ?_
        · rintro w' ⟨_, q0, q1, q2⟩; go_simp
        simp only [Act.put]
        refine wpAnyH_ready (rs := [11]) (by kernel_rfl) (by simp) (AllReadyH.cons rfl (fun K hK => ?_) <| AllReadyH.nil)
        rw [if_pos (by kernel_rfl)]
        go_simp
        refine (HS3.out _ (Mod.drew (Mod.refl none_ W0))).mono ?_
        rintro e w1 ⟨rfl, m1⟩
        have M1 := Lib.hid ((Mod.drew (Mod.refl none_ W0)).trans m1)
        refine hK.out _ _ ⟨M1.out, m1.cell (fun e => e) c3, m1.cell (fun e => e) c4, m1.cell (fun e => e) c6⟩ (fun hS => ?_)
        clear hK K m1
        try simp only [Act.put, List.setIfInBounds_toArray, List.set_cons_zero, List.set_cons_succ]
        refine wpAnyH_take (i := 12) (v := .bool false) rfl (by kernel_rfl) (by kernel_rfl) (by kernel_rfl) (fun _ _ _ h => h) (Or.inl ⟨by kernel_rfl, ?_⟩) hS ?_
        · rintro w' ⟨_, q0, q1, q2⟩; go_simp
        simp only [Act.put, List.setIfInBounds_toArray]
        refine wpAnyH_take (i := 13) (v := .bool false) rfl (by kernel_rfl) (by kernel_rfl) (by kernel_rfl) (fun _ _ _ h => h) (Or.inl ⟨by kernel_rfl, ?_⟩) hS ?_
        · rintro w' ⟨_, q0, q1, q2⟩; go_simp
        simp only [Act.put]
        refine wpAnyH_take (i := 14) (v := undef) rfl (by kernel_rfl) (by kernel_rfl) (by kernel_rfl) (fun _ _ _ h => h) (Or.inr ⟨by kernel_rfl, rfl⟩) hS ?_
        simp only [Act.put]
        refine wpAnyH_take (i := 15) (v := undef) rfl (by kernel_rfl) (by kernel_rfl) (by kernel_rfl) (fun _ _ _ h => h) (Or.inr ⟨by kernel_rfl, rfl⟩) hS ?_
        simp only [Act.put]
        refine wpAnyH_take (i := 16) (v := undef) rfl (by kernel_rfl) (by kernel_rfl) (by kernel_rfl) (fun _ _ _ h => h) (Or.inr ⟨by kernel_rfl, rfl⟩) hS ?_
        simp only [Act.put]
        refine wpAnyH_take (i := 17) (v := undef) rfl (by kernel_rfl) (by kernel_rfl) (by kernel_rfl) (fun _ _ _ h => h) (Or.inr ⟨by kernel_rfl, rfl⟩) hS ?_
        simp only [Act.put]
        refine wpAnyH_take (i := 18) (v := undef) rfl (by kernel_rfl) (by kernel_rfl) (by kernel_rfl) (fun _ _ _ h => h) (Or.inr ⟨by kernel_rfl, rfl⟩) hS ?_
        simp only [Act.put]
        refine wpAnyH_take (i := 19) (v := undef) rfl (by kernel_rfl) (by kernel_rfl) (by kernel_rfl) (fun _ _ _ h => h) (Or.inr ⟨by kernel_rfl, rfl⟩) hS ?_
        simp only [Act.put]
        refine wpAnyH_take (i := 20) (v := undef) rfl (by kernel_rfl) (by kernel_rfl) (by kernel_rfl) (fun _ _ _ h => h) (Or.inr ⟨by kernel_rfl, rfl⟩) hS ?_
        simp only [Act.put]
        refine wpAnyH_take (i := 21) (v := undef) rfl (by kernel_rfl) (by kernel_rfl) (by kernel_rfl) (fun _ _ _ h => h) (Or.inr ⟨by kernel_rfl, rfl⟩) hS ?_
        simp only [Act.put]
        refine wpAnyH_take (i := 22) (v := undef) rfl (by kernel_rfl) (by kernel_rfl) (by kernel_rfl) (fun _ _ _ h => h) (Or.inr ⟨by kernel_rfl, rfl⟩) hS ?_
        simp only [Act.put]
        refine wpAnyH_take (i := 23) (v := undef) rfl (by kernel_rfl) (by kernel_rfl) (by kernel_rfl) (fun _ _ _ h => h) (Or.inr ⟨by kernel_rfl, rfl⟩) hS ?_
        simp only [Act.put]
        refine wpAnyH_take (i := 24) (v := undef) rfl (by kernel_rfl) (by kernel_rfl) (by kernel_rfl) (fun _ _ _ h => h) (Or.inr ⟨by kernel_rfl, rfl⟩) hS ?_
        simp only [Act.put]
        refine wpAnyH_take (i := 25) (v := undef) rfl (by kernel_rfl) (by kernel_rfl) (by kernel_rfl) (fun _ _ _ h => h) (Or.inr ⟨by kernel_rfl, rfl⟩) hS ?_
        simp only [Act.put]
        refine wpAnyH_take (i := 26) (v := undef) rfl (by kernel_rfl) (by kernel_rfl) (by kernel_rfl) (fun _ _ _ h => h) (Or.inr ⟨by kernel_rfl, rfl⟩) hS ?_
        simp only [Act.put]
        refine wpAnyH_take (i := 27) (v := undef) rfl (by kernel_rfl) (by kernel_rfl) (by kernel_rfl) (fun _ _ _ h => h) (Or.inr ⟨by kernel_rfl, rfl⟩) hS ?_
        simp only [Act.put]
        refine wpAnyH_take (i := 28) (v := undef) rfl (by kernel_rfl) (by kernel_rfl) (by kernel_rfl) (fun _ _ _ h => h) (Or.inr ⟨by kernel_rfl, rfl⟩) hS ?_
        simp only [Act.put]
        refine wpAnyH_take (i := 29) (v := undef) rfl (by kernel_rfl) (by kernel_rfl) (by kernel_rfl) (fun _ _ _ h => h) (Or.inr ⟨by kernel_rfl, rfl⟩) hS ?_
        simp only [Act.put]
        refine wpAnyH_take (i := 30) (v := undef) rfl (by kernel_rfl) (by kernel_rfl) (by kernel_rfl) (fun _ _ _ h => h) (Or.inr ⟨by kernel_rfl, rfl⟩) hS ?_
        simp only [Act.put]
        refine wpAnyH_take (i := 31) (v := undef) rfl (by kernel_rfl) (by kernel_rfl) (by kernel_rfl) (fun _ _ _ h => h) (Or.inr ⟨by kernel_rfl, rfl⟩) hS ?_
        simp only [Act.put]
        refine wpAnyH_take (i := 32) (v := undef) rfl (by kernel_rfl) (by kernel_rfl) (by kernel_rfl) (fun _ _ _ h => h) (Or.inr ⟨by kernel_rfl, rfl⟩) hS ?_
        simp only [Act.put]
        refine wpAnyH_take (i := 33) (v := undef) rfl (by kernel_rfl) (by kernel_rfl) (by kernel_rfl) (fun _ _ _ h => h) (Or.inr ⟨by kernel_rfl, rfl⟩) hS ?_
        simp only [Act.put]
        refine wpAnyH_take (i := 34) (v := undef) rfl (by kernel_rfl) (by kernel_rfl) (by kernel_rfl) (fun _ _ _ h => h) (Or.inr ⟨by kernel_rfl, rfl⟩) hS ?_
        simp only [Act.put]
        refine wpAnyH_take (i := 35) (v := .bool false) rfl (by kernel_rfl) (by kernel_rfl) (by kernel_rfl) (fun _ _ _ h => h) (Or.inl ⟨by kernel_rfl, ?_⟩) hS ?_
        · rintro w' ⟨_, q0, q1, q2⟩; go_simp
        simp only [Act.put]
        refine wpAnyH_take (i := 36) (v := .bool false) rfl (by kernel_rfl) (by kernel_rfl) (by kernel_rfl) (fun _ _ _ h => h) (Or.inl ⟨by kernel_rfl, ?_⟩) hS ?_
        · rintro w' ⟨_, q0, q1, q2⟩; go_simp
        simp only [Act.put]
        refine wpAnyH_done (by kernel_rfl) ?_ _
        try simp only [List.getElem_toArray, List.getElem_cons_succ, List.getElem_cons_zero]
        try simp only [List.setIfInBounds_toArray, List.set_cons_zero, List.set_cons_succ]
        go_wp2_with fail
        go_ret
        exact ⟨by rw [HE.out]; simp, M0.out.trans M1.out⟩
      · have HS3 := HS.out
        rw [h3] at HS3
        have HS3 := Lib.hid HS3
        by_cases h4 : o.slen = 0
        · have HE := Lib.hid (show R = true by
            have : l = [] := List.eq_nil_of_length_eq_zero (by omega)
            rw [HR.out]; simp [delOk, h1, h2, h3]; rw [this]; rfl)
          have hb4 : ((o.slen : Int) == 0) = true := by simp [h4]
          have hd4 : decide ((o.slen : Int) = 0) = true := by simp [h4]
          clear h1 h4
          refine wp_region_held_drew (S := fun w' => Mod none_ W0 w' ∧ w'.cell? ⟨w.heap.size + 1, 4, none⟩ = some (.int .i64 o.at_) ∧ w'.cell? ⟨w.heap.size + 1, 5, none⟩ = some (.string ⟨#[]⟩) ∧ w'.cell? ⟨w.heap.size + 1, 6, none⟩ = some (.slice o.sa o.slen o.scap)) (by kernel_rfl) ⟨Mod.drew (Mod.refl none_ W0), c3, c4, c6⟩ (fun hS => ?_)
          refine wpAnyH_take (i := 0) (v := .pointer (some ⟨w.heap.size + 1, 4, none⟩)) rfl (by kernel_rfl) (by kernel_rfl) (by kernel_rfl) (fun _ _ _ h => h) (Or.inl ⟨by kernel_rfl, ?_⟩) hS ?_
          · rintro w' ⟨_, q0, q1, q2⟩; go_simp
          simp only [Act.put, List.setIfInBounds_toArray]
          refine wpAnyH_take (i := 1) (v := .int .i64 o.at_) rfl (by kernel_rfl) (by kernel_rfl) (by kernel_rfl) (fun _ _ _ h => h) (Or.inl ⟨by kernel_rfl, ?_⟩) hS ?_
          · rintro w' ⟨_, q0, q1, q2⟩; go_simp
          simp only [Act.put]
          refine wpAnyH_take (i := 2) (v := .bool true) rfl (by kernel_rfl) (by kernel_rfl) (by kernel_rfl) (fun _ _ _ h => h) (Or.inl ⟨by kernel_rfl, ?_⟩) hS ?_
          · rintro w' ⟨_, q0, q1, q2⟩; go_simp
          simp only [Act.put]
          refine wpAnyH_take (i := 3) (v := .bool true) rfl (by kernel_rfl) (by kernel_rfl) (by kernel_rfl) (fun _ _ _ h => h) (Or.inl ⟨by kernel_rfl, ?_⟩) hS ?_
          · rintro w' ⟨_, q0, q1, q2⟩; go_simp
          simp only [Act.put]
          refine wpAnyH_take (i := 4) (v := .pointer (some ⟨w.heap.size + 1, 5, none⟩)) rfl (by kernel_rfl) (by kernel_rfl) (by kernel_rfl) (fun _ _ _ h => h) (Or.inl ⟨by kernel_rfl, ?_⟩) hS ?_
          · rintro w' ⟨_, q0, q1, q2⟩; go_simp
          simp only [Act.put]
          refine wpAnyH_take (i := 5) (v := .string ⟨#[]⟩) rfl (by kernel_rfl) (by kernel_rfl) (by kernel_rfl) (fun _ _ _ h => h) (Or.inl ⟨by kernel_rfl, ?_⟩) hS ?_
          · rintro w' ⟨_, q0, q1, q2⟩; go_simp
          simp only [Act.put]
          refine wpAnyH_take (i := 6) (v := .bool true) rfl (by kernel_rfl) (by kernel_rfl) (by kernel_rfl) (fun _ _ _ h => h) (Or.inl ⟨by kernel_rfl, ?_⟩) hS ?_
          · rintro w' ⟨_, q0, q1, q2⟩; go_simp
          simp only [Act.put]
          refine wpAnyH_take (i := 7) (v := .bool true) rfl (by kernel_rfl) (by kernel_rfl) (by kernel_rfl) (fun _ _ _ h => h) (Or.inl ⟨by kernel_rfl, ?_⟩) hS ?_
          · rintro w' ⟨_, q0, q1, q2⟩; go_simp
          simp only [Act.put]
          refine wpAnyH_take (i := 8) (v := .bool true) rfl (by kernel_rfl) (by kernel_rfl) (by kernel_rfl) (fun _ _ _ h => h) (Or.inl ⟨by kernel_rfl, ?_⟩) hS ?_
          · rintro w' ⟨_, q0, q1, q2⟩; go_simp
          simp only [Act.put]
          refine wpAnyH_take (i := 9) (v := .pointer (some ⟨w.heap.size + 1, 6, none⟩)) rfl (by kernel_rfl) (by kernel_rfl) (by kernel_rfl) (fun _ _ _ h => h) (Or.inl ⟨by kernel_rfl, ?_⟩) hS ?_
          · rintro w' ⟨_, q0, q1, q2⟩; go_simp
          simp only [Act.put]
          refine wpAnyH_take (i := 10) (v := .slice o.sa o.slen o.scap) rfl (by kernel_rfl) (by kernel_rfl) (by kernel_rfl) (fun _ _ _ h => h) (Or.inl ⟨by kernel_rfl, ?_⟩) hS ?_
          · rintro w' ⟨_, q0, q1, q2⟩; go_simp
          simp only [Act.put]
          refine wpAnyH_ready (rs := [11]) (by kernel_rfl) (by simp) (AllReadyH.cons rfl (fun K hK => ?_) <| AllReadyH.nil)
          rw [if_pos (by kernel_rfl)]
          go_simp
          refine (HS3.out _ (Mod.drew (Mod.refl none_ W0))).mono ?_
          rintro e w1 ⟨rfl, m1⟩
          have M1 := Lib.hid ((Mod.drew (Mod.refl none_ W0)).trans m1)
          refine hK.out _ _ ⟨M1.out, m1.cell (fun e => e) c3, m1.cell (fun e => e) c4, m1.cell (fun e => e) c6⟩ (fun hS => ?_)
          clear hK K m1
          try simp only [Act.put, List.setIfInBounds_toArray, List.set_cons_zero, List.set_cons_succ]
          refine wpAnyH_take (i := 12) (v := .bool true) rfl (by kernel_rfl) (by kernel_rfl) (by kernel_rfl) (fun _ _ _ h => h) (Or.inl ⟨by kernel_rfl, ?_⟩) hS ?_
          · rintro w' ⟨_, q0, q1, q2⟩; go_simp
          simp only [Act.put, List.setIfInBounds_toArray]
          refine wpAnyH_take (i := 13) (v := .bool true) rfl (by kernel_rfl) (by kernel_rfl) (by kernel_rfl) (fun _ _ _ h => h) (Or.inl ⟨by kernel_rfl, ?_⟩) hS ?_
          · rintro w' ⟨_, q0, q1, q2⟩; go_simp
          simp only [Act.put]
          refine wpAnyH_take (i := 14) (v := .int .i64 o.slen) rfl (by kernel_rfl) (by kernel_rfl) (by kernel_rfl) (fun _ _ _ h => h) (Or.inl ⟨by kernel_rfl, ?_⟩) hS ?_
          · rintro w' ⟨_, q0, q1, q2⟩; go_simp
          simp only [Act.put]
          refine wpAnyH_take (i := 15) (v := .bool true) rfl (by kernel_rfl) (by kernel_rfl) (by kernel_rfl) (fun _ _ _ h => h) (Or.inl ⟨by kernel_rfl, ?_⟩) hS ?_
          · rintro w' ⟨_, q0, q1, q2⟩; go_simp
          simp only [Act.put]
          refine wpAnyH_take (i := 16) (v := .bool true) rfl (by kernel_rfl) (by kernel_rfl) (by kernel_rfl) (fun _ _ _ h => h) (Or.inl ⟨by kernel_rfl, ?_⟩) hS ?_
          · rintro w' ⟨_, q0, q1, q2⟩; go_simp
          simp only [Act.put]
          refine wpAnyH_take (i := 17) (v := undef) rfl (by kernel_rfl) (by kernel_rfl) (by kernel_rfl) (fun _ _ _ h => h) (Or.inr ⟨by kernel_rfl, rfl⟩) hS ?_
          simp only [Act.put]
          refine wpAnyH_take (i := 18) (v := undef) rfl (by kernel_rfl) (by kernel_rfl) (by kernel_rfl) (fun _ _ _ h => h) (Or.inr ⟨by kernel_rfl, rfl⟩) hS ?_
          simp only [Act.put]
          refine wpAnyH_take (i := 19) (v := undef) rfl (by kernel_rfl) (by kernel_rfl) (by kernel_rfl) (fun _ _ _ h => h) (Or.inr ⟨by kernel_rfl, rfl⟩) hS ?_
          simp only [Act.put]
          refine wpAnyH_take (i := 20) (v := undef) rfl (by kernel_rfl) (by kernel_rfl) (by kernel_rfl) (fun _ _ _ h => h) (Or.inr ⟨by kernel_rfl, rfl⟩) hS ?_
          simp only [Act.put]
          refine wpAnyH_take (i := 21) (v := undef) rfl (by kernel_rfl) (by kernel_rfl) (by kernel_rfl) (fun _ _ _ h => h) (Or.inr ⟨by kernel_rfl, rfl⟩) hS ?_
          simp only [Act.put]
          refine wpAnyH_take (i := 22) (v := undef) rfl (by kernel_rfl) (by kernel_rfl) (by kernel_rfl) (fun _ _ _ h => h) (Or.inr ⟨by kernel_rfl, rfl⟩) hS ?_
          simp only [Act.put]
          refine wpAnyH_take (i := 23) (v := undef) rfl (by kernel_rfl) (by kernel_rfl) (by kernel_rfl) (fun _ _ _ h => h) (Or.inr ⟨by kernel_rfl, rfl⟩) hS ?_
          simp only [Act.put]
          refine wpAnyH_take (i := 24) (v := undef) rfl (by kernel_rfl) (by kernel_rfl) (by kernel_rfl) (fun _ _ _ h => h) (Or.inr ⟨by kernel_rfl, rfl⟩) hS ?_
          simp only [Act.put]
          refine wpAnyH_take (i := 25) (v := undef) rfl (by kernel_rfl) (by kernel_rfl) (by kernel_rfl) (fun _ _ _ h => h) (Or.inr ⟨by kernel_rfl, rfl⟩) hS ?_
          simp only [Act.put]
          refine wpAnyH_take (i := 26) (v := undef) rfl (by kernel_rfl) (by kernel_rfl) (by kernel_rfl) (fun _ _ _ h => h) (Or.inr ⟨by kernel_rfl, rfl⟩) hS ?_
          simp only [Act.put]
          refine wpAnyH_take (i := 27) (v := undef) rfl (by kernel_rfl) (by kernel_rfl) (by kernel_rfl) (fun _ _ _ h => h) (Or.inr ⟨by kernel_rfl, rfl⟩) hS ?_
          simp only [Act.put]
          refine wpAnyH_take (i := 28) (v := undef) rfl (by kernel_rfl) (by kernel_rfl) (by kernel_rfl) (fun _ _ _ h => h) (Or.inr ⟨by kernel_rfl, rfl⟩) hS ?_
          simp only [Act.put]
          refine wpAnyH_take (i := 29) (v := undef) rfl (by kernel_rfl) (by kernel_rfl) (by kernel_rfl) (fun _ _ _ h => h) (Or.inr ⟨by kernel_rfl, rfl⟩) hS ?_
          simp only [Act.put]
          refine wpAnyH_take (i := 30) (v := undef) rfl (by kernel_rfl) (by kernel_rfl) (by kernel_rfl) (fun _ _ _ h => h) (Or.inr ⟨by kernel_rfl, rfl⟩) hS ?_
          simp only [Act.put]
          refine wpAnyH_take (i := 31) (v := undef) rfl (by kernel_rfl) (by kernel_rfl) (by kernel_rfl) (fun _ _ _ h => h) (Or.inr ⟨by kernel_rfl, rfl⟩) hS ?_
          simp only [Act.put]
          refine wpAnyH_take (i := 32) (v := undef) rfl (by kernel_rfl) (by kernel_rfl) (by kernel_rfl) (fun _ _ _ h => h) (Or.inr ⟨by kernel_rfl, rfl⟩) hS ?_
          simp only [Act.put]
          refine wpAnyH_take (i := 33) (v := undef) rfl (by kernel_rfl) (by kernel_rfl) (by kernel_rfl) (fun _ _ _ h => h) (Or.inr ⟨by kernel_rfl, rfl⟩) hS ?_
          simp only [Act.put]
          refine wpAnyH_take (i := 34) (v := .bool true) rfl (by kernel_rfl) (by kernel_rfl) (by kernel_rfl) (fun _ _ _ h => h) (Or.inl ⟨by kernel_rfl, ?_⟩) hS ?_
          · rintro w' ⟨_, q0, q1, q2⟩; go_simp
          simp only [Act.put]
          refine wpAnyH_take (i := 35) (v := .bool true) rfl (by kernel_rfl) (by kernel_rfl) (by kernel_rfl) (fun _ _ _ h => h) (Or.inl ⟨by kernel_rfl, ?_⟩) hS ?_
          · rintro w' ⟨_, q0, q1, q2⟩; go_simp
          simp only [Act.put]
          refine wpAnyH_take (i := 36) (v := .bool true) rfl (by kernel_rfl) (by kernel_rfl) (by kernel_rfl) (fun _ _ _ h => h) (Or.inl ⟨by kernel_rfl, ?_⟩) hS ?_
          · rintro w' ⟨_, q0, q1, q2⟩; go_simp
          simp only [Act.put]
          refine wpAnyH_done (by kernel_rfl) ?_ _
          try simp only [List.getElem_toArray, List.getElem_cons_succ, List.getElem_cons_zero]
          try simp only [List.setIfInBounds_toArray, List.set_cons_zero, List.set_cons_succ]
          go_wp2_with fail
          go_ret
          exact ⟨by rw [HE.out]; simp, M0.out.trans M1.out⟩
        · obtain ⟨m, hm⟩ : ∃ m, o.slen = m + 1 := ⟨o.slen - 1, by omega⟩
          obtain ⟨⟨f, n⟩, hx⟩ : ∃ x, l[m]? = some x := ⟨l[m]'(by omega), by simp⟩
          obtain ⟨b, off, hsa, x0, x1⟩ := H0.out.sp.cells m _ hx
          obtain ⟨hf0, hf1, hn0, hn1⟩ := spansFrom_ok l (-1) h3 _ (List.mem_of_getElem? hx)
          dsimp only at hf0 hf1 hn0 hn1 x0 x1
          have hlast : l.getLast? = some (f, n) := by
            rw [List.getLast?_eq_getElem?, show l.length - 1 = m by omega]; exact hx
          have hb4 : ((o.slen : Int) == 0) = false := by simp; omega
          have hd4 : decide ((o.slen : Int) = 0) = false := by simp; omega
          have HE := Lib.hid (show R = decide (f + n ≤ size) by
            rw [HR.out]; simp [delOk, h1, h2, h3, lastLe, hlast])
          rw [hm] at hb4 hd4 c6 hle
          rw [hsa] at c6
          rw [hm, hsa] at HS3
          have hml : (m : Int) < ((m + 1 : Nat) : Int) := by omega
          have g1 : ¬ ((m : Int) + 1 = 0) := by omega
          have g2 : IntKind.i64.wrap (m : Int) = (m : Int) := by rw [IntKind.wrap_i64]; omega
          have g3 : ¬ ((m : Int) + 1 ≤ (m : Int)) := by omega
          have g4 : IntKind.i64.wrap (f + n) = f + n := by rw [IntKind.wrap_i64]; omega
          clear h1 h4 hlast hx hN
          cases h5 : decide (f + n ≤ size)
          · have h5' : ¬ (f + n ≤ size) := by simpa using h5
            refine wp_region_held_drew (S := fun w' => Mod none_ W0 w' ∧ w'.cell? ⟨w.heap.size + 1, 4, none⟩ = some (.int .i64 o.at_) ∧ w'.cell? ⟨w.heap.size + 1, 5, none⟩ = some (.string ⟨#[]⟩) ∧ w'.cell? ⟨w.heap.size + 1, 6, none⟩ = some (.slice (some ⟨b, off, none⟩) (m + 1) o.scap) ∧ w'.cell? ⟨b, off + m * 2, none⟩ = some (.int .i64 f) ∧ w'.cell? ⟨b, off + m * 2 + 1, none⟩ = some (.int .i64 n)) (by kernel_rfl) ⟨Mod.drew (Mod.refl none_ W0), c3, c4, c6, x0, x1⟩ (fun hS => ?_)
            refine wpAnyH_take (i := 0) (v := .pointer (some ⟨w.heap.size + 1, 4, none⟩)) rfl (by kernel_rfl) (by kernel_rfl) (by kernel_rfl) (fun _ _ _ h => h) (Or.inl ⟨by kernel_rfl, ?_⟩) hS ?_
            · rintro w' ⟨_, q0, q1, q2, q3, q4⟩; go_simp
            simp only [Act.put, List.setIfInBounds_toArray]
            refine wpAnyH_take (i := 1) (v := .int .i64 o.at_) rfl (by kernel_rfl) (by kernel_rfl) (by kernel_rfl) (fun _ _ _ h => h) (Or.inl ⟨by kernel_rfl, ?_⟩) hS ?_
            · rintro w' ⟨_, q0, q1, q2, q3, q4⟩; go_simp
            simp only [Act.put]
            refine wpAnyH_take (i := 2) (v := .bool true) rfl (by kernel_rfl) (by kernel_rfl) (by kernel_rfl) (fun _ _ _ h => h) (Or.inl ⟨by kernel_rfl, ?_⟩) hS ?_
            · rintro w' ⟨_, q0, q1, q2, q3, q4⟩; go_simp
            simp only [Act.put]
            refine wpAnyH_take (i := 3) (v := .bool true) rfl (by kernel_rfl) (by kernel_rfl) (by kernel_rfl) (fun _ _ _ h => h) (Or.inl ⟨by kernel_rfl, ?_⟩) hS ?_
            · rintro w' ⟨_, q0, q1, q2, q3, q4⟩; go_simp
            simp only [Act.put]
            refine wpAnyH_take (i := 4) (v := .pointer (some ⟨w.heap.size + 1, 5, none⟩)) rfl (by kernel_rfl) (by kernel_rfl) (by kernel_rfl) (fun _ _ _ h => h) (Or.inl ⟨by kernel_rfl, ?_⟩) hS ?_
            · rintro w' ⟨_, q0, q1, q2, q3, q4⟩; go_simp
            simp only [Act.put]
            refine wpAnyH_take (i := 5) (v := .string ⟨#[]⟩) rfl (by kernel_rfl) (by kernel_rfl) (by kernel_rfl) (fun _ _ _ h => h) (Or.inl ⟨by kernel_rfl, ?_⟩) hS ?_
            · rintro w' ⟨_, q0, q1, q2, q3, q4⟩; go_simp
            simp only [Act.put]
            refine wpAnyH_take (i := 6) (v := .bool true) rfl (by kernel_rfl) (by kernel_rfl) (by kernel_rfl) (fun _ _ _ h => h) (Or.inl ⟨by kernel_rfl, ?_⟩) hS ?_
            · rintro w' ⟨_, q0, q1, q2, q3, q4⟩; go_simp
            simp only [Act.put]
            refine wpAnyH_take (i := 7) (v := .bool true) rfl (by kernel_rfl) (by kernel_rfl) (by kernel_rfl) (fun _ _ _ h => h) (Or.inl ⟨by kernel_rfl, ?_⟩) hS ?_
            · rintro w' ⟨_, q0, q1, q2, q3, q4⟩; go_simp
            simp only [Act.put]
            refine wpAnyH_take (i := 8) (v := .bool true) rfl (by kernel_rfl) (by kernel_rfl) (by kernel_rfl) (fun _ _ _ h => h) (Or.inl ⟨by kernel_rfl, ?_⟩) hS ?_
            · rintro w' ⟨_, q0, q1, q2, q3, q4⟩; go_simp
            simp only [Act.put]
            refine wpAnyH_take (i := 9) (v := .pointer (some ⟨w.heap.size + 1, 6, none⟩)) rfl (by kernel_rfl) (by kernel_rfl) (by kernel_rfl) (fun _ _ _ h => h) (Or.inl ⟨by kernel_rfl, ?_⟩) hS ?_
            · rintro w' ⟨_, q0, q1, q2, q3, q4⟩; go_simp
            simp only [Act.put]
            refine wpAnyH_take (i := 10) (v := .slice (some ⟨b, off, none⟩) (m + 1) o.scap) rfl (by kernel_rfl) (by kernel_rfl) (by kernel_rfl) (fun _ _ _ h => h) (Or.inl ⟨by kernel_rfl, ?_⟩) hS ?_
            · rintro w' ⟨_, q0, q1, q2, q3, q4⟩; go_simp
            simp only [Act.put]
            refine wpAnyH_ready (rs := [11]) (by kernel_rfl) (by simp) (AllReadyH.cons rfl (fun K hK => ?_) <| AllReadyH.nil)
            rw [if_pos (by kernel_rfl)]
            go_simp
            refine (HS3.out _ (Mod.drew (Mod.refl none_ W0))).mono ?_
            rintro e w1 ⟨rfl, m1⟩
            have M1 := Lib.hid ((Mod.drew (Mod.refl none_ W0)).trans m1)
            refine hK.out _ _ ⟨M1.out, m1.cell (fun e => e) c3, m1.cell (fun e => e) c4, m1.cell (fun e => e) c6, m1.cell (fun e => e) x0, m1.cell (fun e => e) x1⟩ (fun hS => ?_)
            clear hK K m1
            try simp only [Act.put, List.setIfInBounds_toArray, List.set_cons_zero, List.set_cons_succ]
            refine wpAnyH_take (i := 12) (v := .bool true) rfl (by kernel_rfl) (by kernel_rfl) (by kernel_rfl) (fun _ _ _ h => h) (Or.inl ⟨by kernel_rfl, ?_⟩) hS ?_
            · rintro w' ⟨_, q0, q1, q2, q3, q4⟩; go_simp
            simp only [Act.put, List.setIfInBounds_toArray]
            refine wpAnyH_take (i := 13) (v := .bool true) rfl (by kernel_rfl) (by kernel_rfl) (by kernel_rfl) (fun _ _ _ h => h) (Or.inl ⟨by kernel_rfl, ?_⟩) hS ?_
            · rintro w' ⟨_, q0, q1, q2, q3, q4⟩; go_simp
            simp only [Act.put]
            refine wpAnyH_take (i := 14) (v := .int .i64 ((m + 1 : Nat) : Int)) rfl (by kernel_rfl) (by kernel_rfl) (by kernel_rfl) (fun _ _ _ h => h) (Or.inl ⟨by kernel_rfl, ?_⟩) hS ?_
            · rintro w' ⟨_, q0, q1, q2, q3, q4⟩; go_simp
            simp only [Act.put]
            refine wpAnyH_take (i := 15) (v := .bool false) rfl (by kernel_rfl) (by kernel_rfl) (by kernel_rfl) (fun _ _ _ h => h) (Or.inl ⟨by kernel_rfl, ?_⟩) hS ?_
            · rintro w' ⟨_, q0, q1, q2, q3, q4⟩; go_simp
            simp only [Act.put]
            refine wpAnyH_take (i := 16) (v := .bool false) rfl (by kernel_rfl) (by kernel_rfl) (by kernel_rfl) (fun _ _ _ h => h) (Or.inl ⟨by kernel_rfl, ?_⟩) hS ?_
            · rintro w' ⟨_, q0, q1, q2, q3, q4⟩; go_simp
            simp only [Act.put]
            refine wpAnyH_take (i := 17) (v := .pointer (some ⟨w.heap.size + 1, 6, none⟩)) rfl (by kernel_rfl) (by kernel_rfl) (by kernel_rfl) (fun _ _ _ h => h) (Or.inl ⟨by kernel_rfl, ?_⟩) hS ?_
            · rintro w' ⟨_, q0, q1, q2, q3, q4⟩; go_simp
            simp only [Act.put]
            refine wpAnyH_take (i := 18) (v := .slice (some ⟨b, off, none⟩) (m + 1) o.scap) rfl (by kernel_rfl) (by kernel_rfl) (by kernel_rfl) (fun _ _ _ h => h) (Or.inl ⟨by kernel_rfl, ?_⟩) hS ?_
            · rintro w' ⟨_, q0, q1, q2, q3, q4⟩; go_simp
            simp only [Act.put]
            refine wpAnyH_take (i := 19) (v := .int .i64 ((m + 1 : Nat) : Int)) rfl (by kernel_rfl) (by kernel_rfl) (by kernel_rfl) (fun _ _ _ h => h) (Or.inl ⟨by kernel_rfl, ?_⟩) hS ?_
            · rintro w' ⟨_, q0, q1, q2, q3, q4⟩; go_simp
            simp only [Act.put]
            refine wpAnyH_take (i := 20) (v := .int .i64 (m : Int)) rfl (by kernel_rfl) (by kernel_rfl) (by kernel_rfl) (fun _ _ _ h => h) (Or.inl ⟨by kernel_rfl, ?_⟩) hS ?_
            · rintro w' ⟨_, q0, q1, q2, q3, q4⟩; go_simp
            simp only [Act.put]
            refine wpAnyH_take (i := 21) (v := .pointer (some ⟨b, off + m * 2, none⟩)) rfl (by kernel_rfl) (by kernel_rfl) (by kernel_rfl) (fun _ _ _ h => h) (Or.inl ⟨by kernel_rfl, ?_⟩) hS ?_
            · rintro w' ⟨_, q0, q1, q2, q3, q4⟩; go_simp
            simp only [Act.put]
            refine wpAnyH_take (i := 22) (v := .pointer (some ⟨b, off + m * 2, none⟩)) rfl (by kernel_rfl) (by kernel_rfl) (by kernel_rfl) (fun _ _ _ h => h) (Or.inl ⟨by kernel_rfl, ?_⟩) hS ?_
            · rintro w' ⟨_, q0, q1, q2, q3, q4⟩; go_simp
            simp only [Act.put]
            refine wpAnyH_take (i := 23) (v := .int .i64 f) rfl (by kernel_rfl) (by kernel_rfl) (by kernel_rfl) (fun _ _ _ h => h) (Or.inl ⟨by kernel_rfl, ?_⟩) hS ?_
            · rintro w' ⟨_, q0, q1, q2, q3, q4⟩; go_simp
            simp only [Act.put]
            refine wpAnyH_take (i := 24) (v := .pointer (some ⟨w.heap.size + 1, 6, none⟩)) rfl (by kernel_rfl) (by kernel_rfl) (by kernel_rfl) (fun _ _ _ h => h) (Or.inl ⟨by kernel_rfl, ?_⟩) hS ?_
            · rintro w' ⟨_, q0, q1, q2, q3, q4⟩; go_simp
            simp only [Act.put]
            refine wpAnyH_take (i := 25) (v := .slice (some ⟨b, off, none⟩) (m + 1) o.scap) rfl (by kernel_rfl) (by kernel_rfl) (by kernel_rfl) (fun _ _ _ h => h) (Or.inl ⟨by kernel_rfl, ?_⟩) hS ?_
            · rintro w' ⟨_, q0, q1, q2, q3, q4⟩; go_simp
            simp only [Act.put]
            refine wpAnyH_take (i := 26) (v := .int .i64 ((m + 1 : Nat) : Int)) rfl (by kernel_rfl) (by kernel_rfl) (by kernel_rfl) (fun _ _ _ h => h) (Or.inl ⟨by kernel_rfl, ?_⟩) hS ?_
            · rintro w' ⟨_, q0, q1, q2, q3, q4⟩; go_simp
            simp only [Act.put]
            refine wpAnyH_take (i := 27) (v := .int .i64 (m : Int)) rfl (by kernel_rfl) (by kernel_rfl) (by kernel_rfl) (fun _ _ _ h => h) (Or.inl ⟨by kernel_rfl, ?_⟩) hS ?_
            · rintro w' ⟨_, q0, q1, q2, q3, q4⟩; go_simp
            simp only [Act.put]
            refine wpAnyH_take (i := 28) (v := .pointer (some ⟨b, off + m * 2, none⟩)) rfl (by kernel_rfl) (by kernel_rfl) (by kernel_rfl) (fun _ _ _ h => h) (Or.inl ⟨by kernel_rfl, ?_⟩) hS ?_
            · rintro w' ⟨_, q0, q1, q2, q3, q4⟩; go_simp
            simp only [Act.put]
            refine wpAnyH_take (i := 29) (v := .pointer (some ⟨b, off + m * 2 + 1, none⟩)) rfl (by kernel_rfl) (by kernel_rfl) (by kernel_rfl) (fun _ _ _ h => h) (Or.inl ⟨by kernel_rfl, ?_⟩) hS ?_
            · rintro w' ⟨_, q0, q1, q2, q3, q4⟩; go_simp
            simp only [Act.put]
            refine wpAnyH_take (i := 30) (v := .int .i64 n) rfl (by kernel_rfl) (by kernel_rfl) (by kernel_rfl) (fun _ _ _ h => h) (Or.inl ⟨by kernel_rfl, ?_⟩) hS ?_
            · rintro w' ⟨_, q0, q1, q2, q3, q4⟩; go_simp
            simp only [Act.put]
            refine wpAnyH_take (i := 31) (v := .int .i64 (f + n)) rfl (by kernel_rfl) (by kernel_rfl) (by kernel_rfl) (fun _ _ _ h => h) (Or.inl ⟨by kernel_rfl, ?_⟩) hS ?_
            · rintro w' ⟨_, q0, q1, q2, q3, q4⟩; go_simp
            simp only [Act.put]
            refine wpAnyH_take (i := 32) (v := .int .i64 size) rfl (by kernel_rfl) (by kernel_rfl) (by kernel_rfl) (fun _ _ _ h => h) (Or.inl ⟨by kernel_rfl, ?_⟩) hS ?_
            · rintro w' ⟨_, q0, q1, q2, q3, q4⟩; go_simp
            simp only [Act.put]
            refine wpAnyH_take (i := 33) (v := .bool false) rfl (by kernel_rfl) (by kernel_rfl) (by kernel_rfl) (fun _ _ _ h => h) (Or.inl ⟨by kernel_rfl, ?_⟩) hS ?_
            · rintro w' ⟨_, q0, q1, q2, q3, q4⟩; go_simp
            simp only [Act.put]
            refine wpAnyH_take (i := 34) (v := .bool false) rfl (by kernel_rfl) (by kernel_rfl) (by kernel_rfl) (fun _ _ _ h => h) (Or.inl ⟨by kernel_rfl, ?_⟩) hS ?_
            · rintro w' ⟨_, q0, q1, q2, q3, q4⟩; go_simp
            simp only [Act.put]
            refine wpAnyH_take (i := 35) (v := .bool false) rfl (by kernel_rfl) (by kernel_rfl) (by kernel_rfl) (fun _ _ _ h => h) (Or.inl ⟨by kernel_rfl, ?_⟩) hS ?_
            · rintro w' ⟨_, q0, q1, q2, q3, q4⟩; go_simp
            simp only [Act.put]
            refine wpAnyH_take (i := 36) (v := .bool false) rfl (by kernel_rfl) (by kernel_rfl) (by kernel_rfl) (fun _ _ _ h => h) (Or.inl ⟨by kernel_rfl, ?_⟩) hS ?_
            · rintro w' ⟨_, q0, q1, q2, q3, q4⟩; go_simp
            simp only [Act.put]
            refine wpAnyH_done (by kernel_rfl) ?_ _
            try simp only [List.getElem_toArray, List.getElem_cons_succ, List.getElem_cons_zero]
            try simp only [List.setIfInBounds_toArray, List.set_cons_zero, List.set_cons_succ]
            go_wp2_with fail
            go_ret
            exact ⟨by rw [HE.out, h5]; simp, M0.out.trans M1.out⟩
          · have h5' : f + n ≤ size := by simpa using h5
            refine wp_region_held_drew (S := fun w' => Mod none_ W0 w' ∧ w'.cell? ⟨w.heap.size + 1, 4, none⟩ = some (.int .i64 o.at_) ∧ w'.cell? ⟨w.heap.size + 1, 5, none⟩ = some (.string ⟨#[]⟩) ∧ w'.cell? ⟨w.heap.size + 1, 6, none⟩ = some (.slice (some ⟨b, off, none⟩) (m + 1) o.scap) ∧ w'.cell? ⟨b, off + m * 2, none⟩ = some (.int .i64 f) ∧ w'.cell? ⟨b, off + m * 2 + 1, none⟩ = some (.int .i64 n)) (by kernel_rfl) ⟨Mod.drew (Mod.refl none_ W0), c3, c4, c6, x0, x1⟩ (fun hS => ?_)
            refine wpAnyH_take (i := 0) (v := .pointer (some ⟨w.heap.size + 1, 4, none⟩)) rfl (by kernel_rfl) (by kernel_rfl) (by kernel_rfl) (fun _ _ _ h => h) (Or.inl ⟨by kernel_rfl, ?_⟩) hS ?_
            · rintro w' ⟨_, q0, q1, q2, q3, q4⟩; go_simp
            simp only [Act.put, List.setIfInBounds_toArray]
            refine wpAnyH_take (i := 1) (v := .int .i64 o.at_) rfl (by kernel_rfl) (by kernel_rfl) (by kernel_rfl) (fun _ _ _ h => h) (Or.inl ⟨by kernel_rfl, ?_⟩) hS ?_
            · rintro w' ⟨_, q0, q1, q2, q3, q4⟩; go_simp
            simp only [Act.put]
            refine wpAnyH_take (i := 2) (v := .bool true) rfl (by kernel_rfl) (by kernel_rfl) (by kernel_rfl) (fun _ _ _ h => h) (Or.inl ⟨by kernel_rfl, ?_⟩) hS ?_
            · rintro w' ⟨_, q0, q1, q2, q3, q4⟩; go_simp
            simp only [Act.put]
            refine wpAnyH_take (i := 3) (v := .bool true) rfl (by kernel_rfl) (by kernel_rfl) (by kernel_rfl) (fun _ _ _ h => h) (Or.inl ⟨by kernel_rfl, ?_⟩) hS ?_
            · rintro w' ⟨_, q0, q1, q2, q3, q4⟩; go_simp
            simp only [Act.put]
            refine wpAnyH_take (i := 4) (v := .pointer (some ⟨w.heap.size + 1, 5, none⟩)) rfl (by kernel_rfl) (by kernel_rfl) (by kernel_rfl) (fun _ _ _ h => h) (Or.inl ⟨by kernel_rfl, ?_⟩) hS ?_
            · rintro w' ⟨_, q0, q1, q2, q3, q4⟩; go_simp
            simp only [Act.put]
            refine wpAnyH_take (i := 5) (v := .string ⟨#[]⟩) rfl (by kernel_rfl) (by kernel_rfl) (by kernel_rfl) (fun _ _ _ h => h) (Or.inl ⟨by kernel_rfl, ?_⟩) hS ?_
            · rintro w' ⟨_, q0, q1, q2, q3, q4⟩; go_simp
            simp only [Act.put]
            refine wpAnyH_take (i := 6) (v := .bool true) rfl (by kernel_rfl) (by kernel_rfl) (by kernel_rfl) (fun _ _ _ h => h) (Or.inl ⟨by kernel_rfl, ?_⟩) hS ?_
            · rintro w' ⟨_, q0, q1, q2, q3, q4⟩; go_simp
            simp only [Act.put]
            refine wpAnyH_take (i := 7) (v := .bool true) rfl (by kernel_rfl) (by kernel_rfl) (by kernel_rfl) (fun _ _ _ h => h) (Or.inl ⟨by kernel_rfl, ?_⟩) hS ?_
            · rintro w' ⟨_, q0, q1, q2, q3, q4⟩; go_simp
            simp only [Act.put]
            refine wpAnyH_take (i := 8) (v := .bool true) rfl (by kernel_rfl) (by kernel_rfl) (by kernel_rfl) (fun _ _ _ h => h) (Or.inl ⟨by kernel_rfl, ?_⟩) hS ?_
            · rintro w' ⟨_, q0, q1, q2, q3, q4⟩; go_simp
            simp only [Act.put]
            refine wpAnyH_take (i := 9) (v := .pointer (some ⟨w.heap.size + 1, 6, none⟩)) rfl (by kernel_rfl) (by kernel_rfl) (by kernel_rfl) (fun _ _ _ h => h) (Or.inl ⟨by kernel_rfl, ?_⟩) hS ?_
            · rintro w' ⟨_, q0, q1, q2, q3, q4⟩; go_simp
            simp only [Act.put]
            refine wpAnyH_take (i := 10) (v := .slice (some ⟨b, off, none⟩) (m + 1) o.scap) rfl (by kernel_rfl) (by kernel_rfl) (by kernel_rfl) (fun _ _ _ h => h) (Or.inl ⟨by kernel_rfl, ?_⟩) hS ?_
            · rintro w' ⟨_, q0, q1, q2, q3, q4⟩; go_simp
            simp only [Act.put]
            refine wpAnyH_ready (rs := [11]) (by kernel_rfl) (by simp) (AllReadyH.cons rfl (fun K hK => ?_) <| AllReadyH.nil)
            rw [if_pos (by kernel_rfl)]
            go_simp
            refine (HS3.out _ (Mod.drew (Mod.refl none_ W0))).mono ?_
            rintro e w1 ⟨rfl, m1⟩
            have M1 := Lib.hid ((Mod.drew (Mod.refl none_ W0)).trans m1)
            refine hK.out _ _ ⟨M1.out, m1.cell (fun e => e) c3, m1.cell (fun e => e) c4, m1.cell (fun e => e) c6, m1.cell (fun e => e) x0, m1.cell (fun e => e) x1⟩ (fun hS => ?_)
            clear hK K m1
            try simp only [Act.put, List.setIfInBounds_toArray, List.set_cons_zero, List.set_cons_succ]
            refine wpAnyH_take (i := 12) (v := .bool true) rfl (by kernel_rfl) (by kernel_rfl) (by kernel_rfl) (fun _ _ _ h => h) (Or.inl ⟨by kernel_rfl, ?_⟩) hS ?_
            · rintro w' ⟨_, q0, q1, q2, q3, q4⟩; go_simp
            simp only [Act.put, List.setIfInBounds_toArray]
            refine wpAnyH_take (i := 13) (v := .bool true) rfl (by kernel_rfl) (by kernel_rfl) (by kernel_rfl) (fun _ _ _ h => h) (Or.inl ⟨by kernel_rfl, ?_⟩) hS ?_
            · rintro w' ⟨_, q0, q1, q2, q3, q4⟩; go_simp
            simp only [Act.put]
            refine wpAnyH_take (i := 14) (v := .int .i64 ((m + 1 : Nat) : Int)) rfl (by kernel_rfl) (by kernel_rfl) (by kernel_rfl) (fun _ _ _ h => h) (Or.inl ⟨by kernel_rfl, ?_⟩) hS ?_
            · rintro w' ⟨_, q0, q1, q2, q3, q4⟩; go_simp
            simp only [Act.put]
            refine wpAnyH_take (i := 15) (v := .bool false) rfl (by kernel_rfl) (by kernel_rfl) (by kernel_rfl) (fun _ _ _ h => h) (Or.inl ⟨by kernel_rfl, ?_⟩) hS ?_
            · rintro w' ⟨_, q0, q1, q2, q3, q4⟩; go_simp
            simp only [Act.put]
            refine wpAnyH_take (i := 16) (v := .bool false) rfl (by kernel_rfl) (by kernel_rfl) (by kernel_rfl) (fun _ _ _ h => h) (Or.inl ⟨by kernel_rfl, ?_⟩) hS ?_
            · rintro w' ⟨_, q0, q1, q2, q3, q4⟩; go_simp
            simp only [Act.put]
            refine wpAnyH_take (i := 17) (v := .pointer (some ⟨w.heap.size + 1, 6, none⟩)) rfl (by kernel_rfl) (by kernel_rfl) (by kernel_rfl) (fun _ _ _ h => h) (Or.inl ⟨by kernel_rfl, ?_⟩) hS ?_
            · rintro w' ⟨_, q0, q1, q2, q3, q4⟩; go_simp
            simp only [Act.put]
            refine wpAnyH_take (i := 18) (v := .slice (some ⟨b, off, none⟩) (m + 1) o.scap) rfl (by kernel_rfl) (by kernel_rfl) (by kernel_rfl) (fun _ _ _ h => h) (Or.inl ⟨by kernel_rfl, ?_⟩) hS ?_
            · rintro w' ⟨_, q0, q1, q2, q3, q4⟩; go_simp
            simp only [Act.put]
            refine wpAnyH_take (i := 19) (v := .int .i64 ((m + 1 : Nat) : Int)) rfl (by kernel_rfl) (by kernel_rfl) (by kernel_rfl) (fun _ _ _ h => h) (Or.inl ⟨by kernel_rfl, ?_⟩) hS ?_
            · rintro w' ⟨_, q0, q1, q2, q3, q4⟩; go_simp
            simp only [Act.put]
            refine wpAnyH_take (i := 20) (v := .int .i64 (m : Int)) rfl (by kernel_rfl) (by kernel_rfl) (by kernel_rfl) (fun _ _ _ h => h) (Or.inl ⟨by kernel_rfl, ?_⟩) hS ?_
            · rintro w' ⟨_, q0, q1, q2, q3, q4⟩; go_simp
            simp only [Act.put]
            refine wpAnyH_take (i := 21) (v := .pointer (some ⟨b, off + m * 2, none⟩)) rfl (by kernel_rfl) (by kernel_rfl) (by kernel_rfl) (fun _ _ _ h => h) (Or.inl ⟨by kernel_rfl, ?_⟩) hS ?_
            · rintro w' ⟨_, q0, q1, q2, q3, q4⟩; go_simp
            simp only [Act.put]
            refine wpAnyH_take (i := 22) (v := .pointer (some ⟨b, off + m * 2, none⟩)) rfl (by kernel_rfl) (by kernel_rfl) (by kernel_rfl) (fun _ _ _ h => h) (Or.inl ⟨by kernel_rfl, ?_⟩) hS ?_
            · rintro w' ⟨_, q0, q1, q2, q3, q4⟩; go_simp
            simp only [Act.put]
            refine wpAnyH_take (i := 23) (v := .int .i64 f) rfl (by kernel_rfl) (by kernel_rfl) (by kernel_rfl) (fun _ _ _ h => h) (Or.inl ⟨by kernel_rfl, ?_⟩) hS ?_
            · rintro w' ⟨_, q0, q1, q2, q3, q4⟩; go_simp
            simp only [Act.put]
            refine wpAnyH_take (i := 24) (v := .pointer (some ⟨w.heap.size + 1, 6, none⟩)) rfl (by kernel_rfl) (by kernel_rfl) (by kernel_rfl) (fun _ _ _ h => h) (Or.inl ⟨by kernel_rfl, ?_⟩) hS ?_
            · rintro w' ⟨_, q0, q1, q2, q3, q4⟩; go_simp
            simp only [Act.put]
            refine wpAnyH_take (i := 25) (v := .slice (some ⟨b, off, none⟩) (m + 1) o.scap) rfl (by kernel_rfl) (by kernel_rfl) (by kernel_rfl) (fun _ _ _ h => h) (Or.inl ⟨by kernel_rfl, ?_⟩) hS ?_
            · rintro w' ⟨_, q0, q1, q2, q3, q4⟩; go_simp
            simp only [Act.put]
            refine wpAnyH_take (i := 26) (v := .int .i64 ((m + 1 : Nat) : Int)) rfl (by kernel_rfl) (by kernel_rfl) (by kernel_rfl) (fun _ _ _ h => h) (Or.inl ⟨by kernel_rfl, ?_⟩) hS ?_
            · rintro w' ⟨_, q0, q1, q2, q3, q4⟩; go_simp
            simp only [Act.put]
            refine wpAnyH_take (i := 27) (v := .int .i64 (m : Int)) rfl (by kernel_rfl) (by kernel_rfl) (by kernel_rfl) (fun _ _ _ h => h) (Or.inl ⟨by kernel_rfl, ?_⟩) hS ?_
            · rintro w' ⟨_, q0, q1, q2, q3, q4⟩; go_simp
            simp only [Act.put]
            refine wpAnyH_take (i := 28) (v := .pointer (some ⟨b, off + m * 2, none⟩)) rfl (by kernel_rfl) (by kernel_rfl) (by kernel_rfl) (fun _ _ _ h => h) (Or.inl ⟨by kernel_rfl, ?_⟩) hS ?_
            · rintro w' ⟨_, q0, q1, q2, q3, q4⟩; go_simp
            simp only [Act.put]
            refine wpAnyH_take (i := 29) (v := .pointer (some ⟨b, off + m * 2 + 1, none⟩)) rfl (by kernel_rfl) (by kernel_rfl) (by kernel_rfl) (fun _ _ _ h => h) (Or.inl ⟨by kernel_rfl, ?_⟩) hS ?_
            · rintro w' ⟨_, q0, q1, q2, q3, q4⟩; go_simp
            simp only [Act.put]
            refine wpAnyH_take (i := 30) (v := .int .i64 n) rfl (by kernel_rfl) (by kernel_rfl) (by kernel_rfl) (fun _ _ _ h => h) (Or.inl ⟨by kernel_rfl, ?_⟩) hS ?_
            · rintro w' ⟨_, q0, q1, q2, q3, q4⟩; go_simp
            simp only [Act.put]
            refine wpAnyH_take (i := 31) (v := .int .i64 (f + n)) rfl (by kernel_rfl) (by kernel_rfl) (by kernel_rfl) (fun _ _ _ h => h) (Or.inl ⟨by kernel_rfl, ?_⟩) hS ?_
            · rintro w' ⟨_, q0, q1, q2, q3, q4⟩; go_simp
            simp only [Act.put]
            refine wpAnyH_take (i := 32) (v := .int .i64 size) rfl (by kernel_rfl) (by kernel_rfl) (by kernel_rfl) (fun _ _ _ h => h) (Or.inl ⟨by kernel_rfl, ?_⟩) hS ?_
            · rintro w' ⟨_, q0, q1, q2, q3, q4⟩; go_simp
            simp only [Act.put]
            refine wpAnyH_take (i := 33) (v := .bool true) rfl (by kernel_rfl) (by kernel_rfl) (by kernel_rfl) (fun _ _ _ h => h) (Or.inl ⟨by kernel_rfl, ?_⟩) hS ?_
            · rintro w' ⟨_, q0, q1, q2, q3, q4⟩; go_simp
            simp only [Act.put]
            refine wpAnyH_take (i := 34) (v := .bool true) rfl (by kernel_rfl) (by kernel_rfl) (by kernel_rfl) (fun _ _ _ h => h) (Or.inl ⟨by kernel_rfl, ?_⟩) hS ?_
            · rintro w' ⟨_, q0, q1, q2, q3, q4⟩; go_simp
            simp only [Act.put]
            refine wpAnyH_take (i := 35) (v := .bool true) rfl (by kernel_rfl) (by kernel_rfl) (by kernel_rfl) (fun _ _ _ h => h) (Or.inl ⟨by kernel_rfl, ?_⟩) hS ?_
            · rintro w' ⟨_, q0, q1, q2, q3, q4⟩; go_simp
            simp only [Act.put]
            refine wpAnyH_take (i := 36) (v := .bool true) rfl (by kernel_rfl) (by kernel_rfl) (by kernel_rfl) (fun _ _ _ h => h) (Or.inl ⟨by kernel_rfl, ?_⟩) hS ?_
            · rintro w' ⟨_, q0, q1, q2, q3, q4⟩; go_simp
            simp only [Act.put]
            refine wpAnyH_done (by kernel_rfl) ?_ _
            try simp only [List.getElem_toArray, List.getElem_cons_succ, List.getElem_cons_zero]
            try simp only [List.setIfInBounds_toArray, List.set_cons_zero, List.set_cons_succ]
            go_wp2_with fail
            go_ret
            exact ⟨by rw [HE.out, h5]; simp, M0.out.trans M1.out⟩
  · have hd1 : decide (o.at_ = 0) = false := by simpa using h1
    have hb1 : (o.at_ == 0) = false := by simpa using h1
    have HE := Lib.hid (show R = false by rw [HR.out]; simp [delOk, h1])
    clear h1
    go_quiet (fail)
    go_wp2_with fail
    go_ret
    exact ⟨by rw [HE.out]; rfl, M0.out.drewN _⟩

end Go.Proofs.YtjgjjlolhdlofaaGreatDoor

namespace Go.Proofs.YtjgjjlolhdlofaaGreatDoor
open Go.RowKit Go.Mine
attribute [local go_sem] m_imay m_dmay m_nmay m_iadds m_nadds m_dadds

set_option maxHeartbeats 4000000 in
set_option maxRecDepth 1000000 in
theorem mayIns_any (o : OpV) (size : Int) (w : World) (l : List (Int × Int)) (h : o.ok w l) (hk : o.kind = 1) (h1 : inB size 0 20000 = true) (h2 : nameOk o.site o.seq = true) (h3 : inB o.num 0 1099511627776 = true) :
    Calls Tryz.prog 93 #[o.v, .int .i64 size] w fun e w' => e = .returned (.bool (insOk o size)) ∧ Mod none_ w w' := by
  have hs : 0 ≤ size ∧ size ≤ 20000 := by simpa [inB] using h1
  obtain ⟨W0, hW0⟩ : ∃ W0, w.alloc (.cells o.cs.toArray 58) = W0 := ⟨_, rfl⟩
  obtain ⟨m0, kB⟩ := opBox1 hW0
  have H0 := Lib.hid (h.grown m0)
  have M0 := Lib.hid m0
  have c0 : W0.cell? ⟨w.heap.size, 0, none⟩ = some (.int .i64 o.site) := by rw [kB.cell]; rfl
  have c1 : W0.cell? ⟨w.heap.size, 1, none⟩ = some (.int .i64 o.seq) := by rw [kB.cell]; rfl
  have c2 : W0.cell? ⟨w.heap.size, 2, none⟩ = some (.int .i64 o.num) := by rw [kB.cell]; rfl
  have c3 : W0.cell? ⟨w.heap.size, 3, none⟩ = some (.int .i64 o.kind) := by rw [kB.cell]; rfl
  have c4 : W0.cell? ⟨w.heap.size, 4, none⟩ = some (.int .i64 o.at_) := by rw [kB.cell]; rfl
  have c5 : W0.cell? ⟨w.heap.size, 5, none⟩ = some (.string o.text) := by rw [kB.cell]; rfl
  have c6 : W0.cell? ⟨w.heap.size, 6, none⟩ = some (.slice o.sa o.slen o.scap) := by rw [kB.cell]; rfl
  have KB := Lib.hid kB
  have hkv : kindV o.kind = .iface 195 (.agg #[]) := by unfold kindV; rw [if_pos hk]
  have HO := Lib.hid (of_any o.kind)
  rw [hkv] at HO
  have HS := Lib.hid (owithin_any size 0 20000)
  rw [h1] at HS
  have HN := Lib.hid (vname_any o.site o.seq)
  rw [h2] at HN
  have HU := Lib.hid (owithin_any o.num 0 1099511627776)
  rw [h3] at HU
  clear h m0 kB hk hkv h1 h2 h3
  go_enter Tryz.func93, Tryz.ntmps93
  go_upto_region 1 with fail
  clear hW0
  have hH := H0.out
  have hM := M0.out
  go_region_held3 (fun w' => Mod none_ W0 w' ∧ w'.cell? ⟨w.heap.size, 0, none⟩ = some (.int .i64 o.site) ∧ w'.cell? ⟨w.heap.size, 1, none⟩ = some (.int .i64 o.seq) ∧ w'.cell? ⟨w.heap.size, 2, none⟩ = some (.int .i64 o.num) ∧ w'.cell? ⟨w.heap.size, 3, none⟩ = some (.int .i64 o.kind) ∧ w'.cell? ⟨w.heap.size, 4, none⟩ = some (.int .i64 o.at_) ∧ w'.cell? ⟨w.heap.size, 5, none⟩ = some (.string o.text) ∧ w'.cell? ⟨w.heap.size, 6, none⟩ = some (.slice o.sa o.slen o.scap))
    (first
      | exact ⟨Mod.drew (Mod.refl none_ W0), c0, c1, c2, c3, c4, c5, c6⟩
      | assumption
      | (obtain ⟨q, q0, q1, q2, q3, q4, q5, q6⟩ := ‹Mod none_ W0 _ ∧ _›; exact ⟨q.trans m1, m1.cell (fun e => e) q0, m1.cell (fun e => e) q1, m1.cell (fun e => e) q2, m1.cell (fun e => e) q3, m1.cell (fun e => e) q4, m1.cell (fun e => e) q5, m1.cell (fun e => e) q6⟩))
    (first
      | (go_at_call_of 106 (Value.int IntKind.i64 size); refine (HS.out _).mono ?_; rintro e w1 ⟨rfl, rfl⟩)
      | (go_at_call_of 106 (Value.int IntKind.i64 o.num); refine (HU.out _).mono ?_; rintro e w1 ⟨rfl, rfl⟩)
      | (go_at_call 102; refine (HN.out _).mono ?_; rintro e w1 ⟨rfl, m1⟩)
      | (go_at_call 115; refine (HO.out _).mono ?_; rintro e w1 ⟨rfl, rfl⟩)
      | (go_at_call 161; refine (insMay_any o size _ _ (hH.grown (And.left (by assumption))) hs).mono ?_; rintro e w1 ⟨rfl, m1⟩))
  go_wp2_with fail
  go_ret
  exact ⟨rfl, M0.out.trans (And.left (by assumption))⟩

end Go.Proofs.YtjgjjlolhdlofaaGreatDoor

namespace Go.Proofs.YtjgjjlolhdlofaaGreatDoor
open Go.RowKit Go.Mine
attribute [local go_sem] m_imay m_dmay m_nmay m_iadds m_nadds m_dadds

set_option maxHeartbeats 8000000 in
set_option maxRecDepth 1000000 in
theorem mayName_no (o : OpV) (size : Int) (w : World) (l : List (Int × Int)) (h : o.ok w l) (h1 : inB size 0 20000 = true) (h2 : nameOk o.site o.seq = false) :
    Calls Tryz.prog 93 #[o.v, .int .i64 size] w fun e w' => e = .returned (.bool false) ∧ Mod none_ w w' := by
  have hs : 0 ≤ size ∧ size ≤ 20000 := by simpa [inB] using h1
  obtain ⟨W0, hW0⟩ : ∃ W0, w.alloc (.cells o.cs.toArray 58) = W0 := ⟨_, rfl⟩
  obtain ⟨m0, kB⟩ := opBox1 hW0
  have H0 := Lib.hid (h.grown m0)
  have M0 := Lib.hid m0
  have c0 : W0.cell? ⟨w.heap.size, 0, none⟩ = some (.int .i64 o.site) := by rw [kB.cell]; rfl
  have c1 : W0.cell? ⟨w.heap.size, 1, none⟩ = some (.int .i64 o.seq) := by rw [kB.cell]; rfl
  have c2 : W0.cell? ⟨w.heap.size, 2, none⟩ = some (.int .i64 o.num) := by rw [kB.cell]; rfl
  have c3 : W0.cell? ⟨w.heap.size, 3, none⟩ = some (.int .i64 o.kind) := by rw [kB.cell]; rfl
  have c4 : W0.cell? ⟨w.heap.size, 4, none⟩ = some (.int .i64 o.at_) := by rw [kB.cell]; rfl
  have c5 : W0.cell? ⟨w.heap.size, 5, none⟩ = some (.string o.text) := by rw [kB.cell]; rfl
  have c6 : W0.cell? ⟨w.heap.size, 6, none⟩ = some (.slice o.sa o.slen o.scap) := by rw [kB.cell]; rfl
  have HS := Lib.hid (owithin_any size 0 20000)
  rw [h1] at HS
  have HN := Lib.hid (vname_any o.site o.seq)
  have HU := Lib.hid (owithin_any o.num 0 1099511627776)
  rw [h2] at HN
  clear h m0 kB h1 h2
  go_enter Tryz.func93, Tryz.ntmps93
  go_upto_region 1 with fail
  clear hW0
  refine wp_region_held_drew (S := fun w' => Mod none_ W0 w' ∧ w'.cell? ⟨w.heap.size, 0, none⟩ = some (.int .i64 o.site) ∧ w'.cell? ⟨w.heap.size, 1, none⟩ = some (.int .i64 o.seq) ∧ w'.cell? ⟨w.heap.size, 2, none⟩ = some (.int .i64 o.num) ∧ w'.cell? ⟨w.heap.size, 3, none⟩ = some (.int .i64 o.kind) ∧ w'.cell? ⟨w.heap.size, 4, none⟩ = some (.int .i64 o.at_) ∧ w'.cell? ⟨w.heap.size, 5, none⟩ = some (.string o.text) ∧ w'.cell? ⟨w.heap.size, 6, none⟩ = some (.slice o.sa o.slen o.scap)) (by kernel_rfl) ⟨Mod.drew (Mod.refl none_ W0), c0, c1, c2, c3, c4, c5, c6⟩ (fun hS => ?_)
  refine wpAnyH_take (i := 0) (v := .int .i64 size) rfl (by kernel_rfl) (by kernel_rfl) (by kernel_rfl) (fun _ _ _ h => h) (Or.inl ⟨by kernel_rfl, ?_⟩) hS ?_
  · rintro w' ⟨_, q0, q1, q2, q3, q4, q5, q6⟩; go_simp
  simp only [Act.put, List.setIfInBounds_toArray]
  refine wpAnyH_ready (rs := [1]) (by kernel_rfl) (by simp) (AllReadyH.cons rfl (fun K hK => ?_) <| AllReadyH.nil)
  rw [if_pos (by kernel_rfl)]
  go_simp
  refine (HS.out _).mono ?_
  rintro e w1 ⟨rfl, rfl⟩
  refine hK.out _ _ hS (fun hS => ?_)
  clear hK K
  try simp only [Act.put, List.setIfInBounds_toArray, List.set_cons_zero, List.set_cons_succ]
  refine wpAnyH_take (i := 2) (v := .bool true) rfl (by kernel_rfl) (by kernel_rfl) (by kernel_rfl) (fun _ _ _ h => h) (Or.inl ⟨by kernel_rfl, ?_⟩) hS ?_
  · rintro w' ⟨_, q0, q1, q2, q3, q4, q5, q6⟩; go_simp
  simp only [Act.put, List.setIfInBounds_toArray]
  refine wpAnyH_take (i := 3) (v := .pointer (some ⟨w.heap.size, 0, none⟩)) rfl (by kernel_rfl) (by kernel_rfl) (by kernel_rfl) (fun _ _ _ h => h) (Or.inl ⟨by kernel_rfl, ?_⟩) hS ?_
  · rintro w' ⟨_, q0, q1, q2, q3, q4, q5, q6⟩; go_simp
  simp only [Act.put]
  refine wpAnyH_take (i := 4) (v := .agg #[.int .i64 o.site, .int .i64 o.seq]) rfl (by kernel_rfl) (by kernel_rfl) (by kernel_rfl) (fun _ _ _ h => h) (Or.inl ⟨by kernel_rfl, ?_⟩) hS ?_
  · rintro w' ⟨_, q0, q1, q2, q3, q4, q5, q6⟩; go_simp
  simp only [Act.put]
  refine wpAnyH_ready (rs := [5]) (by kernel_rfl) (by simp) (AllReadyH.cons rfl (fun K hK => ?_) <| AllReadyH.nil)
  rw [if_pos (by kernel_rfl)]
  go_simp
  refine (HN.out _).mono ?_
  rintro e w1 ⟨rfl, m1⟩
  have hS1 : Mod none_ W0 w1 ∧ w1.cell? ⟨w.heap.size, 0, none⟩ = some (.int .i64 o.site) ∧ w1.cell? ⟨w.heap.size, 1, none⟩ = some (.int .i64 o.seq) ∧ w1.cell? ⟨w.heap.size, 2, none⟩ = some (.int .i64 o.num) ∧ w1.cell? ⟨w.heap.size, 3, none⟩ = some (.int .i64 o.kind) ∧ w1.cell? ⟨w.heap.size, 4, none⟩ = some (.int .i64 o.at_) ∧ w1.cell? ⟨w.heap.size, 5, none⟩ = some (.string o.text) ∧ w1.cell? ⟨w.heap.size, 6, none⟩ = some (.slice o.sa o.slen o.scap) := by
    obtain ⟨q, q0, q1, q2, q3, q4, q5, q6⟩ := hS
    exact ⟨q.trans m1, m1.cell (fun e => e) q0, m1.cell (fun e => e) q1, m1.cell (fun e => e) q2, m1.cell (fun e => e) q3, m1.cell (fun e => e) q4, m1.cell (fun e => e) q5, m1.cell (fun e => e) q6⟩
  refine hK.out _ _ hS1 (fun hS => ?_)
  clear hK K
  try simp only [Act.put, List.setIfInBounds_toArray, List.set_cons_zero, List.set_cons_succ]
  refine wpAnyH_take (i := 6) (v := .bool false) rfl (by kernel_rfl) (by kernel_rfl) (by kernel_rfl) (fun _ _ _ h => h) (Or.inl ⟨by kernel_rfl, ?_⟩) hS ?_
  · rintro w' ⟨_, q0, q1, q2, q3, q4, q5, q6⟩; go_simp
  simp only [Act.put, List.setIfInBounds_toArray]
  refine wpAnyH_take (i := 7) (v := .bool false) rfl (by kernel_rfl) (by kernel_rfl) (by kernel_rfl) (fun _ _ _ h => h) (Or.inl ⟨by kernel_rfl, ?_⟩) hS ?_
  · rintro w' ⟨_, q0, q1, q2, q3, q4, q5, q6⟩; go_simp
  simp only [Act.put]
  refine wpAnyH_take (i := 8) (v := undef) rfl (by kernel_rfl) (by kernel_rfl) (by kernel_rfl) (fun _ _ _ h => h) (Or.inr ⟨by kernel_rfl, rfl⟩) hS ?_
  simp only [Act.put]
  refine wpAnyH_take (i := 9) (v := undef) rfl (by kernel_rfl) (by kernel_rfl) (by kernel_rfl) (fun _ _ _ h => h) (Or.inr ⟨by kernel_rfl, rfl⟩) hS ?_
  simp only [Act.put]
  refine wpAnyH_take (i := 10) (v := undef) rfl (by kernel_rfl) (by kernel_rfl) (by kernel_rfl) (fun _ _ _ h => h) (Or.inr ⟨by kernel_rfl, rfl⟩) hS ?_
  simp only [Act.put]
  refine wpAnyH_take (i := 11) (v := .bool false) rfl (by kernel_rfl) (by kernel_rfl) (by kernel_rfl) (fun _ _ _ h => h) (Or.inl ⟨by kernel_rfl, ?_⟩) hS ?_
  · rintro w' ⟨_, q0, q1, q2, q3, q4, q5, q6⟩; go_simp
  simp only [Act.put]
  refine wpAnyH_take (i := 12) (v := .bool false) rfl (by kernel_rfl) (by kernel_rfl) (by kernel_rfl) (fun _ _ _ h => h) (Or.inl ⟨by kernel_rfl, ?_⟩) hS ?_
  · rintro w' ⟨_, q0, q1, q2, q3, q4, q5, q6⟩; go_simp
  simp only [Act.put]
  refine wpAnyH_take (i := 13) (v := undef) rfl (by kernel_rfl) (by kernel_rfl) (by kernel_rfl) (fun _ _ _ h => h) (Or.inr ⟨by kernel_rfl, rfl⟩) hS ?_
  simp only [Act.put]
  refine wpAnyH_take (i := 14) (v := undef) rfl (by kernel_rfl) (by kernel_rfl) (by kernel_rfl) (fun _ _ _ h => h) (Or.inr ⟨by kernel_rfl, rfl⟩) hS ?_
  simp only [Act.put]
  refine wpAnyH_take (i := 15) (v := undef) rfl (by kernel_rfl) (by kernel_rfl) (by kernel_rfl) (fun _ _ _ h => h) (Or.inr ⟨by kernel_rfl, rfl⟩) hS ?_
  simp only [Act.put]
  refine wpAnyH_take (i := 16) (v := undef) rfl (by kernel_rfl) (by kernel_rfl) (by kernel_rfl) (fun _ _ _ h => h) (Or.inr ⟨by kernel_rfl, rfl⟩) hS ?_
  simp only [Act.put]
  refine wpAnyH_take (i := 17) (v := undef) rfl (by kernel_rfl) (by kernel_rfl) (by kernel_rfl) (fun _ _ _ h => h) (Or.inr ⟨by kernel_rfl, rfl⟩) hS ?_
  simp only [Act.put]
  refine wpAnyH_take (i := 18) (v := undef) rfl (by kernel_rfl) (by kernel_rfl) (by kernel_rfl) (fun _ _ _ h => h) (Or.inr ⟨by kernel_rfl, rfl⟩) hS ?_
  simp only [Act.put]
  refine wpAnyH_take (i := 19) (v := .bool false) rfl (by kernel_rfl) (by kernel_rfl) (by kernel_rfl) (fun _ _ _ h => h) (Or.inl ⟨by kernel_rfl, ?_⟩) hS ?_
  · rintro w' ⟨_, q0, q1, q2, q3, q4, q5, q6⟩; go_simp
  simp only [Act.put]
  refine wpAnyH_take (i := 20) (v := .bool false) rfl (by kernel_rfl) (by kernel_rfl) (by kernel_rfl) (fun _ _ _ h => h) (Or.inl ⟨by kernel_rfl, ?_⟩) hS ?_
  · rintro w' ⟨_, q0, q1, q2, q3, q4, q5, q6⟩; go_simp
  simp only [Act.put]
  refine wpAnyH_done (by kernel_rfl) ?_ _
  try simp only [List.getElem_toArray, List.getElem_cons_succ, List.getElem_cons_zero]
  try simp only [List.setIfInBounds_toArray, List.set_cons_zero, List.set_cons_succ]
  go_wp2_with fail
  go_ret
  exact ⟨rfl, M0.out.trans hS.1⟩

set_option maxHeartbeats 8000000 in
set_option maxRecDepth 1000000 in
theorem mayNum_no (o : OpV) (size : Int) (w : World) (l : List (Int × Int)) (h : o.ok w l) (h1 : inB size 0 20000 = true) (h2 : nameOk o.site o.seq = true) (h3 : inB o.num 0 1099511627776 = false) :
    Calls Tryz.prog 93 #[o.v, .int .i64 size] w fun e w' => e = .returned (.bool false) ∧ Mod none_ w w' := by
  have hs : 0 ≤ size ∧ size ≤ 20000 := by simpa [inB] using h1
  obtain ⟨W0, hW0⟩ : ∃ W0, w.alloc (.cells o.cs.toArray 58) = W0 := ⟨_, rfl⟩
  obtain ⟨m0, kB⟩ := opBox1 hW0
  have H0 := Lib.hid (h.grown m0)
  have M0 := Lib.hid m0
  have c0 : W0.cell? ⟨w.heap.size, 0, none⟩ = some (.int .i64 o.site) := by rw [kB.cell]; rfl
  have c1 : W0.cell? ⟨w.heap.size, 1, none⟩ = some (.int .i64 o.seq) := by rw [kB.cell]; rfl
  have c2 : W0.cell? ⟨w.heap.size, 2, none⟩ = some (.int .i64 o.num) := by rw [kB.cell]; rfl
  have c3 : W0.cell? ⟨w.heap.size, 3, none⟩ = some (.int .i64 o.kind) := by rw [kB.cell]; rfl
  have c4 : W0.cell? ⟨w.heap.size, 4, none⟩ = some (.int .i64 o.at_) := by rw [kB.cell]; rfl
  have c5 : W0.cell? ⟨w.heap.size, 5, none⟩ = some (.string o.text) := by rw [kB.cell]; rfl
  have c6 : W0.cell? ⟨w.heap.size, 6, none⟩ = some (.slice o.sa o.slen o.scap) := by rw [kB.cell]; rfl
  have HS := Lib.hid (owithin_any size 0 20000)
  rw [h1] at HS
  have HN := Lib.hid (vname_any o.site o.seq)
  have HU := Lib.hid (owithin_any o.num 0 1099511627776)
  rw [h2] at HN
  rw [h3] at HU
  clear h m0 kB h1 h2 h3
  go_enter Tryz.func93, Tryz.ntmps93
  go_upto_region 1 with fail
  clear hW0
  refine wp_region_held_drew (S := fun w' => Mod none_ W0 w' ∧ w'.cell? ⟨w.heap.size, 0, none⟩ = some (.int .i64 o.site) ∧ w'.cell? ⟨w.heap.size, 1, none⟩ = some (.int .i64 o.seq) ∧ w'.cell? ⟨w.heap.size, 2, none⟩ = some (.int .i64 o.num) ∧ w'.cell? ⟨w.heap.size, 3, none⟩ = some (.int .i64 o.kind) ∧ w'.cell? ⟨w.heap.size, 4, none⟩ = some (.int .i64 o.at_) ∧ w'.cell? ⟨w.heap.size, 5, none⟩ = some (.string o.text) ∧ w'.cell? ⟨w.heap.size, 6, none⟩ = some (.slice o.sa o.slen o.scap)) (by kernel_rfl) ⟨Mod.drew (Mod.refl none_ W0), c0, c1, c2, c3, c4, c5, c6⟩ (fun hS => ?_)
  refine wpAnyH_take (i := 0) (v := .int .i64 size) rfl (by kernel_rfl) (by kernel_rfl) (by kernel_rfl) (fun _ _ _ h => h) (Or.inl ⟨by kernel_rfl, ?_⟩) hS ?_
  · rintro w' ⟨_, q0, q1, q2, q3, q4, q5, q6⟩; go_simp
  simp only [Act.put, List.setIfInBounds_toArray]
  refine wpAnyH_ready (rs := [1]) (by kernel_rfl) (by simp) (AllReadyH.cons rfl (fun K hK => ?_) <| AllReadyH.nil)
  rw [if_pos (by kernel_rfl)]
  go_simp
  refine (HS.out _).mono ?_
  rintro e w1 ⟨rfl, rfl⟩
  refine hK.out _ _ hS (fun hS => ?_)
  clear hK K
  try simp only [Act.put, List.setIfInBounds_toArray, List.set_cons_zero, List.set_cons_succ]
  refine wpAnyH_take (i := 2) (v := .bool true) rfl (by kernel_rfl) (by kernel_rfl) (by kernel_rfl) (fun _ _ _ h => h) (Or.inl ⟨by kernel_rfl, ?_⟩) hS ?_
  · rintro w' ⟨_, q0, q1, q2, q3, q4, q5, q6⟩; go_simp
  simp only [Act.put, List.setIfInBounds_toArray]
  refine wpAnyH_take (i := 3) (v := .pointer (some ⟨w.heap.size, 0, none⟩)) rfl (by kernel_rfl) (by kernel_rfl) (by kernel_rfl) (fun _ _ _ h => h) (Or.inl ⟨by kernel_rfl, ?_⟩) hS ?_
  · rintro w' ⟨_, q0, q1, q2, q3, q4, q5, q6⟩; go_simp
  simp only [Act.put]
  refine wpAnyH_take (i := 4) (v := .agg #[.int .i64 o.site, .int .i64 o.seq]) rfl (by kernel_rfl) (by kernel_rfl) (by kernel_rfl) (fun _ _ _ h => h) (Or.inl ⟨by kernel_rfl, ?_⟩) hS ?_
  · rintro w' ⟨_, q0, q1, q2, q3, q4, q5, q6⟩; go_simp
  simp only [Act.put]
  refine wpAnyH_ready (rs := [5]) (by kernel_rfl) (by simp) (AllReadyH.cons rfl (fun K hK => ?_) <| AllReadyH.nil)
  rw [if_pos (by kernel_rfl)]
  go_simp
  refine (HN.out _).mono ?_
  rintro e w1 ⟨rfl, m1⟩
  have hS1 : Mod none_ W0 w1 ∧ w1.cell? ⟨w.heap.size, 0, none⟩ = some (.int .i64 o.site) ∧ w1.cell? ⟨w.heap.size, 1, none⟩ = some (.int .i64 o.seq) ∧ w1.cell? ⟨w.heap.size, 2, none⟩ = some (.int .i64 o.num) ∧ w1.cell? ⟨w.heap.size, 3, none⟩ = some (.int .i64 o.kind) ∧ w1.cell? ⟨w.heap.size, 4, none⟩ = some (.int .i64 o.at_) ∧ w1.cell? ⟨w.heap.size, 5, none⟩ = some (.string o.text) ∧ w1.cell? ⟨w.heap.size, 6, none⟩ = some (.slice o.sa o.slen o.scap) := by
    obtain ⟨q, q0, q1, q2, q3, q4, q5, q6⟩ := hS
    exact ⟨q.trans m1, m1.cell (fun e => e) q0, m1.cell (fun e => e) q1, m1.cell (fun e => e) q2, m1.cell (fun e => e) q3, m1.cell (fun e => e) q4, m1.cell (fun e => e) q5, m1.cell (fun e => e) q6⟩
  refine hK.out _ _ hS1 (fun hS => ?_)
  clear hK K
  try simp only [Act.put, List.setIfInBounds_toArray, List.set_cons_zero, List.set_cons_succ]
  refine wpAnyH_take (i := 6) (v := .bool true) rfl (by kernel_rfl) (by kernel_rfl) (by kernel_rfl) (fun _ _ _ h => h) (Or.inl ⟨by kernel_rfl, ?_⟩) hS ?_
  · rintro w' ⟨_, q0, q1, q2, q3, q4, q5, q6⟩; go_simp
  simp only [Act.put, List.setIfInBounds_toArray]
  refine wpAnyH_take (i := 7) (v := .bool true) rfl (by kernel_rfl) (by kernel_rfl) (by kernel_rfl) (fun _ _ _ h => h) (Or.inl ⟨by kernel_rfl, ?_⟩) hS ?_
  · rintro w' ⟨_, q0, q1, q2, q3, q4, q5, q6⟩; go_simp
  simp only [Act.put]
  refine wpAnyH_take (i := 8) (v := .pointer (some ⟨w.heap.size, 2, none⟩)) rfl (by kernel_rfl) (by kernel_rfl) (by kernel_rfl) (fun _ _ _ h => h) (Or.inl ⟨by kernel_rfl, ?_⟩) hS ?_
  · rintro w' ⟨_, q0, q1, q2, q3, q4, q5, q6⟩; go_simp
  simp only [Act.put]
  refine wpAnyH_take (i := 9) (v := .int .i64 o.num) rfl (by kernel_rfl) (by kernel_rfl) (by kernel_rfl) (fun _ _ _ h => h) (Or.inl ⟨by kernel_rfl, ?_⟩) hS ?_
  · rintro w' ⟨_, q0, q1, q2, q3, q4, q5, q6⟩; go_simp
  simp only [Act.put]
  refine wpAnyH_ready (rs := [10]) (by kernel_rfl) (by simp) (AllReadyH.cons rfl (fun K hK => ?_) <| AllReadyH.nil)
  rw [if_pos (by kernel_rfl)]
  go_simp
  refine (HU.out _).mono ?_
  rintro e w1 ⟨rfl, rfl⟩
  refine hK.out _ _ hS (fun hS => ?_)
  clear hK K
  try simp only [Act.put, List.setIfInBounds_toArray, List.set_cons_zero, List.set_cons_succ]
  refine wpAnyH_take (i := 11) (v := .bool false) rfl (by kernel_rfl) (by kernel_rfl) (by kernel_rfl) (fun _ _ _ h => h) (Or.inl ⟨by kernel_rfl, ?_⟩) hS ?_
  · rintro w' ⟨_, q0, q1, q2, q3, q4, q5, q6⟩; go_simp
  simp only [Act.put, List.setIfInBounds_toArray]
  refine wpAnyH_take (i := 12) (v := .bool false) rfl (by kernel_rfl) (by kernel_rfl) (by kernel_rfl) (fun _ _ _ h => h) (Or.inl ⟨by kernel_rfl, ?_⟩) hS ?_
  · rintro w' ⟨_, q0, q1, q2, q3, q4, q5, q6⟩; go_simp
  simp only [Act.put]
  refine wpAnyH_take (i := 13) (v := undef) rfl (by kernel_rfl) (by kernel_rfl) (by kernel_rfl) (fun _ _ _ h => h) (Or.inr ⟨by kernel_rfl, rfl⟩) hS ?_
  simp only [Act.put]
  refine wpAnyH_take (i := 14) (v := undef) rfl (by kernel_rfl) (by kernel_rfl) (by kernel_rfl) (fun _ _ _ h => h) (Or.inr ⟨by kernel_rfl, rfl⟩) hS ?_
  simp only [Act.put]
  refine wpAnyH_take (i := 15) (v := undef) rfl (by kernel_rfl) (by kernel_rfl) (by kernel_rfl) (fun _ _ _ h => h) (Or.inr ⟨by kernel_rfl, rfl⟩) hS ?_
  simp only [Act.put]
  refine wpAnyH_take (i := 16) (v := undef) rfl (by kernel_rfl) (by kernel_rfl) (by kernel_rfl) (fun _ _ _ h => h) (Or.inr ⟨by kernel_rfl, rfl⟩) hS ?_
  simp only [Act.put]
  refine wpAnyH_take (i := 17) (v := undef) rfl (by kernel_rfl) (by kernel_rfl) (by kernel_rfl) (fun _ _ _ h => h) (Or.inr ⟨by kernel_rfl, rfl⟩) hS ?_
  simp only [Act.put]
  refine wpAnyH_take (i := 18) (v := undef) rfl (by kernel_rfl) (by kernel_rfl) (by kernel_rfl) (fun _ _ _ h => h) (Or.inr ⟨by kernel_rfl, rfl⟩) hS ?_
  simp only [Act.put]
  refine wpAnyH_take (i := 19) (v := .bool false) rfl (by kernel_rfl) (by kernel_rfl) (by kernel_rfl) (fun _ _ _ h => h) (Or.inl ⟨by kernel_rfl, ?_⟩) hS ?_
  · rintro w' ⟨_, q0, q1, q2, q3, q4, q5, q6⟩; go_simp
  simp only [Act.put]
  refine wpAnyH_take (i := 20) (v := .bool false) rfl (by kernel_rfl) (by kernel_rfl) (by kernel_rfl) (fun _ _ _ h => h) (Or.inl ⟨by kernel_rfl, ?_⟩) hS ?_
  · rintro w' ⟨_, q0, q1, q2, q3, q4, q5, q6⟩; go_simp
  simp only [Act.put]
  refine wpAnyH_done (by kernel_rfl) ?_ _
  try simp only [List.getElem_toArray, List.getElem_cons_succ, List.getElem_cons_zero]
  try simp only [List.setIfInBounds_toArray, List.set_cons_zero, List.set_cons_succ]
  go_wp2_with fail
  go_ret
  exact ⟨rfl, M0.out.trans hS.1⟩

set_option maxHeartbeats 8000000 in
set_option maxRecDepth 1000000 in
theorem mayDel_any (o : OpV) (size : Int) (w : World) (l : List (Int × Int)) (h : o.ok w l) (h1 : inB size 0 20000 = true) (hk : o.kind = 2) (h2 : nameOk o.site o.seq = true) (h3 : inB o.num 0 1099511627776 = true) :
    Calls Tryz.prog 93 #[o.v, .int .i64 size] w fun e w' => e = .returned (.bool (delOk o size l)) ∧ Mod none_ w w' := by
  have hs : 0 ≤ size ∧ size ≤ 20000 := by simpa [inB] using h1
  obtain ⟨W0, hW0⟩ : ∃ W0, w.alloc (.cells o.cs.toArray 58) = W0 := ⟨_, rfl⟩
  obtain ⟨m0, kB⟩ := opBox1 hW0
  have H0 := Lib.hid (h.grown m0)
  have M0 := Lib.hid m0
  have c0 : W0.cell? ⟨w.heap.size, 0, none⟩ = some (.int .i64 o.site) := by rw [kB.cell]; rfl
  have c1 : W0.cell? ⟨w.heap.size, 1, none⟩ = some (.int .i64 o.seq) := by rw [kB.cell]; rfl
  have c2 : W0.cell? ⟨w.heap.size, 2, none⟩ = some (.int .i64 o.num) := by rw [kB.cell]; rfl
  have c3 : W0.cell? ⟨w.heap.size, 3, none⟩ = some (.int .i64 o.kind) := by rw [kB.cell]; rfl
  have c4 : W0.cell? ⟨w.heap.size, 4, none⟩ = some (.int .i64 o.at_) := by rw [kB.cell]; rfl
  have c5 : W0.cell? ⟨w.heap.size, 5, none⟩ = some (.string o.text) := by rw [kB.cell]; rfl
  have c6 : W0.cell? ⟨w.heap.size, 6, none⟩ = some (.slice o.sa o.slen o.scap) := by rw [kB.cell]; rfl
  have HS := Lib.hid (owithin_any size 0 20000)
  rw [h1] at HS
  have HN := Lib.hid (vname_any o.site o.seq)
  have HU := Lib.hid (owithin_any o.num 0 1099511627776)
  rw [h2] at HN
  rw [h3] at HU
  have hkv : kindV o.kind = .iface 196 (.agg #[]) := by unfold kindV; rw [if_neg (by omega), if_pos hk]
  have HO := Lib.hid (of_any o.kind)
  rw [hkv] at HO
  clear h m0 kB hkv h1 h2 h3 hk
  go_enter Tryz.func93, Tryz.ntmps93
  go_upto_region 1 with fail
  clear hW0
  have hH := H0.out
  have hM := M0.out
  go_region_held3 (fun w' => Mod none_ W0 w' ∧ w'.cell? ⟨w.heap.size, 0, none⟩ = some (.int .i64 o.site) ∧ w'.cell? ⟨w.heap.size, 1, none⟩ = some (.int .i64 o.seq) ∧ w'.cell? ⟨w.heap.size, 2, none⟩ = some (.int .i64 o.num) ∧ w'.cell? ⟨w.heap.size, 3, none⟩ = some (.int .i64 o.kind) ∧ w'.cell? ⟨w.heap.size, 4, none⟩ = some (.int .i64 o.at_) ∧ w'.cell? ⟨w.heap.size, 5, none⟩ = some (.string o.text) ∧ w'.cell? ⟨w.heap.size, 6, none⟩ = some (.slice o.sa o.slen o.scap))
    (first
      | exact ⟨Mod.drew (Mod.refl none_ W0), c0, c1, c2, c3, c4, c5, c6⟩
      | assumption
      | (obtain ⟨q, q0, q1, q2, q3, q4, q5, q6⟩ := ‹Mod none_ W0 _ ∧ _›; exact ⟨q.trans m1, m1.cell (fun e => e) q0, m1.cell (fun e => e) q1, m1.cell (fun e => e) q2, m1.cell (fun e => e) q3, m1.cell (fun e => e) q4, m1.cell (fun e => e) q5, m1.cell (fun e => e) q6⟩))
    (first
      | (go_at_call_of 106 (Value.int IntKind.i64 size); refine (HS.out _).mono ?_; rintro e w1 ⟨rfl, rfl⟩)
      | (go_at_call_of 106 (Value.int IntKind.i64 o.num); refine (HU.out _).mono ?_; rintro e w1 ⟨rfl, rfl⟩)
      | (go_at_call 102; refine (HN.out _).mono ?_; rintro e w1 ⟨rfl, m1⟩)
      | (go_at_call 115; refine (HO.out _).mono ?_; rintro e w1 ⟨rfl, rfl⟩)
      | (go_at_call 164; refine (delMay_any o size _ _ (hH.grown (And.left (by assumption))) hs).mono ?_; rintro e w1 ⟨rfl, m1⟩))
  go_wp2_with fail
  go_ret
  exact ⟨rfl, M0.out.trans (And.left (by assumption))⟩

set_option maxHeartbeats 8000000 in
set_option maxRecDepth 1000000 in
theorem mayNo_any (o : OpV) (size : Int) (w : World) (l : List (Int × Int)) (h : o.ok w l) (h1 : inB size 0 20000 = true) (hk1 : ¬ o.kind = 1) (hk : ¬ o.kind = 2) (h2 : nameOk o.site o.seq = true) (h3 : inB o.num 0 1099511627776 = true) :
    Calls Tryz.prog 93 #[o.v, .int .i64 size] w fun e w' => e = .returned (.bool false) ∧ Mod none_ w w' := by
  have hs : 0 ≤ size ∧ size ≤ 20000 := by simpa [inB] using h1
  obtain ⟨W0, hW0⟩ : ∃ W0, w.alloc (.cells o.cs.toArray 58) = W0 := ⟨_, rfl⟩
  obtain ⟨m0, kB⟩ := opBox1 hW0
  have H0 := Lib.hid (h.grown m0)
  have M0 := Lib.hid m0
  have c0 : W0.cell? ⟨w.heap.size, 0, none⟩ = some (.int .i64 o.site) := by rw [kB.cell]; rfl
  have c1 : W0.cell? ⟨w.heap.size, 1, none⟩ = some (.int .i64 o.seq) := by rw [kB.cell]; rfl
  have c2 : W0.cell? ⟨w.heap.size, 2, none⟩ = some (.int .i64 o.num) := by rw [kB.cell]; rfl
  have c3 : W0.cell? ⟨w.heap.size, 3, none⟩ = some (.int .i64 o.kind) := by rw [kB.cell]; rfl
  have c4 : W0.cell? ⟨w.heap.size, 4, none⟩ = some (.int .i64 o.at_) := by rw [kB.cell]; rfl
  have c5 : W0.cell? ⟨w.heap.size, 5, none⟩ = some (.string o.text) := by rw [kB.cell]; rfl
  have c6 : W0.cell? ⟨w.heap.size, 6, none⟩ = some (.slice o.sa o.slen o.scap) := by rw [kB.cell]; rfl
  have HS := Lib.hid (owithin_any size 0 20000)
  rw [h1] at HS
  have HN := Lib.hid (vname_any o.site o.seq)
  have HU := Lib.hid (owithin_any o.num 0 1099511627776)
  rw [h2] at HN
  rw [h3] at HU
  have hkv : kindV o.kind = .iface 193 (.agg #[]) := by unfold kindV; rw [if_neg hk1, if_neg hk]
  have HO := Lib.hid (of_any o.kind)
  rw [hkv] at HO
  clear h m0 kB hkv h1 h2 h3 hk1 hk
  go_enter Tryz.func93, Tryz.ntmps93
  go_upto_region 1 with fail
  clear hW0
  have hH := H0.out
  have hM := M0.out
  go_region_held3 (fun w' => Mod none_ W0 w' ∧ w'.cell? ⟨w.heap.size, 0, none⟩ = some (.int .i64 o.site) ∧ w'.cell? ⟨w.heap.size, 1, none⟩ = some (.int .i64 o.seq) ∧ w'.cell? ⟨w.heap.size, 2, none⟩ = some (.int .i64 o.num) ∧ w'.cell? ⟨w.heap.size, 3, none⟩ = some (.int .i64 o.kind) ∧ w'.cell? ⟨w.heap.size, 4, none⟩ = some (.int .i64 o.at_) ∧ w'.cell? ⟨w.heap.size, 5, none⟩ = some (.string o.text) ∧ w'.cell? ⟨w.heap.size, 6, none⟩ = some (.slice o.sa o.slen o.scap))
    (first
      | exact ⟨Mod.drew (Mod.refl none_ W0), c0, c1, c2, c3, c4, c5, c6⟩
      | assumption
      | (obtain ⟨q, q0, q1, q2, q3, q4, q5, q6⟩ := ‹Mod none_ W0 _ ∧ _›; exact ⟨q.trans m1, m1.cell (fun e => e) q0, m1.cell (fun e => e) q1, m1.cell (fun e => e) q2, m1.cell (fun e => e) q3, m1.cell (fun e => e) q4, m1.cell (fun e => e) q5, m1.cell (fun e => e) q6⟩))
    (first
      | (go_at_call_of 106 (Value.int IntKind.i64 size); refine (HS.out _).mono ?_; rintro e w1 ⟨rfl, rfl⟩)
      | (go_at_call_of 106 (Value.int IntKind.i64 o.num); refine (HU.out _).mono ?_; rintro e w1 ⟨rfl, rfl⟩)
      | (go_at_call 102; refine (HN.out _).mono ?_; rintro e w1 ⟨rfl, m1⟩)
      | (go_at_call 115; refine (HO.out _).mono ?_; rintro e w1 ⟨rfl, rfl⟩)
      | (go_at_call 157; refine (nmay_any o size _).mono ?_; rintro e w1 ⟨rfl, m1⟩))
  go_wp2_with fail
  go_ret
  exact ⟨rfl, M0.out.trans (And.left (by assumption))⟩

/-- May an operation be upon a size? -/
def opMay (o : OpV) (l : List (Int × Int)) (size : Int) : Bool := nameOk o.site o.seq && inB o.num 0 1099511627776 && (if o.kind = 1 then insOk o size else if o.kind = 2 then delOk o size l else false)
theorem may_any (o : OpV) (size : Int) (w : World) (l : List (Int × Int)) (h : o.ok w l) (h1 : inB size 0 20000 = true) :
    Calls Tryz.prog 93 #[o.v, .int .i64 size] w fun e w' => e = .returned (.bool (opMay o l size)) ∧ Mod none_ w w' := by
  unfold opMay
  cases h2 : nameOk o.site o.seq
  · exact mayName_no o size w l h h1 h2
  cases h3 : inB o.num 0 1099511627776
  · exact mayNum_no o size w l h h1 h2 h3
  by_cases hk : o.kind = 1
  · rw [if_pos hk]; exact mayIns_any o size w l h hk h1 h2 h3
  rw [if_neg hk]
  by_cases hk2 : o.kind = 2
  · rw [if_pos hk2]; exact mayDel_any o size w l h h1 hk2 h2 h3
  · rw [if_neg hk2]; exact mayNo_any o size w l h h1 hk hk2 h2 h3
end Go.Proofs.YtjgjjlolhdlofaaGreatDoor

namespace Go.Mine
open Go.MapKept Go.Maps
open Go.ChangeMaps (setBlock heap_setBlock_same heap_setBlock_other modify_eq_set)
open Classical

def isKey (P : Program) (k : TypeId) (v : Value) : Prop := ∃ q, keyOf P k v = some q

/-- Block b is a map: m tells the value of each key; n keys have one. -/
def IMap (P : Program) (k : TypeId) (w : World) (b : Nat) (m : Value → Option Value) (n : Nat) : Prop :=
  ∃ es clock, w.heap[b]? = some (.map es clock) ∧ Stamped es clock ∧ es.size = n ∧ (∀ e ∈ es.toList, isKey P k e.key ∧ m e.key = some e.val) ∧ ∀ x, m x ≠ none → ∃ e ∈ es.toList, e.key = x

noncomputable def putM (m : Value → Option Value) (x v : Value) : Value → Option Value := fun y => if y = x then some v else m y
noncomputable def delM (m : Value → Option Value) (x : Value) : Value → Option Value := fun y => if y = x then none else m y
theorem putM_same (m : Value → Option Value) (x v : Value) : putM m x v x = some v := if_pos rfl
theorem putM_other {m : Value → Option Value} {x v y : Value} (h : y ≠ x) : putM m x v y = m y := if_neg h

variable {P : Program} {k t e : TypeId} {w w' : World} {b n : Nat} {m : Value → Option Value}

theorem IMap.made (w : World) : IMap P k (w.alloc (.map #[] 0)) w.heap.size (fun _ => none) 0 :=
  ⟨#[], 0, (MapKept.heap_alloc w _).1, stamped_empty 0, rfl, by simp, fun x h => absurd rfl h⟩
theorem IMap.lt (h : IMap P k w b m n) : b < w.heap.size := by
  obtain ⟨es, clock, hb, _⟩ := h; exact lt_of_block hb
theorem IMap.mod {S : Nat → Prop} (h : IMap P k w b m n) (M : Mod S w w') (hs : ¬ S b) : IMap P k w' b m n := by
  obtain ⟨es, clock, hb, r⟩ := h; exact ⟨es, clock, M.blk hs hb, r⟩
theorem IMap.drew (h : IMap P k w b m n) : IMap P k w.drew b m n := h
theorem IMap.key (h : IMap P k w b m n) {x : Value} (hx : m x ≠ none) : isKey P k x := by
  obtain ⟨es, clock, hb, _, _, h1, h2⟩ := h
  obtain ⟨e, he, rfl⟩ := h2 x hx
  exact (h1 e he).1

/-- What the search finds. -/
theorem IMap.find (K : Keyed P k) {es : Array MapEntry} (h1 : ∀ e ∈ es.toList, isKey P k e.key ∧ m e.key = some e.val) (h2 : ∀ x, m x ≠ none → ∃ e ∈ es.toList, e.key = x) {x : Value} (hx : isKey P k x) (w : World) :
    ((Instr.findKey k x es.toList).run P w = .ok none w ∧ (∀ e ∈ es.toList, e.key ≠ x) ∧ m x = none) ∨ ∃ j e0, (Instr.findKey k x es.toList).run P w = .ok (some (j, e0.val)) w ∧ es.toList[j]? = some e0 ∧ e0.key = x ∧ m x = some e0.val := by
  obtain ⟨q, hq⟩ := hx
  rcases K.find w hq es.toList (fun e he => (h1 e he).1) with ⟨a, c⟩ | ⟨j, e0, a, c, d⟩
  · refine .inl ⟨a, c, ?_⟩
    by_cases hm : m x = none
    · exact hm
    · obtain ⟨e, he, hk⟩ := h2 x hm
      exact absurd hk (c e he)
  · exact .inr ⟨j, e0, a, c, d, by rw [← d]; exact (h1 e0 (List.mem_of_getElem? c)).2⟩

theorem IMap.lookup (h : IMap P k w b m n) (K : Keyed P k) (ht : P.underlying t = some (.map k e)) {z : Value} (hz : (zeroValue e).run P w = .ok z w) {x : Value} (hx : isKey P k x) (c : Bool) :
    (Instr.lookup t (.map (some b)) x c).run P w = .ok (if c then .tuple #[(m x).getD z, .bool (m x).isSome] else (m x).getD z) w := by
  obtain ⟨es, clock, hb, _, _, h1, h2⟩ := h
  obtain ⟨q, hq⟩ := hx
  rcases IMap.find K h1 h2 ⟨q, hq⟩ w with ⟨a, _, d⟩ | ⟨j, e0, a, _, _, d⟩
  · simp [Instr.lookup, run_underlying ht, MapKept.run_getObj_map hb, K.check w _ hq, a, hz, Result.andThen, d]
  · simp [Instr.lookup, run_underlying ht, MapKept.run_getObj_map hb, K.check w _ hq, a, Result.andThen, d]

theorem setBlock_mod {es : Array MapEntry} {clock : Nat} (hb : w.heap[b]? = some (.map es clock)) (o : Obj) : Mod (one b) w (setBlock w b o) :=
  ⟨rfl, rfl, rfl, by simp [setBlock], fun k _ hk => heap_setBlock_other hb _ (fun e => hk e)⟩

/-- One entry turned, its key kept. -/
theorem IMap.turn {es : Array MapEntry} {clock : Nat} (hb : w.heap[b]? = some (.map es clock)) (hst : Stamped es clock) (h1 : ∀ e ∈ es.toList, isKey P k e.key ∧ m e.key = some e.val) (h2 : ∀ x, m x ≠ none → ∃ e ∈ es.toList, e.key = x)
    {j : Nat} {e0 : MapEntry} {x v : Value} (hj : es.toList[j]? = some e0) (hk : e0.key = x) (f : MapEntry → MapEntry) (hf : ∀ e, (f e).born = e.born) (hfk : (f e0).key = x) (hfv : (f e0).val = v) :
    IMap P k (setBlock w b (.map (es.modify j f) clock)) b (putM m x v) es.size := by
  have hj' : es[j]? = some e0 := by simpa using hj
  have hjl : j < es.toList.length := (List.getElem?_eq_some_iff.1 hj).1
  have hlist : (es.modify j f).toList = es.toList.set j (f e0) := by rw [Array.toList_modify, modify_eq_set _ _ _ _ hj]
  have hx : isKey P k x := by rw [← hk]; exact (h1 e0 (List.mem_of_getElem? hj)).1
  refine ⟨_, clock, heap_setBlock_same hb _, stamped_modify hst j _ (fun _ _ => hf _) (fun e' _ he' => by rw [hj'] at he'; cases he'; rw [hfk, hk]), Array.size_modify, ?_, ?_⟩
  · intro y hy
    rw [hlist] at hy
    obtain ⟨i, hi, rfl⟩ := List.getElem_of_mem hy
    rw [List.getElem_set]
    split
    · exact ⟨by rw [hfk]; exact hx, by rw [hfk, hfv]; exact putM_same ..⟩
    · rename_i hne
      rw [List.length_set] at hi
      have hin : es.toList[i] ∈ es.toList := List.getElem_mem _
      refine ⟨(h1 _ hin).1, ?_⟩
      rw [putM_other ?_]
      · exact (h1 _ hin).2
      · intro heq
        have hnd := hst.2.2
        rw [List.nodup_iff_pairwise_ne, List.pairwise_iff_getElem] at hnd
        have hkj : es.toList[j].key = x := by have := (List.getElem?_eq_some_iff.1 hj).2; rw [this]; exact hk
        rcases Nat.lt_or_gt_of_ne hne with hlt | hgt
        · exact hnd j i (by simpa using hjl) (by simpa using hi) hlt (by simp; simp at hkj heq; rw [hkj, heq])
        · exact hnd i j (by simpa using hi) (by simpa using hjl) hgt (by simp; simp at hkj heq; rw [hkj, heq])
  · intro y hy
    by_cases hyx : y = x
    · exact ⟨f e0, by rw [hlist]; exact List.mem_set hjl _, by rw [hfk, hyx]⟩
    · rw [putM_other hyx] at hy
      obtain ⟨e, he, hke⟩ := h2 y hy
      refine ⟨e, ?_, hke⟩
      rw [hlist]
      obtain ⟨i, hi, rfl⟩ := List.getElem_of_mem he
      have hne : j ≠ i := by
        intro e1
        subst e1
        have := (List.getElem?_eq_some_iff.1 hj).2
        rw [this, hk] at hke
        exact hyx hke.symm
      rw [List.mem_iff_getElem]
      exact ⟨i, by rw [List.length_set]; exact hi, by rw [List.getElem_set_ne hne]⟩
/-- A new entry. -/
theorem IMap.push {es : Array MapEntry} {clock : Nat} (hb : w.heap[b]? = some (.map es clock)) (hst : Stamped es clock) (h1 : ∀ e ∈ es.toList, isKey P k e.key ∧ m e.key = some e.val) (h2 : ∀ x, m x ≠ none → ∃ e ∈ es.toList, e.key = x)
    {x : Value} (v : Value) (hx : isKey P k x) (hc : ∀ e ∈ es.toList, e.key ≠ x) :
    IMap P k (setBlock w b (.map (es.push ⟨x, v, clock⟩) (clock + 1))) b (putM m x v) (es.size + 1) := by
  refine ⟨es.push ⟨x, v, clock⟩, clock + 1, heap_setBlock_same hb _, stamped_push hst hc, by simp, ?_, ?_⟩
  · intro y hy
    simp only [Array.toList_push, List.mem_append, List.mem_singleton] at hy
    rcases hy with hy | rfl
    · exact ⟨(h1 y hy).1, by rw [putM_other (hc y hy)]; exact (h1 y hy).2⟩
    · exact ⟨hx, putM_same ..⟩
  · intro y hy
    by_cases hyx : y = x
    · exact ⟨⟨x, v, clock⟩, by simp, hyx.symm⟩
    · rw [putM_other hyx] at hy
      obtain ⟨e, he, hk⟩ := h2 y hy
      exact ⟨e, by simp [he], hk⟩

theorem IMap.update (h : IMap P k w b m n) (K : Keyed P k) (ht : P.underlying t = some (.map k e)) {x v : Value} (hx : isKey P k x) :
    ∃ w', (Instr.mapUpdate t (.map (some b)) x v).run P w = .ok () w' ∧ IMap P k w' b (putM m x v) (if m x = none then n + 1 else n) ∧ Mod (one b) w w' := by
  obtain ⟨es, clock, hb, hst, rfl, h1, h2⟩ := h
  obtain ⟨q, hq⟩ := hx
  rcases IMap.find K h1 h2 ⟨q, hq⟩ w with ⟨a, c, d⟩ | ⟨j, e0, a, hj, hk, d⟩
  · refine ⟨setBlock w b (.map (es.push ⟨x, v, clock⟩) (clock + 1)), ?_, by rw [if_pos d]; exact IMap.push hb hst h1 h2 v ⟨q, hq⟩ c, setBlock_mod hb _⟩
    simp [Instr.mapUpdate, run_underlying ht, MapKept.run_getObj_map hb, K.check w false hq, a, MapKept.run_setObj_map _ hb, Result.andThen, setBlock]
  · have hj' : es[j]? = some e0 := by simpa using hj
    refine ⟨setBlock w b (.map (es.modify j (fun e' => { e' with key := x, val := v })) clock), ?_, by rw [if_neg (by rw [d]; simp)]; exact IMap.turn hb hst h1 h2 hj hk _ (fun _ => rfl) rfl rfl, setBlock_mod hb _⟩
    simp [Instr.mapUpdate, run_underlying ht, MapKept.run_getObj_map hb, K.check w false hq, a, MapKept.run_setObj_map _ hb, Result.andThen, setBlock, hj', hk, K.stays w hq]

/-- The entry born at s has the key x. -/
def IEnt (w : World) (b : Nat) (s : Nat) (x : Value) : Prop := ∃ es clock, w.heap[b]? = some (.map es clock) ∧ ∃ e ∈ es.toList, e.key = x ∧ e.born = s

theorem IMap.entry (h : IMap P k w b m n) (K : Keyed P k) (ht : P.underlying t = some (.map k e)) {z : Value} (hz : (zeroValue e).run P w = .ok z w) {x : Value} (hx : isKey P k x) :
    ∃ (s : Nat) (w' : World), (Instr.mapEntry t (.map (some b)) x).run P w = .ok (.tuple #[(m x).getD z, goInt s]) w' ∧ IMap P k w' b (putM m x ((m x).getD z)) (if m x = none then n + 1 else n) ∧ Mod (one b) w w' ∧ IEnt w' b s x := by
  obtain ⟨es, clock, hb, hst, rfl, h1, h2⟩ := h
  obtain ⟨q, hq⟩ := hx
  rcases IMap.find K h1 h2 ⟨q, hq⟩ w with ⟨a, c, d⟩ | ⟨j, e0, a, hj, hk, d⟩
  · refine ⟨clock, setBlock w b (.map (es.push ⟨x, z, clock⟩) (clock + 1)), ?_, by rw [if_pos d, d]; exact IMap.push hb hst h1 h2 z ⟨q, hq⟩ c, setBlock_mod hb _, _, _, heap_setBlock_same hb _, ⟨x, z, clock⟩, by simp, rfl, rfl⟩
    simp [Instr.mapEntry, run_underlying ht, MapKept.run_getObj_map hb, K.check w false hq, a, MapKept.run_setObj_map _ hb, Result.andThen, setBlock, hz, d]
  · have hj' : es[j]? = some e0 := by simpa using hj
    have hjl : j < es.toList.length := (List.getElem?_eq_some_iff.1 hj).1
    refine ⟨e0.born, setBlock w b (.map (es.modify j (fun e' => { e' with key := x })) clock), ?_, by rw [if_neg (by rw [d]; simp), d]; exact IMap.turn hb hst h1 h2 hj hk _ (fun _ => rfl) rfl rfl, setBlock_mod hb _, _, _, heap_setBlock_same hb _, { e0 with key := x }, ?_, rfl, rfl⟩
    · simp [Instr.mapEntry, run_underlying ht, MapKept.run_getObj_map hb, K.check w false hq, a, MapKept.run_setObj_map _ hb, Result.andThen, setBlock, hj', hk, K.stays w hq, d]
    · rw [Array.toList_modify, modify_eq_set _ _ _ _ hj]; exact List.mem_set hjl _

theorem IMap.store {s : Nat} (h : IMap P k w b m n) {x : Value} (hs : IEnt w b s x) (v : Value) :
    ∃ w', (Instr.entryStore t (.map (some b)) (goInt s) v).run P w = .ok () w' ∧ IMap P k w' b (putM m x v) n ∧ Mod (one b) w w' := by
  obtain ⟨es, clock, hb, hst, rfl, h1, h2⟩ := h
  obtain ⟨es', clock', hb', e1, he1, hk1, hs1⟩ := hs
  rw [hb] at hb'
  cases hb'
  have hfind : ∃ i, es.findIdx? (fun e => (e.born : Int) == (s : Int)) = some i := by
    rw [← Option.isSome_iff_exists, Array.findIdx?_isSome]
    rw [Array.any_eq_true']
    exact ⟨e1, by simpa using he1, by simp [hs1]⟩
  obtain ⟨i, hi⟩ := hfind
  obtain ⟨hil, hp⟩ := Array.findIdx?_eq_some_iff_getElem.1 hi
  have hbi : es[i].born = s := by have h := hp.1; simp at h; omega
  have hj : es.toList[i]? = some es[i] := by simp [hil]
  have hk : es[i].key = x := by
    obtain ⟨q, hq, hqe⟩ := List.getElem_of_mem he1
    have hnd := hst.2.1
    rw [List.nodup_iff_pairwise_ne, List.pairwise_iff_getElem] at hnd
    have hqs : q < es.size := by simpa using hq
    have hqb : es[q].born = s := by have : es.toList[q] = es[q] := by simp
                                    rw [← this, hqe]; exact hs1
    have : q = i := by
      rcases Nat.lt_trichotomy q i with hlt | rfl | hgt
      · have := hnd q i (by simpa using hqs) (by simpa using hil) hlt; simp [hqb, hbi] at this
      · rfl
      · have := hnd i q (by simpa using hil) (by simpa using hqs) hgt; simp [hqb, hbi] at this
    subst this
    rw [← hk1, ← hqe]
    simp
  refine ⟨setBlock w b (.map (es.modify i (fun e' => { e' with val := v })) clock), ?_, IMap.turn hb hst h1 h2 hj hk _ (fun _ => rfl) hk rfl, setBlock_mod hb _⟩
  simp [Instr.entryStore, MapKept.run_getObj_map hb, MapKept.run_setObj_map _ hb, Result.andThen, setBlock, goInt, asInt, asIntOf, hi]
theorem IEnt.mod {S : Nat → Prop} {s : Nat} {x : Value} (h : IEnt w b s x) (M : Mod S w w') (hs : ¬ S b) : IEnt w' b s x := by
  obtain ⟨es, clock, hb, r⟩ := h; exact ⟨es, clock, M.blk hs hb, r⟩

theorem IMap.len (h : IMap P k w b m n) (ht : P.underlying t = some (.map k e)) (ty : TypeId) : (Builtin.len_ #[t] ty #[.map (some b)]).run P w = .ok (goInt n) w := by
  obtain ⟨es, clock, hb, _, rfl, _⟩ := h
  simp [Builtin.len_, run_underlying ht, MapKept.run_getObj_map hb]

end Go.Mine

namespace Go.Proofs.YtjgjjlolhdlofaaGreatDoor
open Go.RowKit Go.Mine Go.Maps

theorem Tryz.laidOutC : laidOutB Tryz.prog = true := by kernel_rfl
theorem kName : Keyed Tryz.prog 42 := Keyed.of_law (deep_law_laid Tryz.laidOutC (m := 3) (by omega) (of_decide_eq_true (by kernel_rfl)) (by kernel_rfl) (by kernel_rfl))
theorem kId : Keyed Tryz.prog 165 := Keyed.of_law (deep_law_laid Tryz.laidOutC (m := 3) (by omega) (of_decide_eq_true (by kernel_rfl)) (by kernel_rfl) (by kernel_rfl))

/-- An int64. -/
def I64 (n : Int) : Prop := -9223372036854775808 ≤ n ∧ n ≤ 9223372036854775807
theorem I64.wf {n : Int} (h : I64 n) : (Lit.int .i64 n).wf = true := by
  unfold I64 at h
  have e : IntKind.i64.min = -9223372036854775808 := by decide
  simp [Lit.wf, e]
  omega

theorem keyFuel : ∃ m, Tryz.prog.types.size + 1 = m + 3 := ⟨Tryz.prog.types.size - 2, by have : 2 ≤ Tryz.prog.types.size := of_decide_eq_true (by kernel_rfl); omega⟩
theorem key_name {a b : Int} (ha : I64 a) (hb : I64 b) : isKey Tryz.prog 42 (.agg #[.int .i64 a, .int .i64 b]) := by
  obtain ⟨m, hm⟩ := keyFuel
  have hc : Tryz.prog.cellsOf 42 = 2 := by kernel_rfl
  have hi : Tryz.prog.cellsOf 3 = 1 := by kernel_rfl
  have hk : Tryz.prog.keyType 42 = true := by kernel_rfl
  unfold isKey keyOf
  rw [hm]
  simp [Tryz.underlying42, hk, Value.formed, hc, Value.cells, Program.keyLits, Tryz.underlying3, hi, ha.wf, hb.wf]
theorem key_id {a b c : Int} (ha : I64 a) (hb : I64 b) (hc' : I64 c) : isKey Tryz.prog 165 (.agg #[.int .i64 a, .int .i64 b, .int .i64 c]) := by
  obtain ⟨m, hm⟩ := keyFuel
  have hc : Tryz.prog.cellsOf 42 = 2 := by kernel_rfl
  have hd : Tryz.prog.cellsOf 165 = 3 := by kernel_rfl
  have hi : Tryz.prog.cellsOf 3 = 1 := by kernel_rfl
  have hk : Tryz.prog.keyType 165 = true := by kernel_rfl
  unfold isKey keyOf
  rw [hm]
  simp [Tryz.underlying165, Tryz.underlying42, hk, Value.formed, hc, hd, Value.cells, Program.keyLits, Tryz.underlying3, hi, ha.wf, hb.wf, hc'.wf]
  rw [if_pos (by decide)]
  exact ⟨_, rfl⟩

end Go.Proofs.YtjgjjlolhdlofaaGreatDoor

namespace Go.Proofs.YtjgjjlolhdlofaaGreatDoor
open Go.RowKit Go.Mine

/-- Runes in memory. -/
structure IsI32 (w : World) (a : Option Addr) (len cap : Nat) (l : List Int) : Prop where
  n : l.length = len
  le : len ≤ cap
  big : cap ≤ maxLen
  ok : ∀ x ∈ l, -2147483648 ≤ x ∧ x ≤ 2147483647
  cells : ∀ (i : Nat) (x : Int), l[i]? = some x → ∃ b off, a = some ⟨b, off, none⟩ ∧ w.cell? ⟨b, off + i, none⟩ = some (.int .i32 x)
theorem IsI32.grown {w w' : World} {a : Option Addr} {len cap : Nat} {l : List Int} (h : IsI32 w a len cap l) (m : Mod none_ w w') : IsI32 w' a len cap l :=
  ⟨h.n, h.le, h.big, h.ok, fun i x hx => by
    obtain ⟨b, off, e, c0⟩ := h.cells i x hx
    exact ⟨b, off, e, m.cell (fun e => e) c0⟩⟩

theorem enc_byte (r x : Int) (h : x ∈ Lib.encodeRuneZ r) : 0 ≤ x ∧ x < 256 := by
  unfold Lib.encodeRuneZ at h
  repeat' split at h
  all_goals simp at h
  all_goals omega
theorem enc_len (r : Int) : (Lib.encodeRuneZ r).length ≤ 4 := by
  unfold Lib.encodeRuneZ
  repeat' split
  all_goals simp
def bytesOf (l : List Int) : List UInt8 := (l.flatMap Lib.encodeRuneZ).map fun x => UInt8.ofNat x.toNat
theorem bytesOf_cells (l : List Int) : (bytesOf l).map (fun b => Value.int .u8 (b.toNat : Int)) = l.flatMap Lib.runeCells := by
  unfold bytesOf
  rw [List.map_map, List.map_flatMap]
  congr 1
  funext r
  unfold Lib.runeCells
  apply List.map_congr_left
  intro x hx
  have := enc_byte r x hx
  simp only [Function.comp_apply]
  congr 1
  simp
  omega
theorem flat_len (l : List Int) : (l.flatMap Lib.runeCells).length ≤ 4 * l.length := by
  induction l with
  | nil => simp
  | cons r t ih =>
    rw [List.flatMap_cons, List.length_append, List.length_cons]
    have := enc_len r
    have e : (Lib.runeCells r).length = (Lib.encodeRuneZ r).length := by unfold Lib.runeCells; simp
    omega

/-- What Join answers. -/
def joinV (l : List Int) : Value := if l.all Lib.validRune then .tuple #[.string ⟨(bytesOf l).toArray⟩, .int .i64 0] else .tuple #[.string ⟨#[]⟩, .int .i64 2]

theorem infoB : (Tryz.prog.info? 5).map (fun i => (i.zero, i.size, i.bytes)) = some (some (.int .u8 0), 1, 1) := by kernel_rfl

set_option maxHeartbeats 2000000 in
set_option maxRecDepth 1000000 in
theorem join_any (w : World) (a : Option Addr) (len cap : Nat) (l : List Int) (h : IsI32 w a len cap l) (hlen : len ≤ 1099511627776) :
    Calls Tryz.prog 58 #[.slice a len cap] w fun e w' => e = .returned (joinV l) ∧ Mod none_ w w' := by
  have hle := h.le
  have hbig := h.big
  unfold maxLen at hbig
  have hN := h.n
  have H := Lib.hid h
  obtain ⟨R, hR⟩ : ∃ R, R = joinV l := ⟨_, rfl⟩
  rw [← hR]
  have HR := Lib.hid hR
  clear h hR
  obtain ⟨i0, hi0, hz0, hz1, hz2⟩ := info_parts infoB
  obtain ⟨wm, hrun, hown, hgrow⟩ := run_make_own (P := Tryz.prog) w w.heap.size 89 5 i0 (.int .u8 0) 1 Tryz.underlying89 hi0 hz0 hz1 .i64 .i64 len (by rw [hz2]; omega) (by unfold maxLen; omega) (Nat.le_refl _)
  have M0 := Lib.hid ((Mod.refl none_ w).grown hgrow (fun k e => by cases e))
  have O0 := Lib.hid hown
  clear hown hgrow hi0 hz0 hz1 hz2
  go_enter Tryz.func58, Tryz.ntmps58
  go_wp2_with fail
  go_loopg [4, 12] len (fun g s4 s12 wx => ∃ k : Nat, g = len - k ∧ s12 = .int .i64 k ∧ k ≤ len ∧ Mod none_ w wx ∧ wx.ownsRow w.heap.size 5 1 s4 ((l.take k).flatMap Lib.runeCells).length ((l.take k).flatMap Lib.runeCells) ∧ RowKit.Hid ((l.take k).all Lib.validRune = true))
  case atStart => exact ⟨0, rfl, rfl, Nat.zero_le _, M0.out, O0.out, Lib.hid rfl⟩
  case round =>
    obtain ⟨k, rfl, rfl, hk, m1, ho, hall⟩ := hrel
    have M1 := Lib.hid m1
    have O1 := Lib.hid ho
    by_cases hlk : k < len
    · obtain ⟨x, hx⟩ : ∃ x, l[k]? = some x := ⟨l[k]'(by omega), by simp⟩
      obtain ⟨b, off, rfl, c0⟩ := H.out.cells k _ hx
      obtain ⟨hx1, hx2⟩ := H.out.ok _ (List.mem_of_getElem? hx)
      have c0' := m1.cell (fun e => e) c0
      have htk : l.take (k + 1) = l.take k ++ [x] := by
        obtain ⟨hk', e⟩ := List.getElem?_eq_some_iff.1 hx
        rw [List.take_succ_eq_append_getElem hk', e]
      have hlb := block_lt_of_cell c0'
      have HT := Lib.hid htk
      have hfl := flat_len (l.take k)
      rw [List.length_take] at hfl
      have hfl2 : ((l.take k).flatMap Lib.runeCells).length + 4 ≤ 140737488355328 := by omega
      have hB : w.heap.size ≤ wr.heap.size := m1.size
      have HX := Lib.hid hx
      clear c0 hx htk hfl m1 ho
      go_wp2_with fail
      refine (valid_any x wr).mono ?_
      rintro e w1 ⟨rfl, rfl⟩
      cases hv : Lib.validRune x
      · have HE := Lib.hid (show R = .tuple #[.string ⟨#[]⟩, .int .i64 2] by
          rw [HR.out]; unfold joinV
          rw [if_neg]
          intro h
          rw [List.all_eq_true] at h
          have := h x (List.mem_of_getElem? HX.out)
          rw [hv] at this; cases this)
        go_wp2_with fail
        go_ret2
        exact ⟨by rw [HE.out]; rfl, M1.out⟩
      · go_wp2_with fail
        refine (append_any w.heap.size _ _ _ x hx1 hx2 _ O1.out hfl2 hB).mono ?_
        rintro e w2 ⟨v', rfl, ho2, o, hg⟩
        have M2 := Lib.hid ((M1.out.alloc o).grown hg (fun j e hj => absurd hj (by have := (O1.out.lt j e).1; omega)))
        have O2 := Lib.hid ho2
        clear ho2 hg
        go_wp2_with fail
        go_roundg (len - (k + 1))
        case measure => omega
        case rel =>
          refine ⟨k + 1, rfl, by go_num, by omega, M2.out, ?_, Lib.hid ?_⟩
          · rw [HT.out, List.flatMap_append, List.length_append]
            simpa using O2.out
          · rw [HT.out, List.all_append, hall.out]; simp [hv]
    · obtain rfl : k = len := by omega
      have e : l.take k = l := List.take_of_length_le (by omega)
      rw [e] at hall
      have HE := Lib.hid (show R = .tuple #[.string ⟨(bytesOf l).toArray⟩, .int .i64 0] by
        rw [HR.out]; unfold joinV; rw [if_pos hall.out])
      have ho' := O1.out
      rw [e] at ho'
      have hbl : (bytesOf l).length = (l.flatMap Lib.runeCells).length := by rw [← bytesOf_cells l, List.length_map]
      rcases ownsRow_blk ho' with ⟨rfl, h0, _⟩ | ⟨g, cap2, more, rfl, _, hblk, _, _, _⟩
      · have hnil : bytesOf l = [] := List.eq_nil_of_length_eq_zero (by omega)
        have hcv := Lib.run_convert_nil_bytes (P := Tryz.prog) wr 89 9 5 0 Tryz.underlying89 Tryz.underlying5 Tryz.underlying9
        clear hall ho' O1 m1 ho hbl e
        go_wp2_with fail
        go_ret2
        exact ⟨by rw [HE.out, hnil]; rfl, M1.out⟩
      · have hcv : (convert 89 9 (.slice (some ⟨g, 0, none⟩) (l.flatMap Lib.runeCells).length cap2)).run Tryz.prog wr = .ok (.string ⟨(bytesOf l).toArray⟩) wr := by
          rw [← hbl]
          refine run_convert_bytes_back wr _ _ _ ⟨g, 0, none⟩ cap2 (bytesOf l) Tryz.underlying89 Tryz.underlying5 Tryz.underlying9 (fun j hj => ?_)
          have ea : (⟨g, 0, none⟩ : Addr).add j = ⟨g, j, none⟩ := by rw [Addr.add_lit, Nat.zero_add]
          rw [ea, hblk.cell, ← bytesOf_cells l, List.getElem?_append_left (by rw [List.length_map]; exact hj), List.getElem?_map, List.getElem?_eq_getElem hj]
          rfl
        clear hall ho' O1 m1 ho hbl e hblk
        generalize (l.flatMap Lib.runeCells).length = NN at hcv ⊢
        go_wp2_with fail
        go_ret2
        exact ⟨by rw [HE.out]; rfl, M1.out⟩

/-- A cell. -/
structure CellV where
  site : Int
  seq : Int
  off : Int
  r : Int
  gone : Bool
structure CellV.ok (c : CellV) : Prop where
  i1 : -9223372036854775808 ≤ c.site ∧ c.site ≤ 9223372036854775807
  i2 : -9223372036854775808 ≤ c.seq ∧ c.seq ≤ 9223372036854775807
  i3 : -9223372036854775808 ≤ c.off ∧ c.off ≤ 9223372036854775807
  i4 : -2147483648 ≤ c.r ∧ c.r ≤ 2147483647
abbrev CellV.cs (c : CellV) : List Value := [.int .i64 c.site, .int .i64 c.seq, .int .i64 c.off, .int .i32 c.r, .bool c.gone]
abbrev CellV.v (c : CellV) : Value := .agg #[.int .i64 c.site, .int .i64 c.seq, .int .i64 c.off, .int .i32 c.r, .bool c.gone]
/-- May a cell be? -/
def cellOk (c : CellV) : Bool := nameOk c.site c.seq && decide (0 ≤ c.off) && decide (c.off < 200) && Lib.validRune c.r

set_option maxHeartbeats 2000000 in
set_option maxRecDepth 1000000 in
theorem mayCell_any (c : CellV) (w : World) (h : c.ok) : Calls Tryz.prog 99 #[c.v] w fun e w' => e = .returned (.bool (cellOk c)) ∧ Mod none_ w w' := by
  obtain ⟨R, hR⟩ : ∃ R, R = cellOk c := ⟨_, rfl⟩
  rw [← hR]
  have HR := Lib.hid hR
  clear hR
  obtain ⟨W0, hW0⟩ : ∃ W0, (w.alloc (.cells c.cs.toArray 53)) = W0 := ⟨_, rfl⟩
  have k0 : Blk W0 w.heap.size c.cs 53 := by rw [← hW0]; exact Blk.new
  have m0 : Mod none_ w W0 := by rw [← hW0]; exact (Mod.refl none_ w).alloc _
  have hz : W0.heap.size = w.heap.size + 1 := by rw [← hW0]; simp
  have c3 : W0.cell? ⟨w.heap.size, 3, none⟩ = some (.int .i32 c.r) := by rw [k0.cell]; rfl
  have K0 := Lib.hid k0
  have M0 := Lib.hid m0
  have hir := h.i4
  clear k0 m0 h
  go_enter Tryz.func99, Tryz.ntmps99
  go_upto_region 1 with fail
  clear hW0
  go_wp2_with fail
  have k1 : Blk (W0.alloc (.cells #[.int .i32 c.r] 21)) (w.heap.size + 1) [.int .i32 c.r] 21 := by
    have := Blk.new (w := W0) (cs := [.int .i32 c.r]) (t := 21)
    rwa [hz] at this
  have hI : IsI32 (W0.alloc (.cells #[.int .i32 c.r] 21)) (some ⟨w.heap.size + 1, 0, none⟩) 1 1 [c.r] := by
    refine ⟨rfl, Nat.le_refl _, by unfold maxLen; omega, fun x hx => by rw [List.mem_singleton.1 hx]; exact hir, fun i x hx => ?_⟩
    obtain ⟨hi, e⟩ := List.getElem?_eq_some_iff.1 hx
    have hi0 : i = 0 := by simpa using hi
    subst hi0
    refine ⟨w.heap.size + 1, 0, rfl, ?_⟩
    rw [k1.cell, ← e]; rfl
  refine (join_any _ _ 1 1 [c.r] hI (by omega)).mono ?_
  rintro e w2 ⟨rfl, m2⟩
  have M2 := Lib.hid ((M0.out.alloc _).trans m2)
  have k2 := (K0.out.mod ((Mod.refl none_ W0).alloc (.cells #[.int .i32 c.r] 21)) (fun e => e)).mod m2 (fun e => e)
  have d0 : w2.cell? ⟨w.heap.size, 0, none⟩ = some (.int .i64 c.site) := by rw [k2.cell]; rfl
  have d1 : w2.cell? ⟨w.heap.size, 1, none⟩ = some (.int .i64 c.seq) := by rw [k2.cell]; rfl
  have K2 := Lib.hid k2
  obtain ⟨jv, je, hj, hje⟩ : ∃ jv je, joinV [c.r] = .tuple #[.string jv, .int .i64 je] ∧ je = if Lib.validRune c.r then 0 else 2 := by
    unfold joinV
    cases hv : Lib.validRune c.r
    · exact ⟨_, 2, by rw [if_neg (by simp [hv])], rfl⟩
    · exact ⟨_, 0, by rw [if_pos (by simp [hv])], rfl⟩
  rw [hj]
  have HJ := Lib.hid hje
  clear hj hje k1 hI m2 k2 c3 hz
  go_wp2_with fail
  refine (vname_any c.site c.seq _).mono ?_
  rintro e w3 ⟨rfl, m3⟩
  have M3 := Lib.hid (M2.out.trans m3)
  have k3 := K2.out.mod m3 (fun e => e)
  have e2 : w3.cell? ⟨w.heap.size, 2, none⟩ = some (.int .i64 c.off) := by rw [k3.cell]; rfl
  clear m3 k3 d0 d1
  cases h1 : nameOk c.site c.seq
  · go_wp2_with fail
    go_ret
    exact ⟨by rw [HR.out, show cellOk c = false by simp [cellOk, h1]]; rfl, M3.out⟩
  by_cases h2 : 0 ≤ c.off
  · by_cases h3 : c.off < 200
    · cases h4 : Lib.validRune c.r
      · have hj2 : je = 2 := by rw [HJ.out, h4]; rfl
        subst hj2
        go_wp2_with fail
        go_ret
        exact ⟨by rw [HR.out, show cellOk c = false by simp [cellOk, h4]]; rfl, M3.out⟩
      · have hj2 : je = 0 := by rw [HJ.out, h4]; rfl
        subst hj2
        go_wp2_with fail
        go_ret
        exact ⟨by rw [HR.out, show cellOk c = true by simp [cellOk, h1, h2, h3, h4]]; rfl, M3.out⟩
    · have hd : decide (c.off < 200) = false := by simp; omega
      go_wp2_with fail
      go_ret
      exact ⟨by rw [HR.out, show cellOk c = false by simp [cellOk]; omega]; rfl, M3.out⟩
  · have hd : decide (0 ≤ c.off) = false := by simp; omega
    go_wp2_with fail
    go_ret
    exact ⟨by rw [HR.out, show cellOk c = false by simp [cellOk]; omega]; rfl, M3.out⟩

end Go.Proofs.YtjgjjlolhdlofaaGreatDoor
