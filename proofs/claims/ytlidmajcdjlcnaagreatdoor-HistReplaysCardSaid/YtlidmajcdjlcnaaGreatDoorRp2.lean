/-
  Texts on which the claim rests, one behind the other: Cel7 Lst1 Rft0 Rft1 Rft2 Spl1 Rft3 Rop1 Edm1 Vec1 Ins0 Vec2 Cel4 Car1.
-/
import Derived.Test.YtlidmajcdjlcnaaGreatDoorRp1
import Derived.Lib.OthersKept
import Derived.Lib.TrimUEq
import Derived.Outline
import Derived.Deep.LoopGhost
import Derived.Laws.CopyRow
import Derived.Shelf.Spec.SlicesInsert
import Derived.Lib.AppendZerosOnto
import Derived.Lib.Overlaps

set_option linter.unusedSimpArgs false
set_option linter.unusedVariables false

namespace Go.Proofs.YtlidmajcdjlcnaaGreatDoor
open Go.RowKit Go.Shelf Go.Mine
open Classical
attribute [local go_sem] Oper.semAt_some

theorem zInt (w : World) : (zeroValue 3).run Tryz.prog w = .ok (.int .i64 0) w := by kernel_rfl
theorem okId {c : CellV} (h : c.ok) : isKey Tryz.prog 149 c.id := key_id h.i1 h.i2 h.i3
theorem okName {c : CellV} (h : c.ok) : isKey Tryz.prog 28 c.name := key_name h.i1 h.i2

/-- New's error. -/
noncomputable def newE (l : List CellV) : Int := if l.all cellOk = true then (if (l.map CellV.id).Nodup then (if l.length ≤ 20000 then 0 else 4) else 15) else 1

/-- The document's blocks: where they lie, and what cells they hold. -/
def DocBs (W : World) (B : Nat) (v : Value) (bl : List (Nat × List CellV)) : Prop :=
  W.ownsRow B 141 1 v bl.length (bl.map fun x => .pointer (some ⟨x.1, 0, none⟩)) ∧ ∀ x ∈ bl, BlkIs W B x.1 x.2
/-- Where a block's cells lie. -/
def Arr (W : World) (p g : Nat) : Prop := ∃ a b v, Blk W p [a, b, v] 145 ∧ v.ownBlock = some g
/-- No two blocks share anything. -/
def Apart (W : World) (bl : List (Nat × List CellV)) : Prop := bl.Pairwise fun x y => x.1 ≠ y.1 ∧ ∀ g, Arr W x.1 g → ¬ Arr W y.1 g
theorem Arr.of_heap {W W' : World} {p g : Nat} (e : W'.heap[p]? = W.heap[p]?) (h : Arr W' p g) : Arr W p g := by
  obtain ⟨a, b, v, k, o⟩ := h
  exact ⟨a, b, v, by unfold Blk at k ⊢; rw [← e]; exact k, o⟩
theorem Apart.of_heap {W W' : World} {bl : List (Nat × List CellV)} (e : ∀ x ∈ bl, W'.heap[x.1]? = W.heap[x.1]?) (h : Apart W bl) : Apart W' bl :=
  List.Pairwise.imp_of_mem (fun hx hy hxy => ⟨hxy.1, fun g h1 h2 => hxy.2 g (h1.of_heap (e _ hx)) (h2.of_heap (e _ hy))⟩) h
theorem BlkIs.lt {W : World} {B p : Nat} {c : List CellV} (h : BlkIs W B p c) : p < W.heap.size := by obtain ⟨⟨v, k, _⟩, _⟩ := h; exact k.lt
theorem BlkIs.arr {W : World} {B p g : Nat} {c : List CellV} (h : BlkIs W B p c) (k : Arr W p g) : B ≤ g ∧ g < W.heap.size := by
  obtain ⟨⟨v, hk, o, _⟩, _⟩ := h
  obtain ⟨a, b, v', k', e⟩ := k
  unfold Blk at hk k'
  rw [hk] at k'
  simp at k'
  obtain ⟨_, _, rfl⟩ := k'
  have := o.lt g e
  omega
theorem Apart.mod {W W' : World} {B : Nat} {bl : List (Nat × List CellV)} {S : Nat → Prop} (h : Apart W bl) (hb : ∀ x ∈ bl, BlkIs W B x.1 x.2) (m : Mod S W W') (hs : ∀ k cs, Blk W k cs 145 → ¬ S k) : Apart W' bl :=
  h.of_heap (fun x hx => by obtain ⟨⟨v, k, _⟩, _⟩ := hb x hx; exact m.block _ k.lt (hs _ _ k))
/-- New's own, behind i cells that lie in blocks. -/
def NewI (w : World) (a : Option Addr) (len cap : Nat) (l : List CellV) (MB D bs bn : Nat) (i : Nat) (W : World) : Prop :=
  Mod none_ w W ∧ Blk W (D + 1) [.pointer (some ⟨D, 0, none⟩)] 77 ∧ Blk W bs [.slice a len cap] 22 ∧ Blk W bn [.int .i64 64] 3 ∧
    IMap Tryz.prog 28 W MB (fun _ => none) 0 ∧ ∃ v bl, Blk W D [v, .map (some MB)] 140 ∧ DocBs W w.heap.size v bl ∧ bl.flatMap Prod.snd = l.take i ∧ bl.length * 64 = i ∧ Apart W bl ∧ ∀ y ∈ bl, y.2 ≠ []

/-- Blocks of two types differ. -/
theorem Blk.apart {W : World} {p q : Nat} {cs ds : List Value} {t u : TypeId} (h : Blk W p cs t) (k : Blk W q ds u) (htu : t ≠ u) : p ≠ q := by
  intro e
  subst e
  unfold Blk at h k
  rw [h] at k
  cases k
  exact htu rfl
theorem ownsRow_type {W : World} {B n size : Nat} {v : Value} {t : TypeId} {xs : List Value} (h : W.ownsRow B t size v n xs) {k : Nat} (hk : v.ownBlock = some k) : ∃ cs, Blk W k cs t := by
  rcases ownsRow_blk h with ⟨rfl, _, _⟩ | ⟨g, cap, more, rfl, _, hb, _⟩
  · cases hk
  · cases hk; exact ⟨_, hb⟩
theorem BlkIs.mod {W W' : World} {B p : Nat} {c : List CellV} {S : Nat → Prop} (h : BlkIs W B p c) (m : Mod S W W') (hs : ∀ k cs t, Blk W k cs t → (t = 145 ∨ t = 47) → ¬ S k) : BlkIs W' B p c := by
  obtain ⟨⟨v, k, o, n⟩, lo⟩ := h
  refine ⟨⟨v, k.mod m (hs _ _ _ k (.inl rfl)), ownsRow_mod o m (fun j hj => ?_), n⟩, lo⟩
  obtain ⟨cs, hb⟩ := ownsRow_type o hj
  exact hs _ _ _ hb (.inr rfl)
theorem NewI.stable {w : World} {a : Option Addr} {len cap : Nat} {l : List CellV} {MB D bs bn B : Nat} (hB : w.heap.size ≤ B) (hMB : MB < B) (i : Nat) (W W' : World) (h : NewI w a len cap l MB D bs bn i W) (m : Mod (loopOwn B W) W W') : NewI w a len cap l MB D bs bn i W' := by
  obtain ⟨m0, k1, k2, k3, im, v, bl, kd, ⟨ho, hb⟩, e, e2, hap⟩ := h
  refine ⟨m0.transOwn m hB, k1.own m, k2.own m, k3.own m, im.mod m (fun s => by have := s.1; omega), v, bl, kd.own m, ⟨ownsRow_mod ho m (fun j hj s => ?_), fun x hx => (hb x hx).mod m (fun k cs t hk _ s => ?_)⟩, e, e2, hap.1.mod hb m (fun k cs hk s => by have := s.2 _ hk; cases this), hap.2⟩
  · obtain ⟨cs, hk⟩ := ownsRow_type ho hj
    have := s.2 _ hk; cases this
  · have := s.2 _ hk; cases this

/-- The law of ranges over functions, the frame behind the assignment told by what it changes in the frame ahead. -/
theorem rangeFunc_upd {F : Fence} {n : Nat} {P : Program} {σ α : Type} {g : Operand} {ps : Array Tmp} {assign body : Code} {Q : Exit → Act → World → Prop} {a : Act} {w : World}
    (upd : Array Value → α → Array Value) (hro : F.round = none) (h1 : 1 ≤ n) {gf : Nat} {lb : Array Value} (hg : a.eval g = .func (.func gf) #[] lb) (hFg : F.fn gf) (eg : ∀ args w, (callFunc gf args).run P w = .ok (.enter gf args) w)
    (encs : α → Array Value) (hps : ∀ x, (encs x).size = ps.size) (I : σ → World → Prop) (Ix : Code → σ → World → Prop) (step : σ → α → σ) (G : σ → α → Prop) (S : σ → Prop) (s0 : σ)
    (hI : ∀ s W W', I s W → Mod (loopOwn w.heap.size W) W W' → I s W') (hIx : ∀ c s W W', Ix c s W → Mod (loopOwn w.heap.size W) W W' → Ix c s W') (h0 : I s0 w)
    (hiter : ∀ (l : Nat) (J : σ → World → Prop) (Jx : Code → σ → World → Prop) (W : World), (∀ s W, J s W → I s W) → (∀ s s' W W', J s W → I s' W' → KeepsOthers W W' → J s' W') →
      (∀ s x W1, J s W1 → G s x → YieldAt F (n - 1 - 1) P l (encs x) W1 fun e W' => (e = .returned (.bool true) ∧ J (step s x) W') ∨ (e = .returned (.bool false) ∧ ∃ c, Jx c (step s x) W')) → J s0 W →
      CallsIn F (n - 1) P gf (#[.func (.yield l) #[] #[]] ++ lb) W fun e W' => (∃ v, e = .returned v) ∧ ((∃ s, S s ∧ J s W') ∨ (∃ c s, Jx c s W')))
    (hassign : ∀ (l : Nat) (x : α) (W : World) (K : Act → World → Prop), K ⟨upd a.tmps x, []⟩ W →
      assign.wpIn (F.inRound l) (n - 1 - 1) P (Exit.then K (fun _ _ _ => False)) { tmps := (ps.zip (encs x)).foldl (fun t (p, v) => t.setIfInBounds p v) a.tmps, defers := [] } W)
    (hbody : ∀ (l : Nat) (s : σ) (x : α) (W : World), I s W → G s x → body.wpIn (F.inRound l) (n - 1 - 1) P (myPost I Ix (step s x) W) ⟨upd a.tmps x, []⟩ W)
    (hdone : ∀ (D : Nat) (s : σ) (W : World), S s → I s W → W.heap[D]? = some (.deferred (some [])) → w.heap.size ≤ D → Q .normal { a with defers := { target := .collected D, args := #[] } :: a.defers } W)
    (hstop : ∀ (D : Nat) (c : Code) (s : σ) (W : World), Ix c s W → W.heap[D]? = some (.deferred (some [])) → w.heap.size ≤ D → c.wpIn F n P Q { a with defers := { target := .collected D, args := #[] } :: a.defers } W) :
    (Code.rangeFunc g ps assign body).wpIn F n P Q a w :=
  rangeFunc_law hro h1 hg hFg eg encs hps I Ix step G S s0 hI hIx h0 (fun x => ⟨upd a.tmps x, []⟩) hiter hassign hbody hdone hstop

theorem IsCells.sub {w : World} {b off len cap : Nat} {l : List CellV} (h : IsCells w (some ⟨b, off, none⟩) len cap l) (x m : Nat) (hx : x + m ≤ len) : IsCells w (some ⟨b, off + x * 5, none⟩) m m ((l.drop x).take m) := by
  have hN := h.n
  have hle := h.le
  have hbig := h.big
  refine ⟨by rw [List.length_take, List.length_drop]; omega, Nat.le_refl _, by omega, fun c hc => h.ok c (List.mem_of_mem_drop (List.mem_of_mem_take hc)), fun i c hc => ?_⟩
  have hi : i < m := by have := (List.getElem?_eq_some_iff.1 hc).1; rw [List.length_take] at this; omega
  rw [List.getElem?_take_of_lt hi, List.getElem?_drop] at hc
  obtain ⟨b', off', e, hr⟩ := h.cells (x + i) c hc
  cases e
  exact ⟨b, off + x * 5, rfl, by rw [show off + x * 5 + i * 5 = off + (x + i) * 5 by omega]; exact hr⟩
theorem infoPtr : (Tryz.prog.info? 141).map (fun i => (i.zero, i.size, i.bytes)) = some (some (.pointer none), 1, 8) := by kernel_rfl

/-- append, kept shut. -/
def appSem (tys : Array TypeId) (ty : TypeId) (args : Array Value) : Sem Value := Builtin.append_ tys ty args
theorem app_fold (tys : Array TypeId) (ty : TypeId) (args : Array Value) : Builtin.append_ tys ty args = appSem tys ty args := rfl

/-- A block more at the list's end. -/
theorem appPtr {X : World} {B nb p vc : Nat} {va : Option Addr} {ptrs : List Value} (ho : X.ownsRow B 141 1 (.slice va nb vc) nb ptrs) (hnb : nb ≤ 1099511627776) (hB : B ≤ X.heap.size) :
    ∃ va' vc' w4, (appSem #[137, 137] 137 #[.slice va nb vc, .slice (some ⟨X.heap.size, 0, none⟩) 1 1]).run Tryz.prog (X.alloc (.cells #[.pointer (some ⟨p, 0, none⟩)] 141)) = .ok (.slice va' (nb + 1) vc') w4 ∧
      w4.ownsRow B 141 1 (.slice va' (nb + 1) vc') (nb + 1) (ptrs ++ [.pointer (some ⟨p, 0, none⟩)]) ∧ (X.alloc (.cells #[.pointer (some ⟨p, 0, none⟩)] 141)).grownBy w4 (Value.slice va nb vc).ownBlock := by
  obtain ⟨i0, hi0, hz0, hz1, hz2⟩ := info_parts infoPtr
  obtain ⟨v', w4, hrun, hown, hgrow, _⟩ := run_append_own (P := Tryz.prog) (X.alloc (.cells #[.pointer (some ⟨p, 0, none⟩)] 141)) B 137 137 141 i0 (.pointer none) 1 8 Tryz.underlying137 hi0 hz0 hz1 hz2 rfl (by decide) (.slice va nb vc) nb ptrs (ho.alloc _) ⟨X.heap.size, 0, none⟩ 1 1 [.pointer (some ⟨p, 0, none⟩)] rfl (World.news_of_block (heap_alloc_new X _)) (fun u hu => by rw [List.mem_singleton.1 hu]; rfl) (by unfold maxLen; omega) (by omega) (by simp; omega)
  rcases ownsRow_blk hown with ⟨_, h0, _⟩ | ⟨g, c', _, rfl, _⟩
  · omega
  · exact ⟨_, c', w4, hrun, hown, hgrow⟩

/-- What append and newBlock leave behind them. -/
theorem bodyArm {w W w3 : World} {D p nb vc : Nat} {va : Option Addr} {ptrs : List Value} {MBv : Value} (ho : W.ownsRow w.heap.size 141 1 (.slice va nb vc) nb ptrs) (hnb : nb ≤ 1099511627776) (hB : w.heap.size ≤ W.heap.size) (m3 : Mod none_ W.drew w3)
    (kd : Blk W D [.slice va nb vc, MBv] 140) {DB : Nat} {dv : Value} (kb : Blk W DB [dv] 77) :
    ∃ va' vc' w4, (appSem #[137, 137] 137 #[.slice va nb vc, .slice (some ⟨w3.heap.size, 0, none⟩) 1 1]).run Tryz.prog (w3.alloc (.cells #[.pointer (some ⟨p, 0, none⟩)] 141)) = .ok (.slice va' (nb + 1) vc') w4 ∧
      w4.ownsRow w.heap.size 141 1 (.slice va' (nb + 1) vc') (nb + 1) (ptrs ++ [.pointer (some ⟨p, 0, none⟩)]) ∧ Mod (fun k => (Value.slice va nb vc).ownBlock = some k) w3 w4 ∧ Blk w4 D [.slice va nb vc, MBv] 140 ∧ Blk w4 DB [dv] 77 := by
  have hsz : W.heap.size ≤ w3.heap.size := m3.size
  obtain ⟨va', vc', w4, hrun, hown, hgrow⟩ := appPtr (p := p) (ownsRow_mod ho ((Mod.drew (Mod.refl none_ W)).trans m3) (fun _ _ e => e)) hnb (by omega)
  have mg : Mod (fun k => (Value.slice va nb vc).ownBlock = some k) w3 w4 := ((Mod.refl _ w3).alloc (.cells #[.pointer (some ⟨p, 0, none⟩)] 141)).grown hgrow (fun k e _ => e)
  refine ⟨va', vc', w4, hrun, hown, mg, (kd.drew.mod m3 (fun e => e)).mod mg (fun e => ?_), (kb.drew.mod m3 (fun e => e)).mod mg (fun e => ?_)⟩
  · obtain ⟨cs, hk⟩ := ownsRow_type ho e
    exact Blk.apart kd hk (by decide) rfl
  · obtain ⟨cs, hk⟩ := ownsRow_type ho e
    exact Blk.apart kb hk (by decide) rfl

/-- A post that lets no panic by. -/
def calmPost (Q : Exit → Act → World → Prop) : Exit → Act → World → Prop
  | .panic _, _, _ => False
  | e, a, w => Q e a w
theorem calmPost.out {Q : Exit → Act → World → Prop} : ∀ (e : Exit) (a : Act) (w : World), calmPost Q e a w → Q e a w
  | .panic _, _, _, h => h.elim
  | .normal, _, _, h => h
  | .ret, _, _, h => h
  | .exit _, _, _, h => h
  | .goto _, _, _, h => h
  | .outgrown, _, _, h => h

theorem _root_.Go.Mine.ownsRow_base {w : World} {B B' e size n : Nat} {v : Value} {xs : List Value} (h : w.ownsRow B e size v n xs) (hB : B' ≤ B) : w.ownsRow B' e size v n xs := by
  obtain ⟨h1, h2⟩ := h
  refine ⟨h1, ?_⟩
  rcases h2 with h2 | ⟨g, cap, cur, hv, hg, r⟩
  · exact .inl h2
  · exact .inr ⟨g, cap, cur, hv, Nat.le_trans hB hg, r⟩
theorem BlkIs.base {w : World} {B B' p : Nat} {l : List CellV} (h : BlkIs w B p l) (hB : B' ≤ B) : BlkIs w B' p l := by
  obtain ⟨⟨v, k, o, n⟩, lo⟩ := h
  exact ⟨⟨v, k, ownsRow_base o hB, n⟩, Nat.le_trans hB lo⟩
theorem imap_blk {w : World} {k : TypeId} {b n : Nat} {m : Value → Option Value} {cs : List Value} {t : TypeId} (h : IMap Tryz.prog k w b m n) (hb : Blk w b cs t) : False := by
  obtain ⟨es, clock, hh, _⟩ := h
  unfold Blk at hb
  rw [hh] at hb
  cases hb

/-- The names' map, as it is made. -/
theorem counts_nil {w : World} {k : TypeId} {b : Nat} (h : IMap Tryz.prog k w b (fun _ => none) 0) : Counts Tryz.prog k w b [] 0 :=
  ⟨⟨_, h, fun x => by simp, fun x v h => by cases h⟩, Nat.le_refl _, by simp⟩
/-- A document: its cells lie in blocks, all of it at or above B. -/
structure DocIs (w : World) (B D : Nat) (l : List CellV) : Prop where
  ex : ∃ v MB bl, ∃ _n : Nat, Blk w D [v, .map (some MB)] 140 ∧ DocBs w B v bl ∧ bl.flatMap Prod.snd = l ∧ Names Tryz.prog 28 w MB (l.map CellV.name) ∧ Apart w bl ∧ (∀ y ∈ bl, y.2 ≠ []) ∧ B ≤ MB
  lo : B ≤ D
theorem DocBs.grown {w w' : World} {B : Nat} {v : Value} {bl : List (Nat × List CellV)} (h : DocBs w B v bl) (m : Mod none_ w w') : DocBs w' B v bl :=
  ⟨ownsRow_mod h.1 m (fun _ _ e => e), fun x hx => (h.2 x hx).grown m⟩
theorem DocIs.grown {w w' : World} {B D : Nat} {l : List CellV} (h : DocIs w B D l) (m : Mod none_ w w') : DocIs w' B D l := by
  obtain ⟨⟨v, MB, bl, n, k, b, f, c⟩, lo⟩ := h
  exact ⟨⟨v, MB, bl, n, k.mod m (fun e => e), b.grown m, f, c.1.mod m (fun e => e), c.2.1.mod b.2 m (fun _ _ _ e => e), c.2.2⟩, lo⟩
theorem DocBs.map {w w' : World} {B MB : Nat} {v : Value} {bl : List (Nat × List CellV)} (h : DocBs w B v bl) (m : Mod (one MB) w w') (hm : ∀ cs t, ¬ Blk w MB cs t) : DocBs w' B v bl :=
  ⟨ownsRow_mod h.1 m (fun k hk e => by have e' : k = MB := e; subst e'; obtain ⟨cs, hb⟩ := ownsRow_type h.1 hk; exact hm _ _ hb), fun x hx => (h.2 x hx).mod m (fun k cs t hk _ e => by have e' : k = MB := e; subst e'; exact hm _ _ hk)⟩
theorem DocBs.own {W W' : World} {B B' : Nat} {v : Value} {bl : List (Nat × List CellV)} (h : DocBs W B v bl) (m : Mod (loopOwn B' W) W W') : DocBs W' B v bl :=
  ⟨ownsRow_mod h.1 m (fun k hk s => by obtain ⟨cs, hb⟩ := ownsRow_type h.1 hk; have := s.2 _ hb; cases this), fun x hx => (h.2 x hx).mod m (fun k cs t hk _ s => by have := s.2 _ hk; cases this)⟩

/-- A round of New's second loop. -/
theorem bodyEnd {w W w3 w4 : World} {a : Option Addr} {len cap MB D bs bn x p nb vc vc' : Nat} {va va' : Option Addr} {l : List CellV} {bl : List (Nat × List CellV)} (hD : w.heap.size ≤ D) (hN : l.length = len)
    (m0 : Mod none_ w W) (kb : Blk W (D + 1) [.pointer (some ⟨D, 0, none⟩)] 77) (ks : Blk W bs [.slice a len cap] 22) (kn : Blk W bn [.int .i64 64] 3) (im : IMap Tryz.prog 28 W MB (fun _ => none) 0)
    (ho : W.ownsRow w.heap.size 141 1 (.slice va nb vc) nb (bl.map fun x => .pointer (some ⟨x.1, 0, none⟩))) (hbl : ∀ x ∈ bl, BlkIs W w.heap.size x.1 x.2) (hfl : bl.flatMap Prod.snd = l.take x) (hbn : bl.length * 64 = x) (hap : Apart W bl ∧ ∀ y ∈ bl, y.2 ≠ []) (hxl : x < len) (hnb : nb = bl.length)
    (m3 : Mod none_ W.drew w3) (hB : BlkIs w3 W.drew.heap.size p ((l.drop x).take (min 64 (len - x)))) (hown : w4.ownsRow w.heap.size 141 1 (.slice va' (nb + 1) vc') (nb + 1) ((bl.map fun x => .pointer (some ⟨x.1, 0, none⟩)) ++ [.pointer (some ⟨p, 0, none⟩)]))
    (mg : Mod (fun k => (Value.slice va nb vc).ownBlock = some k) w3 w4) (k4 : Blk w4 D [.slice va nb vc, .map (some MB)] 140) :
    KeepsOthers W (w4.setCell ⟨D, 0, none⟩ (.slice va' (nb + 1) vc')) ∧ NewI w a len cap l MB D bs bn (x + 64) (w4.setCell ⟨D, 0, none⟩ (.slice va' (nb + 1) vc')) := by
  have ht : ∀ {k : Nat}, (Value.slice va nb vc).ownBlock = some k → ∃ cs, Blk W k cs 141 := fun e => ownsRow_type ho e
  have m4 : Mod (fun k => (Value.slice va nb vc).ownBlock = some k) W w4 := ((Mod.drew (Mod.refl none_ W)).trans m3).mono (T := fun k => (Value.slice va nb vc).ownBlock = some k) (fun _ _ e => e.elim) |>.trans mg
  have hge : ∀ k, (Value.slice va nb vc).ownBlock = some k → w.heap.size ≤ k := fun k hk => (ho.lt k hk).1
  have ms : Mod (one D) w4 (w4.setCell ⟨D, 0, none⟩ (.slice va' (nb + 1) vc')) := (Mod.refl (one D) w4).setCell ⟨D, 0, none⟩ (fun _ => rfl) _
  have k5 := k4.set 0 (.slice va' (nb + 1) vc')
  have far : ∀ {b : Nat} {cs : List Value} {t : TypeId}, Blk W b cs t → t ≠ 141 → b ≠ D → Blk (w4.setCell ⟨D, 0, none⟩ (.slice va' (nb + 1) vc')) b cs t := fun hb h1 h2 =>
    (hb.mod m4 (fun e => by obtain ⟨cs, hk⟩ := ht e; exact Blk.apart hb hk h1 rfl)).mod ms h2
  have ne : ∀ {b : Nat} {cs : List Value} {t : TypeId}, Blk W b cs t → t ≠ 141 → t ≠ 140 → b ≠ D := fun hb h0 h1 e => by
    subst e
    exact Blk.apart (hb.mod m4 (fun e => by obtain ⟨cs, hk⟩ := ht e; exact Blk.apart hb hk h0 rfl)) k4 h1 rfl
  refine ⟨(keeps_of_mod m4 (fun k hk o ho' => ?_)).trans (KeepsOthers.setCell _ _ _), ?_, far kb (by decide) (by omega), far ks (by decide) (ne ks (by decide) (by decide)), far kn (by decide) (ne kn (by decide) (by decide)), ?_, .slice va' (nb + 1) vc', bl ++ [(p, (l.drop x).take (min 64 (len - x)))], k5, ⟨?_, ?_⟩, ?_, ?_, ?_, ?_⟩
  · obtain ⟨cs, hb⟩ := ht hk
    unfold Blk at hb
    rw [hb] at ho'
    cases ho'
    rfl
  · exact (m0.transIn m4 (fun k hk e => absurd (hge k e) (by omega))).transIn ms (fun k hk e => by have e' : k = D := e; omega)
  · refine (im.mod m4 (fun e => ?_)).mod ms (fun e => ?_)
    · obtain ⟨cs, hb⟩ := ht e
      exact imap_blk im hb
    · have e' : MB = D := e
      subst e'
      refine imap_blk (im.mod m4 (fun e => ?_)) k4
      obtain ⟨cs, hb⟩ := ht e
      exact imap_blk im hb
  · have e1 : (bl ++ [(p, (l.drop x).take (min 64 (len - x)))]).length = nb + 1 := by simp [hnb]
    rw [e1, List.map_append]
    refine ownsRow_mod hown ms (fun k hk e => ?_)
    have e' : k = D := e
    subst e'
    obtain ⟨cs, hb⟩ := ownsRow_type hown hk
    exact Blk.apart hb k4 (by decide) rfl
  · intro y hy
    rcases List.mem_append.1 hy with hy | hy
    · refine ((hbl y hy).mod m4 (fun k cs t hk ht' e => ?_)).mod ms (fun k cs t hk ht' e => ?_)
      · obtain ⟨cs', hb⟩ := ht e
        exact Blk.apart hk hb (by rcases ht' with rfl | rfl <;> decide) rfl
      · have e' : k = D := e
        subst e'
        exact Blk.apart hk k4 (by rcases ht' with rfl | rfl <;> decide) rfl
    · rw [List.mem_singleton.1 hy]
      have hsz := m0.size
      refine ((hB.base (B' := w.heap.size) hsz).mod mg (fun k cs t hk ht' e => ?_)).mod ms (fun k cs t hk ht' e => ?_)
      · obtain ⟨cs', hb⟩ := ht e
        exact Blk.apart hk ((hb.drew).mod m3 (fun e => e)) (by rcases ht' with rfl | rfl <;> decide) rfl
      · have e' : k = D := e
        subst e'
        exact Blk.apart hk k4 (by rcases ht' with rfl | rfl <;> decide) rfl
  · rw [List.flatMap_append, hfl]
    simp only [List.flatMap_cons, List.flatMap_nil, List.append_nil]
    rw [List.take_add, List.append_cancel_left_eq, List.take_eq_take_iff, List.length_drop]
    omega
  · rw [List.length_append, List.length_singleton]
    omega
  · have keep : ∀ {q : Nat} {cs : List Value}, Blk w3 q cs 145 → (w4.setCell ⟨D, 0, none⟩ (.slice va' (nb + 1) vc')).heap[q]? = w3.heap[q]? := fun {q cs} hq => by
      rw [ms.block q (Nat.lt_of_lt_of_le hq.lt mg.size) (fun e => ?_), mg.block q hq.lt (fun e => ?_)]
      · obtain ⟨cs', hb⟩ := ht e
        exact Blk.apart hq ((hb.drew).mod m3 (fun e => e)) (by decide) rfl
      · have e' : q = D := e
        subst e'
        exact Blk.apart (hq.mod mg (fun e => by obtain ⟨cs', hb⟩ := ht e; exact Blk.apart hq ((hb.drew).mod m3 (fun e => e)) (by decide) rfl)) k4 (by decide) rfl
    have ap3 : Apart w3 bl := Apart.of_heap (W := W) (fun y hy => by obtain ⟨⟨v, k, _⟩, _⟩ := hbl y hy; exact ((Mod.drew (Mod.refl none_ W)).trans m3).block _ k.lt (fun e => e)) hap.1
    have hb3 : ∀ y ∈ bl, BlkIs w3 w.heap.size y.1 y.2 := fun y hy => (hbl y hy).grown ((Mod.drew (Mod.refl none_ W)).trans m3)
    refine List.pairwise_append.2 ⟨Apart.of_heap (W := w3) (fun y hy => by obtain ⟨⟨v, k, _⟩, _⟩ := hb3 y hy; exact keep k) ap3, List.pairwise_singleton _ _, fun y hy z hz => ?_⟩
    rw [List.mem_singleton.1 hz]
    have hlo : W.heap.size ≤ p := hB.lo
    have hy1 := (hbl y hy).lt
    refine ⟨by show y.1 ≠ p; omega, fun g h1 h2 => ?_⟩
    obtain ⟨⟨v1, k1, _⟩, _⟩ := hb3 y hy
    obtain ⟨⟨v2, k2, _⟩, _⟩ := id hB
    have a1 := h1.of_heap (keep k1)
    have a2 := hB.arr (h2.of_heap (keep k2))
    have a3 := (hbl y hy).arr (a1.of_heap (((Mod.drew (Mod.refl none_ W)).trans m3).block _ hy1 (fun e => e)))
    have : W.drew.heap.size = W.heap.size := rfl
    omega
  · intro y hy
    rcases List.mem_append.1 hy with hy | hy
    · exact hap.2 y hy
    · rw [List.mem_singleton.1 hy]
      intro e
      have := congrArg List.length e
      simp only [List.length_take, List.length_drop, List.length_nil, hN] at this
      omega

end Go.Proofs.YtlidmajcdjlcnaaGreatDoor

namespace Go.Proofs.YtlidmajcdjlcnaaGreatDoor
open Go.RowKit Go.Mine

/-- An operation, and its spans. -/
structure OpS where
  o : OpV
  sp : List (Int × Int)
/-- Operations in memory. -/
structure IsOps (w : World) (a : Option Addr) (len cap : Nat) (l : List OpS) : Prop where
  n : l.length = len
  le : len ≤ cap
  big : cap ≤ maxLen
  ok : ∀ x ∈ l, x.o.ok w x.sp
  ops : ∀ (i : Nat) (x : OpS), l[i]? = some x → ∃ b off, a = some ⟨b, off, none⟩ ∧ w.rangeAt b (off + i * 7) x.o.cs
theorem IsOps.grown {w w' : World} {a : Option Addr} {len cap : Nat} {l : List OpS} (h : IsOps w a len cap l) (m : Mine.Mod none_ w w') : IsOps w' a len cap l :=
  ⟨h.n, h.le, h.big, fun x hx => (h.ok x hx).grown m, fun i c hc => by
    obtain ⟨b, off, e, hr⟩ := h.ops i c hc
    exact ⟨b, off, e, fun j v hv => m.cell (fun e => e) (hr j v hv)⟩⟩
theorem IsOps.take {w : World} {a : Option Addr} {len cap : Nat} {l : List OpS} (h : IsOps w a len cap l) (k : Nat) (hk : k ≤ len) : IsOps w a k cap (l.take k) :=
  ⟨by rw [List.length_take, h.n]; omega, Nat.le_trans hk h.le, h.big, fun c hc => h.ok c (List.mem_of_mem_take hc), fun i c hc => h.ops i c (by
    rw [List.getElem?_take] at hc
    split at hc
    · exact hc
    · cases hc)⟩

def sameNm (s q : Int) (x : OpS) : Bool := decide (x.o.site = s ∧ x.o.seq = q)

set_option maxHeartbeats 2000000 in
set_option maxRecDepth 1000000 in
theorem named1_any (w : World) (x : OpS) (P : Nat) (s q : Int) (k : Blk w P [.int .i64 s, .int .i64 q] 28) :
    Calls Tryz.prog 126 #[x.o.v, .pointer (some ⟨P, 0, none⟩)] w fun e w' => e = .returned (.bool (sameNm s q x)) ∧ Mine.Mod none_ w w' := by
  obtain ⟨W0, hW0⟩ : ∃ W0, w.alloc (.cells x.o.cs.toArray 31) = W0 := ⟨_, rfl⟩
  obtain ⟨m0, kB⟩ := opBox1 hW0
  obtain ⟨K, hK⟩ : ∃ K, w.heap.size = K := ⟨_, rfl⟩
  rw [hK] at kB
  have M0 := Lib.hid m0
  have kP := k.mod m0 (fun e => e)
  have d0 : W0.cell? ⟨P, 0, none⟩ = some (.int .i64 s) := by rw [kP.cell]; rfl
  have d1 : W0.cell? ⟨P, 1, none⟩ = some (.int .i64 q) := by rw [kP.cell]; rfl
  have c0 : W0.cell? ⟨K, 0, none⟩ = some (.int .i64 x.o.site) := by rw [kB.cell]; rfl
  have c1 : W0.cell? ⟨K, 1, none⟩ = some (.int .i64 x.o.seq) := by rw [kB.cell]; rfl
  clear k m0 kB kP
  go_enter Tryz.func126, Tryz.ntmps126
  go_upto_region 1 with fail
  clear hW0 hK
  by_cases h1 : x.o.site = s
  · by_cases h2 : x.o.seq = q
    · have HE := Lib.hid (show sameNm s q x = true by unfold sameNm; simp [h1, h2])
      rw [h1] at c0
      rw [h2] at c1
      clear h1 h2
      go_wp2_with fail
      go_ret
      exact ⟨by rw [HE.out]; rfl, M0.out⟩
    · have HE := Lib.hid (show sameNm s q x = false by unfold sameNm; simp [h2])
      have b2 : (x.o.seq == q) = false := by simpa using h2
      rw [h1] at c0
      clear h1 h2
      go_wp2_with fail
      go_ret
      exact ⟨by rw [HE.out]; rfl, M0.out⟩
  · have HE := Lib.hid (show sameNm s q x = false by unfold sameNm; simp [h1])
    have b1 : (x.o.site == s) = false := by simpa using h1
    clear h1
    go_wp2_with fail
    go_ret
    exact ⟨by rw [HE.out]; rfl, M0.out⟩

set_option maxHeartbeats 2000000 in
set_option maxRecDepth 1000000 in
theorem namedIx_any (w : World) (a : Option Addr) (len cap : Nat) (l : List OpS) (P : Nat) (s q : Int) (h : IsOps w a len cap l) (k : Blk w P [.int .i64 s, .int .i64 q] 28) :
    Calls Tryz.prog 145 #[.slice a len cap, .func (.func 126) #[] #[.pointer (some ⟨P, 0, none⟩)]] w fun e w' => (∃ r : Int, e = .returned (.int .i64 r) ∧ -1 ≤ r ∧ r ≤ 9223372036854775807 ∧ decide (0 ≤ r) = l.any (sameNm s q)) ∧ Mine.Mod none_ w w' := by
  have hle := h.le
  have hcap := h.big
  unfold maxLen at hcap
  have H := Lib.hid h
  have HN := Lib.hid h.n
  have HP := Lib.hid k
  clear h k
  go_enter Tryz.func145, Tryz.ntmps145
  go_wp2_with fail
  go_loopg [8] len (fun g s8 wx => ∃ k : Nat, g = len - k ∧ s8 = .int .i64 k ∧ k ≤ len ∧ Mine.Mod none_ w wx ∧ RowKit.Hid ((l.take k).any (sameNm s q) = false))
  case atStart => exact ⟨0, rfl, rfl, Nat.zero_le _, Mine.Mod.refl _ _, Lib.hid rfl⟩
  case round =>
    obtain ⟨k, rfl, rfl, hk, mx, hst⟩ := hrel
    have MX := Lib.hid mx
    by_cases hlk : k < len
    · obtain ⟨x, hx⟩ : ∃ x, l[k]? = some x := ⟨l[k]'(by rw [HN.out]; exact hlk), by simp⟩
      obtain ⟨b, off, rfl, hr⟩ := (H.out.grown mx).ops k x hx
      have c0 := hr 0 _ rfl
      have c1 := hr 1 _ rfl
      have c2 := hr 2 _ rfl
      have c3 := hr 3 _ rfl
      have c4 := hr 4 _ rfl
      have c5 := hr 5 _ rfl
      have c6 := hr 6 _ rfl
      rw [Nat.add_zero] at c0
      have HC := Lib.hid (named1_any wr x P s q (HP.out.mod mx (fun e => e)))
      have HT := Lib.hid (show (l.take (k + 1)).any (sameNm s q) = sameNm s q x by
        obtain ⟨hi, e⟩ := List.getElem?_eq_some_iff.1 hx
        rw [List.take_succ_eq_append_getElem hi, List.any_append, hst.out, e]; simp)
      have HA := Lib.hid (fun (hb : sameNm s q x = true) => (show l.any (sameNm s q) = true from List.any_eq_true.2 ⟨x, List.mem_of_getElem? hx, hb⟩))
      generalize sameNm s q x = bb at HC HT HA
      clear hx hst mx hr
      cases bb
      · go_wp2_with fail
        refine HC.out.mono ?_
        rintro e w1 ⟨rfl, m1⟩
        have M1 := Lib.hid (MX.out.trans m1)
        clear m1
        go_wp2_with fail
        go_roundg (len - (k + 1))
        all_goals first
          | omega
          | exact ⟨k + 1, rfl, by go_num, by omega, M1.out, HT⟩
      · go_wp2_with fail
        refine HC.out.mono ?_
        rintro e w1 ⟨rfl, m1⟩
        have M1 := Lib.hid (MX.out.trans m1)
        clear m1
        go_wp2_with fail
        go_ret
        exact ⟨⟨k, rfl, by omega, by omega, by rw [HA.out trivial]; simp⟩, M1.out⟩
    · obtain rfl : k = len := by omega
      have hF : l.any (sameNm s q) = false := by
        have := hst.out
        rwa [List.take_of_length_le (by rw [HN.out]; omega)] at this
      have HF := Lib.hid hF
      clear hst mx hF
      go_wp2_with fail
      go_ret
      exact ⟨⟨-1, rfl, by omega, by omega, by rw [HF.out]; rfl⟩, MX.out⟩

set_option maxHeartbeats 2000000 in
set_option maxRecDepth 1000000 in
theorem named_any (w : World) (a : Option Addr) (len cap : Nat) (l : List OpS) (s q : Int) (h : IsOps w a len cap l) :
    Calls Tryz.prog 106 #[.slice a len cap, .agg #[.int .i64 s, .int .i64 q]] w fun e w' => e = .returned (.bool (l.any (sameNm s q))) ∧ Mine.Mod none_ w w' := by
  obtain ⟨W0, hW0⟩ : ∃ W0, w.alloc (.cells #[.int .i64 s, .int .i64 q] 28) = W0 := ⟨_, rfl⟩
  obtain ⟨K, hK⟩ : ∃ K, w.heap.size = K := ⟨_, rfl⟩
  have m0 : Mine.Mod none_ w W0 := by rw [← hW0]; exact (Mine.Mod.refl none_ w).alloc _
  have k0 : Blk W0 K [.int .i64 s, .int .i64 q] 28 := by rw [← hW0, ← hK]; exact Blk.new (w := w) (cs := [.int .i64 s, .int .i64 q])
  have M0 := Lib.hid m0
  have HI := Lib.hid (namedIx_any W0 a len cap l K s q (h.grown m0) k0)
  clear h m0 k0
  have HC : RowKit.Hid (Calls Tryz.prog 125 #[.slice a len cap, .func (.func 126) #[] #[.pointer (some ⟨K, 0, none⟩)]] W0 fun e w' => e = .returned (.bool (l.any (sameNm s q))) ∧ Mine.Mod none_ W0 w') := Lib.hid (by
    clear hW0 hK
    go_enter Tryz.func125, Tryz.ntmps125
    go_wp2_with fail
    refine HI.out.mono ?_
    rintro e w2 ⟨⟨r, rfl, h1, h2, h3⟩, m2⟩
    have M2 := Lib.hid m2
    have H3 := Lib.hid h3
    clear m2 h3
    go_wp2_with fail
    go_ret
    exact ⟨by rw [← H3.out]; rfl, M2.out⟩)
  clear HI
  go_enter Tryz.func106, Tryz.ntmps106
  go_upto_region 1 with fail
  clear hW0 hK
  go_wp2_with fail
  refine HC.out.mono ?_
  rintro e w1 ⟨rfl, m1⟩
  have M1 := Lib.hid (M0.out.trans m1)
  clear m1 HC
  go_wp2_with fail
  go_ret
  exact ⟨rfl, M1.out⟩

set_option maxHeartbeats 4000000 in
set_option maxRecDepth 1000000 in
theorem rnamed_any (w : World) (a : Option Addr) (len cap : Nat) (l : List OpS) (s q : Int) (h : IsOps w a len cap l) :
    Calls Tryz.prog 71 #[.slice a len cap, .agg #[.int .i64 s, .int .i64 q]] w fun e w' => e = .returned (.bool (l.any (sameNm s q))) ∧ Mine.Mod none_ w w' := by
  have hle := h.le
  have hcap := h.big
  unfold maxLen at hcap
  obtain ⟨W0, hW0⟩ : ∃ W0, w.alloc (.cells #[.int .i64 s, .int .i64 q] 28) = W0 := ⟨_, rfl⟩
  obtain ⟨K, hK⟩ : ∃ K, w.heap.size = K := ⟨_, rfl⟩
  have m0 : Mine.Mod none_ w W0 := by rw [← hW0]; exact (Mine.Mod.refl none_ w).alloc _
  have k0 : Blk W0 K [.int .i64 s, .int .i64 q] 28 := by rw [← hW0, ← hK]; exact Blk.new (w := w) (cs := [.int .i64 s, .int .i64 q])
  have M0 := Lib.hid m0
  have K0 := Lib.hid k0
  have H := Lib.hid (h.grown m0)
  have HN := Lib.hid h.n
  clear h m0 k0
  go_enter Tryz.func71, Tryz.ntmps71
  go_upto_region 1 with fail
  clear hW0 hK
  go_wp2_with fail
  go_loopg [5] len (fun g s5 wx => ∃ k : Nat, g = len - k ∧ s5 = .int .i64 k ∧ k ≤ len ∧ Mine.Mod none_ W0 wx ∧ RowKit.Hid ((l.take k).any (sameNm s q) = false))
  case atStart => exact ⟨0, rfl, rfl, Nat.zero_le _, Mine.Mod.refl _ _, Lib.hid rfl⟩
  case round =>
    obtain ⟨k, rfl, rfl, hk, mx, hst⟩ := hrel
    have MX := Lib.hid mx
    by_cases hlk : k < len
    · obtain ⟨x, hx⟩ : ∃ x, l[k]? = some x := ⟨l[k]'(by rw [HN.out]; exact hlk), by simp⟩
      obtain ⟨b, off, rfl, hr⟩ := (H.out.grown mx).ops k x hx
      have c0 := hr 0 _ rfl
      have c1 := hr 1 _ rfl
      rw [Nat.add_zero] at c0
      have kx := K0.out.mod mx (fun e => e)
      have d0 : wr.cell? ⟨K, 0, none⟩ = some (.int .i64 s) := by rw [kx.cell]; rfl
      have d1 : wr.cell? ⟨K, 1, none⟩ = some (.int .i64 q) := by rw [kx.cell]; rfl
      have HT := Lib.hid (show (l.take (k + 1)).any (sameNm s q) = sameNm s q x by
        obtain ⟨hi, e⟩ := List.getElem?_eq_some_iff.1 hx
        rw [List.take_succ_eq_append_getElem hi, List.any_append, hst.out, e]; simp)
      have HA := Lib.hid (fun (hb : sameNm s q x = true) => (show l.any (sameNm s q) = true from List.any_eq_true.2 ⟨x, List.mem_of_getElem? hx, hb⟩))
      clear hx hst mx hr kx
      by_cases h1 : x.o.site = s
      · by_cases h2 : x.o.seq = q
        · have HE := Lib.hid (HA.out (by unfold sameNm; simp [h1, h2]))
          rw [h1] at c0
          rw [h2] at c1
          clear h1 h2 HT HA
          go_upto_region 4 with fail
          go_quiet (fail)
          have MQ := Lib.hid (M0.out.trans (MX.out.drewN nq))
          generalize wr.drewN nq = wq at MQ ⊢
          clear c0 c1 d0 d1
          go_wp2_with fail
          go_ret
          exact ⟨by rw [HE.out]; rfl, MQ.out⟩
        · have HT2 := Lib.hid (show (l.take (k + 1)).any (sameNm s q) = false by rw [HT.out]; unfold sameNm; simp [h2])
          have b2 : (x.o.seq == q) = false := by simpa using h2
          rw [h1] at c0
          clear h1 h2 HT HA
          go_upto_region 4 with fail
          go_quiet (fail)
          have MQ := Lib.hid (MX.out.drewN nq)
          generalize wr.drewN nq = wq at MQ ⊢
          clear c0 c1 d0 d1
          go_wp2_with fail
          go_roundg (len - (k + 1))
          all_goals first
            | omega
            | exact ⟨k + 1, rfl, by go_num, by omega, MQ.out, HT2⟩
      · have HT2 := Lib.hid (show (l.take (k + 1)).any (sameNm s q) = false by rw [HT.out]; unfold sameNm; simp [h1])
        have b1 : (x.o.site == s) = false := by simpa using h1
        clear h1 HT HA
        go_upto_region 4 with fail
        go_quiet (fail)
        have MQ := Lib.hid (MX.out.drewN nq)
        generalize wr.drewN nq = wq at MQ ⊢
        clear c0 c1 d0 d1
        go_wp2_with fail
        go_roundg (len - (k + 1))
        all_goals first
          | omega
          | exact ⟨k + 1, rfl, by go_num, by omega, MQ.out, HT2⟩
    · obtain rfl : k = len := by omega
      have hF : l.any (sameNm s q) = false := by
        have := hst.out
        rwa [List.take_of_length_le (by rw [HN.out]; omega)] at this
      have HF := Lib.hid hF
      have MF := Lib.hid (M0.out.trans mx)
      clear hst mx hF
      go_wp2_with fail
      go_ret
      exact ⟨by rw [HF.out]; rfl, MF.out⟩
end Go.Proofs.YtlidmajcdjlcnaaGreatDoor

namespace Go.Mine
open Go.Lib

/-- What the first byte says: how many bytes, and what it holds. -/
def lead (b : Nat) : Option (Nat × Nat) :=
  if b < 128 then some (1, b) else if b < 192 then none else if b < 224 then some (2, b - 192) else if b < 240 then some (3, b - 224) else if b < 248 then some (4, b - 240) else none
/-- What the bytes up to the k-th hold. -/
def accR (t : ByteArray) (x0 : Nat) : Nat → Nat
  | 0 => x0
  | k + 1 => 64 * accR t x0 k + bt t (k + 1) - 128
def contB (b : Nat) : Prop := 128 ≤ b ∧ b ≤ 191
/-- A number that is a rune. -/
def isR (n : Nat) : Prop := n ≤ 1114111 ∧ (n < 55296 ∨ 57343 < n)
instance (n : Nat) : Decidable (isR n) := by unfold isR; infer_instance

theorem lead_some {b n x0 : Nat} (h : lead b = some (n, x0)) : (n = 1 ∧ x0 = b ∧ b < 128) ∨ (n = 2 ∧ x0 = b - 192 ∧ 192 ≤ b ∧ b < 224) ∨ (n = 3 ∧ x0 = b - 224 ∧ 224 ≤ b ∧ b < 240) ∨ (n = 4 ∧ x0 = b - 240 ∧ 240 ≤ b ∧ b < 248) := by
  unfold lead at h
  repeat' split at h
  all_goals first
    | (cases h; fail)
    | (simp only [Option.some.injEq, Prod.mk.injEq] at h; omega)
    | simp at h
theorem lead_none {b : Nat} (h : lead b = none) : (128 ≤ b ∧ b < 192) ∨ 248 ≤ b := by
  unfold lead at h
  repeat' split at h
  all_goals first
    | omega
    | simp at h
theorem firstR_none {t : ByteArray} (h : t.size ≠ 0) (hl : lead (bt t 0) = none) : firstR t = (0, 0) := firstR0 h (lead_none hl)
theorem firstR_short {t : ByteArray} (h : t.size ≠ 0) {n x0 : Nat} (hl : lead (bt t 0) = some (n, x0)) (hs : t.size < n) : firstR t = (0, 0) := by
  rcases lead_some hl with ⟨hn', hx', h0⟩ | ⟨hn', hx', h0⟩ | ⟨hn', hx', h0⟩ | ⟨hn', hx', h0⟩ <;> clear hl <;> subst hn'
  · omega
  · rw [firstR2 h h0, if_neg (fun e => by omega)]
  · rw [firstR3 h h0, if_neg (fun e => by omega)]
  · rw [firstR4 h h0, if_neg (fun e => by omega)]
theorem firstR_cont {t : ByteArray} (h : t.size ≠ 0) {n x0 j : Nat} (hl : lead (bt t 0) = some (n, x0)) (h1 : 1 ≤ j) (hj : j < n) (hc : ¬ contB (bt t j)) : firstR t = (0, 0) := by
  unfold contB at hc
  rcases lead_some hl with ⟨hn', hx', h0⟩ | ⟨hn', hx', h0⟩ | ⟨hn', hx', h0⟩ | ⟨hn', hx', h0⟩ <;> clear hl <;> subst hn'
  · omega
  · obtain rfl : j = 1 := by omega
    rw [firstR2 h h0, if_neg (fun e => hc e.2.1)]
  · rcases (show j = 1 ∨ j = 2 by omega) with rfl | rfl
    · rw [firstR3 h h0, if_neg (fun e => hc e.2.1)]
    · rw [firstR3 h h0, if_neg (fun e => hc e.2.2.1)]
  · rcases (show j = 1 ∨ j = 2 ∨ j = 3 by omega) with rfl | rfl | rfl
    · rw [firstR4 h h0, if_neg (fun e => hc e.2.1)]
    · rw [firstR4 h h0, if_neg (fun e => hc e.2.2.1)]
    · rw [firstR4 h h0, if_neg (fun e => hc e.2.2.2.1)]
theorem accR_lt (t : ByteArray) (x0 : Nat) (h : x0 < 128) (k : Nat) (hk : k ≤ 3) : accR t x0 k < 100000000 := by
  have h1 := bt_lt t 1
  have h2 := bt_lt t 2
  have h3 := bt_lt t 3
  have e0 : accR t x0 0 = x0 := rfl
  have e1 : accR t x0 1 = 64 * x0 + bt t 1 - 128 := rfl
  have e2 : accR t x0 2 = 64 * accR t x0 1 + bt t 2 - 128 := rfl
  have e3 : accR t x0 3 = 64 * accR t x0 2 + bt t 3 - 128 := rfl
  generalize hg1 : accR t x0 1 = a1 at e1 e2
  generalize hg2 : accR t x0 2 = a2 at e2 e3
  have hk4 : k = 0 ∨ k = 1 ∨ k = 2 ∨ k = 3 := by omega
  rcases hk4 with e | e | e | e <;> rw [e]
  · rw [e0]; omega
  · rw [hg1]; omega
  · rw [hg2]; omega
  · rw [e3]; omega
theorem two_bytes (n b0 b1 : Nat) (h0 : 192 ≤ b0 ∧ b0 < 224) (hn : 2 ≤ n) (c1 : 128 ≤ b1 ∧ b1 ≤ 191) :
    (if 2 ≤ n ∧ (128 ≤ b1 ∧ b1 ≤ 191) ∧ 128 ≤ 64 * (b0 - 192) + b1 - 128 then (64 * (b0 - 192) + b1 - 128, 2) else (0, 0)) = if isR (64 * (b0 - 192) + b1 - 128) ∧ encR (64 * (b0 - 192) + b1 - 128) = [b0, b1] then (64 * (b0 - 192) + b1 - 128, 2) else (0, 0) := by
  generalize hx : 64 * (b0 - 192) + b1 - 128 = x
  by_cases hv : 128 ≤ x
  · rw [if_pos ⟨hn, c1, hv⟩, if_pos]
    refine ⟨by unfold isR; omega, ?_⟩
    unfold encR
    rw [if_neg (by omega), if_pos (by omega)]
    simp only [List.cons.injEq, and_true]
    omega
  · rw [if_neg (fun e => hv e.2.2), if_neg]
    rintro ⟨_, he⟩
    unfold encR at he
    rw [if_pos (by omega)] at he
    simp at he
theorem three_bytes (n b0 b1 b2 : Nat) (h0 : 224 ≤ b0 ∧ b0 < 240) (hn : 3 ≤ n) (c1 : 128 ≤ b1 ∧ b1 ≤ 191) (c2 : 128 ≤ b2 ∧ b2 ≤ 191) (x : Nat) (hx : 64 * (64 * (b0 - 224) + b1 - 128) + b2 - 128 = x) :
    (if 3 ≤ n ∧ (128 ≤ b1 ∧ b1 ≤ 191) ∧ (128 ≤ b2 ∧ b2 ≤ 191) ∧ 2048 ≤ x ∧ (x < 55296 ∨ 57343 < x) then (x, 3) else (0, 0)) = if isR x ∧ encR x = [b0, b1, b2] then (x, 3) else (0, 0) := by
  by_cases hv : 2048 ≤ x ∧ (x < 55296 ∨ 57343 < x)
  · rw [if_pos ⟨hn, c1, c2, hv⟩, if_pos]
    refine ⟨by unfold isR; omega, ?_⟩
    unfold encR
    rw [if_neg (by omega), if_neg (by omega), if_pos (by omega)]
    simp only [List.cons.injEq, and_true]
    omega
  · rw [if_neg (fun e => hv e.2.2.2), if_neg]
    rintro ⟨hr, he⟩
    unfold isR at hr
    have hx2 : x < 2048 := by omega
    unfold encR at he
    by_cases h1 : x < 128
    · rw [if_pos h1] at he
      simp at he
    · rw [if_neg h1, if_pos hx2] at he
      simp at he
theorem four_bytes (n b0 b1 b2 b3 : Nat) (h0 : 240 ≤ b0 ∧ b0 < 248) (hn : 4 ≤ n) (c1 : 128 ≤ b1 ∧ b1 ≤ 191) (c2 : 128 ≤ b2 ∧ b2 ≤ 191) (c3 : 128 ≤ b3 ∧ b3 ≤ 191) (x : Nat) (hx : 64 * (64 * (64 * (b0 - 240) + b1 - 128) + b2 - 128) + b3 - 128 = x) :
    (if 4 ≤ n ∧ (128 ≤ b1 ∧ b1 ≤ 191) ∧ (128 ≤ b2 ∧ b2 ≤ 191) ∧ (128 ≤ b3 ∧ b3 ≤ 191) ∧ 65536 ≤ x ∧ x ≤ 1114111 then (x, 4) else (0, 0)) = if isR x ∧ encR x = [b0, b1, b2, b3] then (x, 4) else (0, 0) := by
  by_cases hv : 65536 ≤ x ∧ x ≤ 1114111
  · rw [if_pos ⟨hn, c1, c2, c3, hv⟩, if_pos]
    refine ⟨by unfold isR; omega, ?_⟩
    unfold encR
    rw [if_neg (by omega), if_neg (by omega), if_neg (by omega)]
    simp only [List.cons.injEq, and_true]
    omega
  · rw [if_neg (fun e => hv e.2.2.2.2), if_neg]
    rintro ⟨hr, he⟩
    unfold isR at hr
    have hx2 : x < 65536 := by omega
    unfold encR at he
    by_cases h1 : x < 128
    · rw [if_pos h1] at he
      simp at he
    · by_cases h2 : x < 2048
      · rw [if_neg h1, if_pos h2] at he
        simp at he
      · rw [if_neg h1, if_neg h2, if_pos hx2] at he
        simp at he
/-- All bytes are of the form: the rune is right just if its own bytes are these. -/
theorem firstR_all {t : ByteArray} (h : t.size ≠ 0) {n x0 : Nat} (hl : lead (bt t 0) = some (n, x0)) (hn : n ≤ t.size) (hc : ∀ j, 1 ≤ j → j < n → contB (bt t j)) :
    firstR t = if isR (accR t x0 (n - 1)) ∧ encR (accR t x0 (n - 1)) = (List.range n).map (bt t) then (accR t x0 (n - 1), n) else (0, 0) := by
  have r1 : (List.range 1).map (bt t) = [bt t 0] := rfl
  have r2 : (List.range 2).map (bt t) = [bt t 0, bt t 1] := rfl
  have r3 : (List.range 3).map (bt t) = [bt t 0, bt t 1, bt t 2] := rfl
  have r4 : (List.range 4).map (bt t) = [bt t 0, bt t 1, bt t 2, bt t 3] := rfl
  have hc1 : 1 < n → contB (bt t 1) := fun e => hc 1 (Nat.le_refl _) e
  have hc2 : 2 < n → contB (bt t 2) := fun e => hc 2 (by decide) e
  have hc3 : 3 < n → contB (bt t 3) := fun e => hc 3 (by decide) e
  rcases lead_some hl with ⟨hn', hx', h0⟩ | ⟨hn', hx', h0⟩ | ⟨hn', hx', h0⟩ | ⟨hn', hx', h0⟩ <;> clear hl <;> subst hn'
  · have e1 : accR t x0 (1 - 1) = bt t 0 := hx'
    have e2 : isR (bt t 0) := ⟨Nat.le_trans (Nat.le_of_lt h0) (by decide), .inl (Nat.lt_of_lt_of_le h0 (by decide))⟩
    have e3 : encR (bt t 0) = (List.range 1).map (bt t) := by
      rw [r1]
      unfold encR
      rw [if_pos h0]
    rw [firstR1 h h0, e1, if_pos ⟨e2, e3⟩]
  · have e1 : accR t x0 (2 - 1) = 64 * (bt t 0 - 192) + bt t 1 - 128 := by rw [← hx']; rfl
    rw [firstR2 h h0, r2, e1]
    exact two_bytes _ _ _ h0 hn (hc1 (by decide))
  · have e1 : 64 * (64 * (bt t 0 - 224) + bt t 1 - 128) + bt t 2 - 128 = accR t x0 (3 - 1) := by rw [← hx']; rfl
    rw [firstR3 h h0, r3, e1]
    exact three_bytes _ _ _ _ h0 hn (hc1 (by decide)) (hc2 (by decide)) _ e1
  · have e1 : 64 * (64 * (64 * (bt t 0 - 240) + bt t 1 - 128) + bt t 2 - 128) + bt t 3 - 128 = accR t x0 (4 - 1) := by rw [← hx']; rfl
    rw [firstR4 h h0, r4, e1]
    exact four_bytes _ _ _ _ _ h0 hn (hc1 (by decide)) (hc2 (by decide)) (hc3 (by decide)) _ e1
end Go.Mine

namespace Go.Proofs.YtlidmajcdjlcnaaGreatDoor
open Go.RowKit Go.Mine

theorem vR_bools (r : Int) : Lib.validRune r = (decide (0 ≤ r) && decide (r ≤ 1114111) && (decide (r < 55296) || decide (57343 < r))) := by
  unfold Lib.validRune
  rw [Bool.eq_iff_iff]
  simp only [decide_eq_true_eq, Bool.and_eq_true, Bool.or_eq_true]
  omega

set_option maxHeartbeats 1000000 in
set_option maxRecDepth 1000000 in
theorem ris_any (r : Int) (w : World) : Calls Tryz.prog 70 #[.int .i32 r] w fun e w' => e = .returned (.bool (Lib.validRune r)) ∧ w' = w := by
  rw [vR_bools]
  go_enter Tryz.func70, Tryz.ntmps70
  cases h0 : decide (0 ≤ r)
  · go_wp2_with fail
    go_ret
    exact ⟨rfl, rfl⟩
  · cases h1 : decide (r ≤ 1114111)
    · go_wp2_with fail
      go_ret
      exact ⟨rfl, rfl⟩
    · cases h2 : decide (r < 55296)
      · cases h3 : decide (57343 < r)
        · go_wp2_with fail
          go_ret
          exact ⟨rfl, rfl⟩
        · go_wp2_with fail
          go_ret
          exact ⟨rfl, rfl⟩
      · go_wp2_with fail
        go_ret
        exact ⟨rfl, rfl⟩

/-- Bytes in memory. -/
abbrev encCs (r : Nat) : List Value := (encR r).map fun x : Nat => Value.int .u8 (x : Int)
def BytesTo (w : World) (r : Nat) (e : Ending) (w' : World) : Prop := (∃ g, e = .returned (.slice (some ⟨g, 0, none⟩) (encR r).length (encR r).length) ∧ w.heap.size ≤ g ∧ Blk w' g (encCs r) 5) ∧ Mod none_ w w'

theorem BytesTo.mk {w : World} {r : Nat} (cs : List Value) (n : Nat) (h : encCs r = cs) (hn : cs.length = n) : BytesTo w r (.returned (.slice (some ⟨w.heap.size, 0, none⟩) n n)) (w.alloc (.cells cs.toArray 5)) := by
  have hl : (encR r).length = n := by rw [← hn, ← h, List.length_map]
  refine ⟨⟨w.heap.size, by rw [hl], Nat.le_refl _, ?_⟩, (Mod.refl none_ w).alloc _⟩
  rw [h]
  exact Blk.new

set_option maxHeartbeats 1000000 in
set_option maxRecDepth 1000000 in
theorem rbytes_any (r : Nat) (w : World) (h : r ≤ 1114111) : Calls Tryz.prog 136 #[.int .i32 (r : Int)] w (BytesTo w r) := by
  have hi : IntKind.i64.wrap (r : Int) = r := by rw [IntKind.wrap_i64]; omega
  go_enter Tryz.func136, Tryz.ntmps136
  by_cases h0 : (r : Int) < 128
  · have hd0 : decide ((r : Int) < 128) = true := by simpa using h0
    have HF := Lib.hid (show BytesTo w r (.returned (.slice (some ⟨w.heap.size, 0, none⟩) 1 1)) (w.alloc (.cells [Value.int .u8 (r : Int)].toArray 5)) from
      BytesTo.mk _ 1 (by unfold encCs encR; rw [if_pos (by omega)]; rfl) rfl)
    go_wp2_with fail
    go_ret
    exact HF.out
  · have hd0 : decide ((r : Int) < 128) = false := by simpa using h0
    by_cases h1 : (r : Int) < 2048
    · have hd1 : decide ((r : Int) < 2048) = true := by simpa using h1
      have HF := Lib.hid (show BytesTo w r (.returned (.slice (some ⟨w.heap.size, 0, none⟩) 2 2)) (w.alloc (.cells [Value.int .u8 (192 + (r : Int) / 64), .int .u8 (128 + (r : Int) % 64)].toArray 5)) from
        BytesTo.mk _ 2 (by unfold encCs encR; rw [if_neg (by omega), if_pos (by omega)]; simp) rfl)
      go_wp2_with fail
      go_ret
      exact HF.out
    · have hd1 : decide ((r : Int) < 2048) = false := by simpa using h1
      by_cases h2 : (r : Int) < 65536
      · have hd2 : decide ((r : Int) < 65536) = true := by simpa using h2
        have HF := Lib.hid (show BytesTo w r (.returned (.slice (some ⟨w.heap.size, 0, none⟩) 3 3)) (w.alloc (.cells [Value.int .u8 (224 + (r : Int) / 4096), .int .u8 (128 + (r : Int) / 64 % 64), .int .u8 (128 + (r : Int) % 64)].toArray 5)) from
          BytesTo.mk _ 3 (by unfold encCs encR; rw [if_neg (by omega), if_neg (by omega), if_pos (by omega)]; simp) rfl)
        go_wp2_with fail
        go_ret
        exact HF.out
      · have hd2 : decide ((r : Int) < 65536) = false := by simpa using h2
        have HF := Lib.hid (show BytesTo w r (.returned (.slice (some ⟨w.heap.size, 0, none⟩) 4 4)) (w.alloc (.cells [Value.int .u8 (240 + (r : Int) / 262144), .int .u8 (128 + (r : Int) / 4096 % 64), .int .u8 (128 + (r : Int) / 64 % 64), .int .u8 (128 + (r : Int) % 64)].toArray 5)) from
          BytesTo.mk _ 4 (by unfold encCs encR; rw [if_neg (by omega), if_neg (by omega), if_neg (by omega)]; simp) rfl)
        go_wp2_with fail
        go_ret
        exact HF.out
end Go.Proofs.YtlidmajcdjlcnaaGreatDoor

namespace Go.Proofs.YtlidmajcdjlcnaaGreatDoor
open Go.RowKit Go.Mine

theorem bt_eq (s : ByteArray) (i : Nat) (h : i < s.size) : (s[i]'h).toNat = bt s i := by
  unfold bt
  have e : s.get! i = s.data[i]! := rfl
  rw [e, getElem!_def]
  have hs : i < s.data.size := h
  rw [Array.getElem?_eq_getElem hs]
  rfl
theorem ba_inj {a b : ByteArray} (h : a.toList = b.toList) : a = b := by
  rw [ByteArray.toList_eq, ByteArray.toList_eq] at h
  exact ByteArray.ext (Array.ext' h)
theorem isR_valid (x : Nat) : isR x ↔ Lib.validRune (x : Int) = true := by
  unfold isR Lib.validRune
  rw [decide_eq_true_eq]
  omega
theorem encR_u8 (x : Nat) (h : isR x) : ∀ y ∈ encR x, y < 256 := by
  intro y hy
  unfold isR at h
  unfold encR at hy
  repeat' split at hy
  all_goals simp only [List.mem_cons, List.not_mem_nil, or_false] at hy
  all_goals omega
theorem encCs_at (x : Nat) (h : ∀ y ∈ encR x, y < 256) (j : Nat) (hj : j < ((encR x).map UInt8.ofNat).length) : (encCs x)[j]? = some (.int .u8 ((((encR x).map UInt8.ofNat)[j]'hj).toNat : Int)) := by
  have hj' : j < (encR x).length := by simpa using hj
  have := h _ (List.getElem_mem hj')
  unfold encCs
  rw [List.getElem?_map, List.getElem?_eq_getElem hj', List.getElem_map]
  simp only [Option.map_some, Option.some.injEq, Value.int.injEq, true_and]
  rw [UInt8.toNat_ofNat']
  omega
theorem bytes_eq (s : ByteArray) (n : Nat) (hn : n ≤ s.size) (l : List Nat) (h : ∀ y ∈ l, y < 256) : (⟨(l.map UInt8.ofNat).toArray⟩ : ByteArray) = s.extract 0 n ↔ l = (List.range n).map (bt s) := by
  rw [extract_bytes s n hn]
  constructor
  · intro e
    have e2 : l.map UInt8.ofNat = (List.range n).map fun i => s.get! i := by simpa using e
    apply List.ext_getElem?
    intro i
    have e3 := congrArg (fun z : List UInt8 => z[i]?) e2
    simp only [List.getElem?_map] at e3 ⊢
    cases hx : l[i]? with
    | none =>
      rw [hx] at e3
      cases hr : (List.range n)[i]? with
      | none => rfl
      | some j => rw [hr] at e3; cases e3
    | some x =>
      rw [hx] at e3
      cases hr : (List.range n)[i]? with
      | none => rw [hr] at e3; cases e3
      | some j =>
        rw [hr] at e3
        simp only [Option.map_some, Option.some.injEq] at e3 ⊢
        unfold bt
        rw [← e3, UInt8.toNat_ofNat']
        have := h x (List.mem_of_getElem? hx)
        omega
  · rintro rfl
    have e2 : ((List.range n).map (bt s)).map UInt8.ofNat = (List.range n).map fun i => s.get! i := by
      rw [List.map_map]
      apply List.map_congr_left
      intro i _
      simp [bt]
    rw [e2]

set_option maxHeartbeats 8000000 in
set_option maxRecDepth 1000000 in
theorem rfirst_any (s : ByteArray) (w : World) (h0 : s.size ≠ 0) (hsz : s.size < 4611686018427387904) :
    Calls Tryz.prog 116 #[.string s] w fun e w' => e = .returned (.tuple #[.int .i32 ((firstR s).1 : Int), .int .i64 ((firstR s).2 : Int)]) ∧ Mod none_ w w' := by
  obtain ⟨R, hR⟩ : ∃ R, R = firstR s := ⟨_, rfl⟩
  rw [← hR]
  have HR := Lib.hid hR
  clear hR
  have hpos : 0 < s.size := by omega
  have H0 := Lib.hid h0
  obtain ⟨b, hb⟩ : ∃ b, (s[0]'hpos).toNat = b := ⟨_, rfl⟩
  have HB := Lib.hid (show bt s 0 = b by rw [← bt_eq s 0 hpos, hb])
  have hb256 : b < 256 := by rw [← HB.out]; exact bt_lt s 0
  cases hl : lead b with
  | none =>
    have HE := Lib.hid (show R = (0, 0) by rw [HR.out, firstR_none h0 (by rw [HB.out]; exact hl)])
    have hbb : (128 ≤ b ∧ b < 192) ∨ 248 ≤ b := lead_none hl
    clear hl
    go_enter Tryz.func116, Tryz.ntmps116
    rcases hbb with hbb | hbb
    · have d1 : decide (192 ≤ (b : Int)) = false := by simp; omega
      have d2 : decide (224 ≤ (b : Int)) = false := by simp; omega
      have d3 : decide (240 ≤ (b : Int)) = false := by simp; omega
      have d4 : decide (128 ≤ (b : Int)) = true := by simp; omega
      go_wp2_with fail
      go_ret2
      exact ⟨by rw [HE.out]; rfl, Mod.refl _ _⟩
    · have d1 : decide (192 ≤ (b : Int)) = true := by simp; omega
      have d2 : decide (224 ≤ (b : Int)) = true := by simp; omega
      have d3 : decide (240 ≤ (b : Int)) = true := by simp; omega
      have d4 : decide (128 ≤ (b : Int)) = true := by simp; omega
      have d5 : decide ((b : Int) < 224) = false := by simp; omega
      have d6 : decide ((b : Int) < 240) = false := by simp; omega
      have d7 : decide ((b : Int) < 248) = false := by simp; omega
      go_wp2_with fail
      go_ret2
      exact ⟨by rw [HE.out]; rfl, Mod.refl _ _⟩
  | some p =>
    obtain ⟨n, x0⟩ := p
    have hcs := lead_some hl
    have HL := Lib.hid (show lead (bt s 0) = some (n, x0) by rw [HB.out]; exact hl)
    clear hl
    go_enter Tryz.func116, Tryz.ntmps116
    rcases hcs with ⟨hn, hx, hb0⟩ | hcs
    · have hL := HL.out
      subst hn
      have HXA := Lib.hid (show R = if isR b ∧ encR b = (List.range 1).map (bt s) then (b, 1) else (0, 0) by
        have := firstR_all h0 hL (by omega) (fun j h1 h2 => by omega)
        rw [HR.out, this]
        show (if isR x0 ∧ encR x0 = (List.range 1).map (bt s) then (x0, 1) else (0, 0)) = _
        rw [hx])
      clear hL hx HL
      have d1 : decide (192 ≤ (b : Int)) = false := by simp; omega
      have d2 : decide (224 ≤ (b : Int)) = false := by simp; omega
      have d3 : decide (240 ≤ (b : Int)) = false := by simp; omega
      have d4 : decide (128 ≤ (b : Int)) = false := by simp; omega
      have d5 : decide ((s.size : Int) < 1) = false := by simp; omega
      have hn4 : 1 ≤ s.size := by omega
      have hX : b < 100000000 := by omega
      obtain ⟨XX, hXX⟩ : ∃ XX, b = XX := ⟨_, rfl⟩
      subst hXX
      obtain ⟨XX, hXX⟩ : ∃ XX, XX = b := ⟨_, rfl⟩
      go_wp2_with fail
      go_loopg [4, 6] 0 (fun g s4 s6 wx => g = 0 ∧ s4 = .int .i64 b ∧ s6 = .int .i64 1 ∧ wx = w)
      case atStart => exact ⟨rfl, rfl, rfl, rfl⟩
      case round =>
        obtain ⟨rfl, rfl, rfl, rfl⟩ := hrel
        go_upto_region 22 with fail
        rw [← hXX]
        rw [← hXX] at HXA hX
        clear hXX hb hb0 d1 d2 d3 d4 d5 HB hb256
        obtain ⟨WW, rfl⟩ : ∃ WW, WW = wr := ⟨_, rfl⟩
        have hbn : ¬ ((s.size : Int) < 1) := by omega
        have hw32 : IntKind.i32.wrap (XX : Int) = XX := by rw [IntKind.wrap_i32]; omega
        cases hv : Lib.validRune (XX : Int)
        · have HE := Lib.hid (show R = (0, 0) by rw [HXA.out, if_neg (fun e => by have := (isR_valid XX).1 e.1; rw [hv] at this; cases this)])
          clear HXA
          refine wp_region_held_drew (S := fun w' => Mine.Mod none_ WW w') (by kernel_rfl) (Mine.Mod.drew (Mine.Mod.refl none_ WW)) (fun hS => ?_)
          refine wpAnyH_take (i := 0) (v := .int .i64 (XX : Int)) rfl (by kernel_rfl) (by kernel_rfl) (by kernel_rfl) (fun _ _ _ h => h) (Or.inl ⟨by kernel_rfl, ?_⟩) hS ?_
          · rintro w' _; go_simp
          try simp only [Act.put, List.setIfInBounds_toArray]
          refine wpAnyH_take (i := 1) (v := .int .i32 (XX : Int)) rfl (by kernel_rfl) (by kernel_rfl) (by kernel_rfl) (fun _ _ _ h => h) (Or.inl ⟨by kernel_rfl, ?_⟩) hS ?_
          · rintro w' _; go_simp
          try simp only [Act.put]
          refine wpAnyH_ready (rs := [2]) (by kernel_rfl) (by simp) (AllReadyH.cons rfl (fun K hK => ?_) <| AllReadyH.nil)
          go_simp
          refine (ris_any (XX : Int) _).mono ?_
          rintro e w1 ⟨rfl, rfl⟩
          rw [hv]
          refine hK.out _ _ hS (fun hS => ?_)
          clear hK K
          try simp only [Act.put, List.setIfInBounds_toArray, List.set_cons_zero, List.set_cons_succ]
          refine wpAnyH_take (i := 3) (v := .bool true) rfl (by kernel_rfl) (by kernel_rfl) (by kernel_rfl) (fun _ _ _ h => h) (Or.inl ⟨by kernel_rfl, ?_⟩) hS ?_
          · rintro w' _; go_simp
          try simp only [Act.put, List.setIfInBounds_toArray]
          refine wpAnyH_take (i := 4) (v := .bool true) rfl (by kernel_rfl) (by kernel_rfl) (by kernel_rfl) (fun _ _ _ h => h) (Or.inl ⟨by kernel_rfl, ?_⟩) hS ?_
          · rintro w' _; go_simp
          try simp only [Act.put]
          refine wpAnyH_take (i := 5) (v := undef) rfl (by kernel_rfl) (by kernel_rfl) (by kernel_rfl) (fun _ _ _ h => h) (Or.inr ⟨by kernel_rfl, rfl⟩) hS ?_
          try simp only [Act.put]
          refine wpAnyH_take (i := 6) (v := undef) rfl (by kernel_rfl) (by kernel_rfl) (by kernel_rfl) (fun _ _ _ h => h) (Or.inr ⟨by kernel_rfl, rfl⟩) hS ?_
          try simp only [Act.put]
          refine wpAnyH_take (i := 7) (v := undef) rfl (by kernel_rfl) (by kernel_rfl) (by kernel_rfl) (fun _ _ _ h => h) (Or.inr ⟨by kernel_rfl, rfl⟩) hS ?_
          try simp only [Act.put]
          refine wpAnyH_take (i := 8) (v := undef) rfl (by kernel_rfl) (by kernel_rfl) (by kernel_rfl) (fun _ _ _ h => h) (Or.inr ⟨by kernel_rfl, rfl⟩) hS ?_
          try simp only [Act.put]
          refine wpAnyH_take (i := 9) (v := undef) rfl (by kernel_rfl) (by kernel_rfl) (by kernel_rfl) (fun _ _ _ h => h) (Or.inr ⟨by kernel_rfl, rfl⟩) hS ?_
          try simp only [Act.put]
          refine wpAnyH_take (i := 10) (v := undef) rfl (by kernel_rfl) (by kernel_rfl) (by kernel_rfl) (fun _ _ _ h => h) (Or.inr ⟨by kernel_rfl, rfl⟩) hS ?_
          try simp only [Act.put]
          refine wpAnyH_take (i := 11) (v := undef) rfl (by kernel_rfl) (by kernel_rfl) (by kernel_rfl) (fun _ _ _ h => h) (Or.inr ⟨by kernel_rfl, rfl⟩) hS ?_
          try simp only [Act.put]
          refine wpAnyH_take (i := 12) (v := undef) rfl (by kernel_rfl) (by kernel_rfl) (by kernel_rfl) (fun _ _ _ h => h) (Or.inr ⟨by kernel_rfl, rfl⟩) hS ?_
          try simp only [Act.put]
          refine wpAnyH_take (i := 13) (v := .bool true) rfl (by kernel_rfl) (by kernel_rfl) (by kernel_rfl) (fun _ _ _ h => h) (Or.inl ⟨by kernel_rfl, ?_⟩) hS ?_
          · rintro w' _; go_simp
          try simp only [Act.put]
          refine wpAnyH_done (by kernel_rfl) ?_ _
          try simp only [List.getElem_toArray, List.getElem_cons_succ, List.getElem_cons_zero]
          try simp only [List.setIfInBounds_toArray, List.set_cons_zero, List.set_cons_succ]
          have MF := Lib.hid hS
          clear hS
          go_wp2_with fail
          go_ret2
          exact ⟨by rw [HE.out]; rfl, MF.out⟩
        · have hXr : isR XX := (isR_valid XX).2 hv
          have HB8 := Lib.hid (encR_u8 XX hXr)
          obtain ⟨A, hA⟩ : ∃ A : ByteArray, A = ⟨((encR XX).map UInt8.ofNat).toArray⟩ := ⟨_, rfl⟩
          have HAE := Lib.hid (show A = s.extract 0 1 ↔ encR XX = (List.range 1).map (bt s) from by rw [hA]; exact bytes_eq s 1 hn4 _ (fun x hx => HB8.out x hx))
          have HA := Lib.hid hA
          have hX2 : XX ≤ 1114111 := hXr.1
          clear hA
          refine wp_region_held_drew (S := fun w' => Mine.Mod none_ WW w') (by kernel_rfl) (Mine.Mod.drew (Mine.Mod.refl none_ WW)) (fun hS => ?_)
          refine wpAnyH_take (i := 0) (v := .int .i64 (XX : Int)) rfl (by kernel_rfl) (by kernel_rfl) (by kernel_rfl) (fun _ _ _ h => h) (Or.inl ⟨by kernel_rfl, ?_⟩) hS ?_
          · rintro w' _; go_simp
          try simp only [Act.put, List.setIfInBounds_toArray]
          refine wpAnyH_take (i := 1) (v := .int .i32 (XX : Int)) rfl (by kernel_rfl) (by kernel_rfl) (by kernel_rfl) (fun _ _ _ h => h) (Or.inl ⟨by kernel_rfl, ?_⟩) hS ?_
          · rintro w' _; go_simp
          try simp only [Act.put]
          refine wpAnyH_ready (rs := [2]) (by kernel_rfl) (by simp) (AllReadyH.cons rfl (fun K hK => ?_) <| AllReadyH.nil)
          go_simp
          refine (ris_any (XX : Int) _).mono ?_
          rintro e w1 ⟨rfl, rfl⟩
          rw [hv]
          refine hK.out _ _ hS (fun hS => ?_)
          clear hK K
          try simp only [Act.put, List.setIfInBounds_toArray, List.set_cons_zero, List.set_cons_succ]
          refine wpAnyH_take (i := 3) (v := .bool false) rfl (by kernel_rfl) (by kernel_rfl) (by kernel_rfl) (fun _ _ _ h => h) (Or.inl ⟨by kernel_rfl, ?_⟩) hS ?_
          · rintro w' _; go_simp
          try simp only [Act.put, List.setIfInBounds_toArray]
          refine wpAnyH_take (i := 4) (v := .bool false) rfl (by kernel_rfl) (by kernel_rfl) (by kernel_rfl) (fun _ _ _ h => h) (Or.inl ⟨by kernel_rfl, ?_⟩) hS ?_
          · rintro w' _; go_simp
          try simp only [Act.put]
          refine wpAnyH_take (i := 5) (v := .int .i64 (XX : Int)) rfl (by kernel_rfl) (by kernel_rfl) (by kernel_rfl) (fun _ _ _ h => h) (Or.inl ⟨by kernel_rfl, ?_⟩) hS ?_
          · rintro w' _; go_simp
          try simp only [Act.put]
          refine wpAnyH_take (i := 6) (v := .int .i32 (XX : Int)) rfl (by kernel_rfl) (by kernel_rfl) (by kernel_rfl) (fun _ _ _ h => h) (Or.inl ⟨by kernel_rfl, ?_⟩) hS ?_
          · rintro w' _; go_simp
          try simp only [Act.put]
          refine wpAnyH_take (i := 9) (v := .string s) rfl (by kernel_rfl) (by kernel_rfl) (by kernel_rfl) (fun _ _ _ h => h) (Or.inl ⟨by kernel_rfl, ?_⟩) hS ?_
          · rintro w' _; go_simp
          try simp only [Act.put]
          refine wpAnyH_take (i := 10) (v := .int .i64 (1 : Int)) rfl (by kernel_rfl) (by kernel_rfl) (by kernel_rfl) (fun _ _ _ h => h) (Or.inl ⟨by kernel_rfl, ?_⟩) hS ?_
          · rintro w' _; go_simp
          try simp only [Act.put]
          refine wpAnyH_take (i := 11) (v := .string (s.extract 0 1)) rfl (by kernel_rfl) (by kernel_rfl) (by kernel_rfl) (fun _ _ _ h => h) (Or.inl ⟨by kernel_rfl, ?_⟩) hS ?_
          · rintro w' _; go_simp <;> (intro h; exact absurd h hbn)
          try simp only [Act.put]
          refine wpAnyH_ready (rs := [7]) (by kernel_rfl) (by simp) (AllReadyH.cons rfl (fun K hK => ?_) <| AllReadyH.nil)
          rw [if_pos (by kernel_rfl)]
          go_simp
          refine (rbytes_any XX _ hX2).mono ?_
          rintro e w2 ⟨⟨g, rfl, hgw, kg⟩, m2⟩
          have hcv : (convert 184 9 (.slice (some ⟨g, 0, none⟩) (encR XX).length (encR XX).length)).run Tryz.prog w2 = .ok (.string A) w2 := by
            have hl : ((encR XX).map UInt8.ofNat).length = (encR XX).length := List.length_map ..
            rw [HA.out, ← hl]
            refine run_convert_bytes_back w2 _ _ _ ⟨g, 0, none⟩ _ ((encR XX).map UInt8.ofNat) Tryz.underlying184 Tryz.underlying5 Tryz.underlying9 (fun j hj => ?_)
            have ea : (⟨g, 0, none⟩ : Addr).add j = ⟨g, j, none⟩ := by rw [Addr.add_lit, Nat.zero_add]
            rw [ea, kg.cell]
            exact encCs_at XX HB8.out j hj
          have HCV := Lib.hid hcv
          clear hcv kg hgw
          obtain ⟨nb, hnb⟩ : ∃ nb, nb = (encR XX).length := ⟨_, rfl⟩
          rw [← hnb] at HCV ⊢
          clear hnb
          refine hK.out _ _ (hS.trans m2) (fun hS => ?_)
          clear hK K m2
          try simp only [Act.put, List.setIfInBounds_toArray, List.set_cons_zero, List.set_cons_succ]
          have hcv := HCV.out
          refine wpAnyH_ready (rs := [8]) (by kernel_rfl) (by simp) (AllReadyH.cons rfl (fun K hK => ?_) <| AllReadyH.nil)
          rw [if_pos (by kernel_rfl)]
          go_simp
          refine hK.out _ _ hS (fun hS => ?_)
          clear hK K hcv HCV
          try simp only [Act.put, List.setIfInBounds_toArray, List.set_cons_zero, List.set_cons_succ]
          have MF := Lib.hid hS
          by_cases hq : A = s.extract 0 1
          · have HE := Lib.hid (show R = (XX, 1) by rw [HXA.out, if_pos ⟨hXr, HAE.out.1 hq⟩])
            have hqb : A.toList = (s.extract 0 1).toList := by rw [hq]
            clear HXA HAE HA hq
            refine wpAnyH_take (i := 12) (v := .bool false) rfl (by kernel_rfl) (by kernel_rfl) (by kernel_rfl) (fun _ _ _ h => h) (Or.inl ⟨by kernel_rfl, ?_⟩) hS ?_
            · rintro w' _; go_simp
            try simp only [Act.put, List.setIfInBounds_toArray]
            refine wpAnyH_take (i := 13) (v := .bool false) rfl (by kernel_rfl) (by kernel_rfl) (by kernel_rfl) (fun _ _ _ h => h) (Or.inl ⟨by kernel_rfl, ?_⟩) hS ?_
            · rintro w' _; go_simp
            try simp only [Act.put]
            refine wpAnyH_done (by kernel_rfl) ?_ _
            try simp only [List.getElem_toArray, List.getElem_cons_succ, List.getElem_cons_zero]
            try simp only [List.setIfInBounds_toArray, List.set_cons_zero, List.set_cons_succ]
            clear hS
            go_wp2_with fail
            go_ret2
            exact ⟨by rw [HE.out]; rfl, MF.out⟩
          · have HE := Lib.hid (show R = (0, 0) by rw [HXA.out, if_neg (fun e => hq (HAE.out.2 e.2))])
            have hqb : ¬ A.toList = (s.extract 0 1).toList := fun e => hq (ba_inj e)
            clear HXA HAE HA hq
            refine wpAnyH_take (i := 12) (v := .bool true) rfl (by kernel_rfl) (by kernel_rfl) (by kernel_rfl) (fun _ _ _ h => h) (Or.inl ⟨by kernel_rfl, ?_⟩) hS ?_
            · rintro w' _; go_simp
            try simp only [Act.put, List.setIfInBounds_toArray]
            refine wpAnyH_take (i := 13) (v := .bool true) rfl (by kernel_rfl) (by kernel_rfl) (by kernel_rfl) (fun _ _ _ h => h) (Or.inl ⟨by kernel_rfl, ?_⟩) hS ?_
            · rintro w' _; go_simp
            try simp only [Act.put]
            refine wpAnyH_done (by kernel_rfl) ?_ _
            try simp only [List.getElem_toArray, List.getElem_cons_succ, List.getElem_cons_zero]
            try simp only [List.setIfInBounds_toArray, List.set_cons_zero, List.set_cons_succ]
            clear hS
            go_wp2_with fail
            go_ret2
            exact ⟨by rw [HE.out]; rfl, MF.out⟩
    · have hng : 2 ≤ n ∧ n ≤ 4 := by omega
      have hx128 : x0 < 128 := by omega
      have HN1 := Lib.hid hng
      by_cases hn4 : s.size < n
      · have HE := Lib.hid (show R = (0, 0) by rw [HR.out, firstR_short h0 HL.out hn4])
        clear HL hng
        rcases hcs with ⟨hn, hx, hb0⟩ | ⟨hn, hx, hb0⟩ | ⟨hn, hx, hb0⟩
        · have d1 : decide (192 ≤ (b : Int)) = true := by simp; omega
          have d2 : decide ((b : Int) < 224) = true := by simp; omega
          have d5 : decide ((s.size : Int) < 2) = true := by simp; omega
          clear hn hx
          go_wp2_with fail
          go_ret2
          exact ⟨by rw [HE.out]; rfl, Mod.refl _ _⟩
        · have d1 : decide (192 ≤ (b : Int)) = true := by simp; omega
          have d2 : decide ((b : Int) < 224) = false := by simp; omega
          have d3 : decide (224 ≤ (b : Int)) = true := by simp; omega
          have d4 : decide ((b : Int) < 240) = true := by simp; omega
          have d5 : decide ((s.size : Int) < 3) = true := by simp; omega
          clear hn hx
          go_wp2_with fail
          go_ret2
          exact ⟨by rw [HE.out]; rfl, Mod.refl _ _⟩
        · have d1 : decide (192 ≤ (b : Int)) = true := by simp; omega
          have d2 : decide ((b : Int) < 224) = false := by simp; omega
          have d3 : decide (224 ≤ (b : Int)) = true := by simp; omega
          have d4 : decide ((b : Int) < 240) = false := by simp; omega
          have d6 : decide (240 ≤ (b : Int)) = true := by simp; omega
          have d7 : decide ((b : Int) < 248) = true := by simp; omega
          have d5 : decide ((s.size : Int) < 4) = true := by simp; omega
          clear hn hx
          go_wp2_with fail
          go_ret2
          exact ⟨by rw [HE.out]; rfl, Mod.refl _ _⟩
      · have hn4 : n ≤ s.size := by omega
        have HX0 : RowKit.Hid ((x0 : Int) = if n = 2 then (b : Int) - 192 else if n = 3 then (b : Int) - 224 else (b : Int) - 240) := Lib.hid (by
          rcases hcs with ⟨hn, hx, hb0⟩ | ⟨hn, hx, hb0⟩ | ⟨hn, hx, hb0⟩
          · rw [if_pos hn]; omega
          · rw [if_neg (by omega), if_pos hn]; omega
          · rw [if_neg (by omega), if_neg (by omega)]; omega)
        have hcn : n = 2 ∧ 192 ≤ b ∧ b < 224 ∨ n = 3 ∧ 224 ≤ b ∧ b < 240 ∨ n = 4 ∧ 240 ≤ b ∧ b < 248 := by omega
        clear hcs hng
        rcases hcn with ⟨hn, hb0⟩ | ⟨hn, hb0⟩ | ⟨hn, hb0⟩
        · have d1 : decide (192 ≤ (b : Int)) = true := by simp; omega
          have d2 : decide ((b : Int) < 224) = true := by simp; omega
          have HXE := Lib.hid (show (b : Int) - 192 = x0 by rw [HX0.out, if_pos hn])
          have HNE := Lib.hid (show (2 : Int) = n by omega)
          clear hn HX0
          go_upto_region 14 with fail
          rw [HXE.out, HNE.out]
          clear HXE HNE d1 d2 hb hb0 HB hb256
          have d5 : decide ((s.size : Int) < (n : Int)) = false := by simp; omega
          go_wp2_with fail
          have hn1 : 1 ≤ n := by have := HN1.out; omega
          go_loopg [4, 6] (n - 1) (fun g s4 s6 wx => ∃ k : Nat, g = n - (k + 1) ∧ s4 = .int .i64 (accR s x0 k) ∧ s6 = .int .i64 ((k : Int) + 1) ∧ k + 1 ≤ n ∧ wx = w ∧ RowKit.Hid (∀ j, 1 ≤ j → j < k + 1 → contB (bt s j)))
          case atStart => exact ⟨0, rfl, rfl, rfl, by omega, rfl, Lib.hid (fun j h1 h2 => by omega)⟩
          case round =>
            obtain ⟨k, rfl, rfl, rfl, hk, rfl, hct⟩ := hrel
            have hak := accR_lt s x0 hx128 k (by have := HN1.out; omega)
            by_cases hlk : k + 1 < n
            · have hlt : k + 1 < s.size := by omega
              obtain ⟨c, hc⟩ : ∃ c, (s[k + 1]'hlt).toNat = c := ⟨_, rfl⟩
              have HC := Lib.hid (show bt s (k + 1) = c by rw [← bt_eq s (k + 1) hlt, hc])
              have hc256 : c < 256 := by rw [← HC.out]; exact bt_lt s (k + 1)
              have d6 : decide ((k : Int) + 1 < (n : Int)) = true := by simp; omega
              by_cases hc1 : c < 128
              · have HE := Lib.hid (show R = (0, 0) by rw [HR.out, firstR_cont H0.out HL.out (j := k + 1) (by omega) hlk (by rw [HC.out]; unfold contB; omega)])
                have e1 : decide ((c : Int) < 128) = true := by simp; omega
                clear HL
                go_wp2_with fail
                go_ret2
                exact ⟨by rw [HE.out]; rfl, Mod.refl _ _⟩
              · by_cases hc2 : 191 < c
                · have HE := Lib.hid (show R = (0, 0) by rw [HR.out, firstR_cont H0.out HL.out (j := k + 1) (by omega) hlk (by rw [HC.out]; unfold contB; omega)])
                  have e1 : decide ((c : Int) < 128) = false := by simp; omega
                  have e2 : decide (191 < (c : Int)) = true := by simp; omega
                  clear HL
                  go_wp2_with fail
                  go_ret2
                  exact ⟨by rw [HE.out]; rfl, Mod.refl _ _⟩
                · have e1 : decide ((c : Int) < 128) = false := by simp; omega
                  have e2 : decide (191 < (c : Int)) = false := by simp; omega
                  have HCT := Lib.hid (show ∀ j, 1 ≤ j → j < k + 1 + 1 → contB (bt s j) from fun j h1 h2 => by
                    by_cases hj : j = k + 1
                    · subst hj; rw [HC.out]; unfold contB; omega
                    · exact hct.out j h1 (by omega))
                  have HAC := Lib.hid (show ((accR s x0 (k + 1) : Nat) : Int) = 64 * (accR s x0 k : Int) + (c : Int) - 128 by
                    have : accR s x0 (k + 1) = 64 * accR s x0 k + bt s (k + 1) - 128 := rfl
                    rw [this, HC.out]; omega)
                  clear hct
                  go_wp2_with fail
                  go_roundg (n - (k + 1 + 1))
                  all_goals first
                    | omega
                    | exact ⟨k + 1, rfl, by rw [HAC.out], by go_num, by omega, rfl, HCT⟩
            · obtain rfl : n = k + 1 := by omega
              have HXA := Lib.hid (show R = if isR (accR s x0 k) ∧ encR (accR s x0 k) = (List.range (k + 1)).map (bt s) then (accR s x0 k, k + 1) else (0, 0) by
                rw [HR.out, firstR_all H0.out HL.out hn4 hct.out]; rfl)
              clear hct hlk HL
              go_upto_region 22 with fail
              obtain ⟨XX, hXX⟩ : ∃ XX, XX = accR s x0 k := ⟨_, rfl⟩
              rw [← hXX]
              rw [← hXX] at HXA hak
              have hX := hak
              clear hXX hak d5
              obtain ⟨WW, rfl⟩ : ∃ WW, WW = wr := ⟨_, rfl⟩
              have hbn : ¬ ((0 ≤ (k : Int) + 1 → (s.size : Int) < (k : Int) + 1)) := by omega
              have hw32 : IntKind.i32.wrap (XX : Int) = XX := by rw [IntKind.wrap_i32]; omega
              cases hv : Lib.validRune (XX : Int)
              · have HE := Lib.hid (show R = (0, 0) by rw [HXA.out, if_neg (fun e => by have := (isR_valid XX).1 e.1; rw [hv] at this; cases this)])
                clear HXA
                refine wp_region_held_drew (S := fun w' => Mine.Mod none_ WW w') (by kernel_rfl) (Mine.Mod.drew (Mine.Mod.refl none_ WW)) (fun hS => ?_)
                refine wpAnyH_take (i := 0) (v := .int .i64 (XX : Int)) rfl (by kernel_rfl) (by kernel_rfl) (by kernel_rfl) (fun _ _ _ h => h) (Or.inl ⟨by kernel_rfl, ?_⟩) hS ?_
                · rintro w' _; go_simp
                try simp only [Act.put, List.setIfInBounds_toArray]
                refine wpAnyH_take (i := 1) (v := .int .i32 (XX : Int)) rfl (by kernel_rfl) (by kernel_rfl) (by kernel_rfl) (fun _ _ _ h => h) (Or.inl ⟨by kernel_rfl, ?_⟩) hS ?_
                · rintro w' _; go_simp
                try simp only [Act.put]
                refine wpAnyH_ready (rs := [2]) (by kernel_rfl) (by simp) (AllReadyH.cons rfl (fun K hK => ?_) <| AllReadyH.nil)
                go_simp
                refine (ris_any (XX : Int) _).mono ?_
                rintro e w1 ⟨rfl, rfl⟩
                rw [hv]
                refine hK.out _ _ hS (fun hS => ?_)
                clear hK K
                try simp only [Act.put, List.setIfInBounds_toArray, List.set_cons_zero, List.set_cons_succ]
                refine wpAnyH_take (i := 3) (v := .bool true) rfl (by kernel_rfl) (by kernel_rfl) (by kernel_rfl) (fun _ _ _ h => h) (Or.inl ⟨by kernel_rfl, ?_⟩) hS ?_
                · rintro w' _; go_simp
                try simp only [Act.put, List.setIfInBounds_toArray]
                refine wpAnyH_take (i := 4) (v := .bool true) rfl (by kernel_rfl) (by kernel_rfl) (by kernel_rfl) (fun _ _ _ h => h) (Or.inl ⟨by kernel_rfl, ?_⟩) hS ?_
                · rintro w' _; go_simp
                try simp only [Act.put]
                refine wpAnyH_take (i := 5) (v := undef) rfl (by kernel_rfl) (by kernel_rfl) (by kernel_rfl) (fun _ _ _ h => h) (Or.inr ⟨by kernel_rfl, rfl⟩) hS ?_
                try simp only [Act.put]
                refine wpAnyH_take (i := 6) (v := undef) rfl (by kernel_rfl) (by kernel_rfl) (by kernel_rfl) (fun _ _ _ h => h) (Or.inr ⟨by kernel_rfl, rfl⟩) hS ?_
                try simp only [Act.put]
                refine wpAnyH_take (i := 7) (v := undef) rfl (by kernel_rfl) (by kernel_rfl) (by kernel_rfl) (fun _ _ _ h => h) (Or.inr ⟨by kernel_rfl, rfl⟩) hS ?_
                try simp only [Act.put]
                refine wpAnyH_take (i := 8) (v := undef) rfl (by kernel_rfl) (by kernel_rfl) (by kernel_rfl) (fun _ _ _ h => h) (Or.inr ⟨by kernel_rfl, rfl⟩) hS ?_
                try simp only [Act.put]
                refine wpAnyH_take (i := 9) (v := undef) rfl (by kernel_rfl) (by kernel_rfl) (by kernel_rfl) (fun _ _ _ h => h) (Or.inr ⟨by kernel_rfl, rfl⟩) hS ?_
                try simp only [Act.put]
                refine wpAnyH_take (i := 10) (v := undef) rfl (by kernel_rfl) (by kernel_rfl) (by kernel_rfl) (fun _ _ _ h => h) (Or.inr ⟨by kernel_rfl, rfl⟩) hS ?_
                try simp only [Act.put]
                refine wpAnyH_take (i := 11) (v := undef) rfl (by kernel_rfl) (by kernel_rfl) (by kernel_rfl) (fun _ _ _ h => h) (Or.inr ⟨by kernel_rfl, rfl⟩) hS ?_
                try simp only [Act.put]
                refine wpAnyH_take (i := 12) (v := undef) rfl (by kernel_rfl) (by kernel_rfl) (by kernel_rfl) (fun _ _ _ h => h) (Or.inr ⟨by kernel_rfl, rfl⟩) hS ?_
                try simp only [Act.put]
                refine wpAnyH_take (i := 13) (v := .bool true) rfl (by kernel_rfl) (by kernel_rfl) (by kernel_rfl) (fun _ _ _ h => h) (Or.inl ⟨by kernel_rfl, ?_⟩) hS ?_
                · rintro w' _; go_simp
                try simp only [Act.put]
                refine wpAnyH_done (by kernel_rfl) ?_ _
                try simp only [List.getElem_toArray, List.getElem_cons_succ, List.getElem_cons_zero]
                try simp only [List.setIfInBounds_toArray, List.set_cons_zero, List.set_cons_succ]
                have MF := Lib.hid hS
                clear hS
                go_wp2_with fail
                go_ret2
                exact ⟨by rw [HE.out]; rfl, MF.out⟩
              · have hXr : isR XX := (isR_valid XX).2 hv
                have HB8 := Lib.hid (encR_u8 XX hXr)
                obtain ⟨A, hA⟩ : ∃ A : ByteArray, A = ⟨((encR XX).map UInt8.ofNat).toArray⟩ := ⟨_, rfl⟩
                have HAE := Lib.hid (show A = s.extract 0 (k + 1) ↔ encR XX = (List.range (k + 1)).map (bt s) from by rw [hA]; exact bytes_eq s (k + 1) hn4 _ (fun x hx => HB8.out x hx))
                have HA := Lib.hid hA
                have hX2 : XX ≤ 1114111 := hXr.1
                clear hA
                refine wp_region_held_drew (S := fun w' => Mine.Mod none_ WW w') (by kernel_rfl) (Mine.Mod.drew (Mine.Mod.refl none_ WW)) (fun hS => ?_)
                refine wpAnyH_take (i := 0) (v := .int .i64 (XX : Int)) rfl (by kernel_rfl) (by kernel_rfl) (by kernel_rfl) (fun _ _ _ h => h) (Or.inl ⟨by kernel_rfl, ?_⟩) hS ?_
                · rintro w' _; go_simp
                try simp only [Act.put, List.setIfInBounds_toArray]
                refine wpAnyH_take (i := 1) (v := .int .i32 (XX : Int)) rfl (by kernel_rfl) (by kernel_rfl) (by kernel_rfl) (fun _ _ _ h => h) (Or.inl ⟨by kernel_rfl, ?_⟩) hS ?_
                · rintro w' _; go_simp
                try simp only [Act.put]
                refine wpAnyH_ready (rs := [2]) (by kernel_rfl) (by simp) (AllReadyH.cons rfl (fun K hK => ?_) <| AllReadyH.nil)
                go_simp
                refine (ris_any (XX : Int) _).mono ?_
                rintro e w1 ⟨rfl, rfl⟩
                rw [hv]
                refine hK.out _ _ hS (fun hS => ?_)
                clear hK K
                try simp only [Act.put, List.setIfInBounds_toArray, List.set_cons_zero, List.set_cons_succ]
                refine wpAnyH_take (i := 3) (v := .bool false) rfl (by kernel_rfl) (by kernel_rfl) (by kernel_rfl) (fun _ _ _ h => h) (Or.inl ⟨by kernel_rfl, ?_⟩) hS ?_
                · rintro w' _; go_simp
                try simp only [Act.put, List.setIfInBounds_toArray]
                refine wpAnyH_take (i := 4) (v := .bool false) rfl (by kernel_rfl) (by kernel_rfl) (by kernel_rfl) (fun _ _ _ h => h) (Or.inl ⟨by kernel_rfl, ?_⟩) hS ?_
                · rintro w' _; go_simp
                try simp only [Act.put]
                refine wpAnyH_take (i := 5) (v := .int .i64 (XX : Int)) rfl (by kernel_rfl) (by kernel_rfl) (by kernel_rfl) (fun _ _ _ h => h) (Or.inl ⟨by kernel_rfl, ?_⟩) hS ?_
                · rintro w' _; go_simp
                try simp only [Act.put]
                refine wpAnyH_take (i := 6) (v := .int .i32 (XX : Int)) rfl (by kernel_rfl) (by kernel_rfl) (by kernel_rfl) (fun _ _ _ h => h) (Or.inl ⟨by kernel_rfl, ?_⟩) hS ?_
                · rintro w' _; go_simp
                try simp only [Act.put]
                refine wpAnyH_take (i := 9) (v := .string s) rfl (by kernel_rfl) (by kernel_rfl) (by kernel_rfl) (fun _ _ _ h => h) (Or.inl ⟨by kernel_rfl, ?_⟩) hS ?_
                · rintro w' _; go_simp
                try simp only [Act.put]
                refine wpAnyH_take (i := 10) (v := .int .i64 ((k : Int) + 1)) rfl (by kernel_rfl) (by kernel_rfl) (by kernel_rfl) (fun _ _ _ h => h) (Or.inl ⟨by kernel_rfl, ?_⟩) hS ?_
                · rintro w' _; go_simp
                try simp only [Act.put]
                refine wpAnyH_take (i := 11) (v := .string (s.extract 0 (k + 1))) rfl (by kernel_rfl) (by kernel_rfl) (by kernel_rfl) (fun _ _ _ h => h) (Or.inl ⟨by kernel_rfl, ?_⟩) hS ?_
                · rintro w' _; go_simp <;> (intro h; exact absurd h hbn)
                try simp only [Act.put]
                refine wpAnyH_ready (rs := [7]) (by kernel_rfl) (by simp) (AllReadyH.cons rfl (fun K hK => ?_) <| AllReadyH.nil)
                rw [if_pos (by kernel_rfl)]
                go_simp
                refine (rbytes_any XX _ hX2).mono ?_
                rintro e w2 ⟨⟨g, rfl, hgw, kg⟩, m2⟩
                have hcv : (convert 184 9 (.slice (some ⟨g, 0, none⟩) (encR XX).length (encR XX).length)).run Tryz.prog w2 = .ok (.string A) w2 := by
                  have hl : ((encR XX).map UInt8.ofNat).length = (encR XX).length := List.length_map ..
                  rw [HA.out, ← hl]
                  refine run_convert_bytes_back w2 _ _ _ ⟨g, 0, none⟩ _ ((encR XX).map UInt8.ofNat) Tryz.underlying184 Tryz.underlying5 Tryz.underlying9 (fun j hj => ?_)
                  have ea : (⟨g, 0, none⟩ : Addr).add j = ⟨g, j, none⟩ := by rw [Addr.add_lit, Nat.zero_add]
                  rw [ea, kg.cell]
                  exact encCs_at XX HB8.out j hj
                have HCV := Lib.hid hcv
                clear hcv kg hgw
                obtain ⟨nb, hnb⟩ : ∃ nb, nb = (encR XX).length := ⟨_, rfl⟩
                rw [← hnb] at HCV ⊢
                clear hnb
                refine hK.out _ _ (hS.trans m2) (fun hS => ?_)
                clear hK K m2
                try simp only [Act.put, List.setIfInBounds_toArray, List.set_cons_zero, List.set_cons_succ]
                have hcv := HCV.out
                refine wpAnyH_ready (rs := [8]) (by kernel_rfl) (by simp) (AllReadyH.cons rfl (fun K hK => ?_) <| AllReadyH.nil)
                rw [if_pos (by kernel_rfl)]
                go_simp
                refine hK.out _ _ hS (fun hS => ?_)
                clear hK K hcv HCV
                try simp only [Act.put, List.setIfInBounds_toArray, List.set_cons_zero, List.set_cons_succ]
                have MF := Lib.hid hS
                by_cases hq : A = s.extract 0 (k + 1)
                · have HE := Lib.hid (show R = (XX, k + 1) by rw [HXA.out, if_pos ⟨hXr, HAE.out.1 hq⟩])
                  have hqb : A.toList = (s.extract 0 (k + 1)).toList := by rw [hq]
                  clear HXA HAE HA hq
                  refine wpAnyH_take (i := 12) (v := .bool false) rfl (by kernel_rfl) (by kernel_rfl) (by kernel_rfl) (fun _ _ _ h => h) (Or.inl ⟨by kernel_rfl, ?_⟩) hS ?_
                  · rintro w' _; go_simp
                  try simp only [Act.put, List.setIfInBounds_toArray]
                  refine wpAnyH_take (i := 13) (v := .bool false) rfl (by kernel_rfl) (by kernel_rfl) (by kernel_rfl) (fun _ _ _ h => h) (Or.inl ⟨by kernel_rfl, ?_⟩) hS ?_
                  · rintro w' _; go_simp
                  try simp only [Act.put]
                  refine wpAnyH_done (by kernel_rfl) ?_ _
                  try simp only [List.getElem_toArray, List.getElem_cons_succ, List.getElem_cons_zero]
                  try simp only [List.setIfInBounds_toArray, List.set_cons_zero, List.set_cons_succ]
                  clear hS
                  go_wp2_with fail
                  go_ret2
                  exact ⟨by rw [HE.out]; rfl, MF.out⟩
                · have HE := Lib.hid (show R = (0, 0) by rw [HXA.out, if_neg (fun e => hq (HAE.out.2 e.2))])
                  have hqb : ¬ A.toList = (s.extract 0 (k + 1)).toList := fun e => hq (ba_inj e)
                  clear HXA HAE HA hq
                  refine wpAnyH_take (i := 12) (v := .bool true) rfl (by kernel_rfl) (by kernel_rfl) (by kernel_rfl) (fun _ _ _ h => h) (Or.inl ⟨by kernel_rfl, ?_⟩) hS ?_
                  · rintro w' _; go_simp
                  try simp only [Act.put, List.setIfInBounds_toArray]
                  refine wpAnyH_take (i := 13) (v := .bool true) rfl (by kernel_rfl) (by kernel_rfl) (by kernel_rfl) (fun _ _ _ h => h) (Or.inl ⟨by kernel_rfl, ?_⟩) hS ?_
                  · rintro w' _; go_simp
                  try simp only [Act.put]
                  refine wpAnyH_done (by kernel_rfl) ?_ _
                  try simp only [List.getElem_toArray, List.getElem_cons_succ, List.getElem_cons_zero]
                  try simp only [List.setIfInBounds_toArray, List.set_cons_zero, List.set_cons_succ]
                  clear hS
                  go_wp2_with fail
                  go_ret2
                  exact ⟨by rw [HE.out]; rfl, MF.out⟩
        · have d1 : decide (192 ≤ (b : Int)) = true := by simp; omega
          have d2 : decide ((b : Int) < 224) = false := by simp; omega
          have d3 : decide (224 ≤ (b : Int)) = true := by simp; omega
          have d4 : decide ((b : Int) < 240) = true := by simp; omega
          have HXE := Lib.hid (show (b : Int) - 224 = x0 by rw [HX0.out, if_neg (by omega), if_pos hn])
          have HNE := Lib.hid (show (3 : Int) = n by omega)
          clear hn HX0
          go_upto_region 14 with fail
          rw [HXE.out, HNE.out]
          clear HXE HNE d1 d2 d3 d4 hb hb0 HB hb256
          have d5 : decide ((s.size : Int) < (n : Int)) = false := by simp; omega
          go_wp2_with fail
          have hn1 : 1 ≤ n := by have := HN1.out; omega
          go_loopg [4, 6] (n - 1) (fun g s4 s6 wx => ∃ k : Nat, g = n - (k + 1) ∧ s4 = .int .i64 (accR s x0 k) ∧ s6 = .int .i64 ((k : Int) + 1) ∧ k + 1 ≤ n ∧ wx = w ∧ RowKit.Hid (∀ j, 1 ≤ j → j < k + 1 → contB (bt s j)))
          case atStart => exact ⟨0, rfl, rfl, rfl, by omega, rfl, Lib.hid (fun j h1 h2 => by omega)⟩
          case round =>
            obtain ⟨k, rfl, rfl, rfl, hk, rfl, hct⟩ := hrel
            have hak := accR_lt s x0 hx128 k (by have := HN1.out; omega)
            by_cases hlk : k + 1 < n
            · have hlt : k + 1 < s.size := by omega
              obtain ⟨c, hc⟩ : ∃ c, (s[k + 1]'hlt).toNat = c := ⟨_, rfl⟩
              have HC := Lib.hid (show bt s (k + 1) = c by rw [← bt_eq s (k + 1) hlt, hc])
              have hc256 : c < 256 := by rw [← HC.out]; exact bt_lt s (k + 1)
              have d6 : decide ((k : Int) + 1 < (n : Int)) = true := by simp; omega
              by_cases hc1 : c < 128
              · have HE := Lib.hid (show R = (0, 0) by rw [HR.out, firstR_cont H0.out HL.out (j := k + 1) (by omega) hlk (by rw [HC.out]; unfold contB; omega)])
                have e1 : decide ((c : Int) < 128) = true := by simp; omega
                clear HL
                go_wp2_with fail
                go_ret2
                exact ⟨by rw [HE.out]; rfl, Mod.refl _ _⟩
              · by_cases hc2 : 191 < c
                · have HE := Lib.hid (show R = (0, 0) by rw [HR.out, firstR_cont H0.out HL.out (j := k + 1) (by omega) hlk (by rw [HC.out]; unfold contB; omega)])
                  have e1 : decide ((c : Int) < 128) = false := by simp; omega
                  have e2 : decide (191 < (c : Int)) = true := by simp; omega
                  clear HL
                  go_wp2_with fail
                  go_ret2
                  exact ⟨by rw [HE.out]; rfl, Mod.refl _ _⟩
                · have e1 : decide ((c : Int) < 128) = false := by simp; omega
                  have e2 : decide (191 < (c : Int)) = false := by simp; omega
                  have HCT := Lib.hid (show ∀ j, 1 ≤ j → j < k + 1 + 1 → contB (bt s j) from fun j h1 h2 => by
                    by_cases hj : j = k + 1
                    · subst hj; rw [HC.out]; unfold contB; omega
                    · exact hct.out j h1 (by omega))
                  have HAC := Lib.hid (show ((accR s x0 (k + 1) : Nat) : Int) = 64 * (accR s x0 k : Int) + (c : Int) - 128 by
                    have : accR s x0 (k + 1) = 64 * accR s x0 k + bt s (k + 1) - 128 := rfl
                    rw [this, HC.out]; omega)
                  clear hct
                  go_wp2_with fail
                  go_roundg (n - (k + 1 + 1))
                  all_goals first
                    | omega
                    | exact ⟨k + 1, rfl, by rw [HAC.out], by go_num, by omega, rfl, HCT⟩
            · obtain rfl : n = k + 1 := by omega
              have HXA := Lib.hid (show R = if isR (accR s x0 k) ∧ encR (accR s x0 k) = (List.range (k + 1)).map (bt s) then (accR s x0 k, k + 1) else (0, 0) by
                rw [HR.out, firstR_all H0.out HL.out hn4 hct.out]; rfl)
              clear hct hlk HL
              go_upto_region 22 with fail
              obtain ⟨XX, hXX⟩ : ∃ XX, XX = accR s x0 k := ⟨_, rfl⟩
              rw [← hXX]
              rw [← hXX] at HXA hak
              have hX := hak
              clear hXX hak d5
              obtain ⟨WW, rfl⟩ : ∃ WW, WW = wr := ⟨_, rfl⟩
              have hbn : ¬ ((0 ≤ (k : Int) + 1 → (s.size : Int) < (k : Int) + 1)) := by omega
              have hw32 : IntKind.i32.wrap (XX : Int) = XX := by rw [IntKind.wrap_i32]; omega
              cases hv : Lib.validRune (XX : Int)
              · have HE := Lib.hid (show R = (0, 0) by rw [HXA.out, if_neg (fun e => by have := (isR_valid XX).1 e.1; rw [hv] at this; cases this)])
                clear HXA
                refine wp_region_held_drew (S := fun w' => Mine.Mod none_ WW w') (by kernel_rfl) (Mine.Mod.drew (Mine.Mod.refl none_ WW)) (fun hS => ?_)
                refine wpAnyH_take (i := 0) (v := .int .i64 (XX : Int)) rfl (by kernel_rfl) (by kernel_rfl) (by kernel_rfl) (fun _ _ _ h => h) (Or.inl ⟨by kernel_rfl, ?_⟩) hS ?_
                · rintro w' _; go_simp
                try simp only [Act.put, List.setIfInBounds_toArray]
                refine wpAnyH_take (i := 1) (v := .int .i32 (XX : Int)) rfl (by kernel_rfl) (by kernel_rfl) (by kernel_rfl) (fun _ _ _ h => h) (Or.inl ⟨by kernel_rfl, ?_⟩) hS ?_
                · rintro w' _; go_simp
                try simp only [Act.put]
                refine wpAnyH_ready (rs := [2]) (by kernel_rfl) (by simp) (AllReadyH.cons rfl (fun K hK => ?_) <| AllReadyH.nil)
                go_simp
                refine (ris_any (XX : Int) _).mono ?_
                rintro e w1 ⟨rfl, rfl⟩
                rw [hv]
                refine hK.out _ _ hS (fun hS => ?_)
                clear hK K
                try simp only [Act.put, List.setIfInBounds_toArray, List.set_cons_zero, List.set_cons_succ]
                refine wpAnyH_take (i := 3) (v := .bool true) rfl (by kernel_rfl) (by kernel_rfl) (by kernel_rfl) (fun _ _ _ h => h) (Or.inl ⟨by kernel_rfl, ?_⟩) hS ?_
                · rintro w' _; go_simp
                try simp only [Act.put, List.setIfInBounds_toArray]
                refine wpAnyH_take (i := 4) (v := .bool true) rfl (by kernel_rfl) (by kernel_rfl) (by kernel_rfl) (fun _ _ _ h => h) (Or.inl ⟨by kernel_rfl, ?_⟩) hS ?_
                · rintro w' _; go_simp
                try simp only [Act.put]
                refine wpAnyH_take (i := 5) (v := undef) rfl (by kernel_rfl) (by kernel_rfl) (by kernel_rfl) (fun _ _ _ h => h) (Or.inr ⟨by kernel_rfl, rfl⟩) hS ?_
                try simp only [Act.put]
                refine wpAnyH_take (i := 6) (v := undef) rfl (by kernel_rfl) (by kernel_rfl) (by kernel_rfl) (fun _ _ _ h => h) (Or.inr ⟨by kernel_rfl, rfl⟩) hS ?_
                try simp only [Act.put]
                refine wpAnyH_take (i := 7) (v := undef) rfl (by kernel_rfl) (by kernel_rfl) (by kernel_rfl) (fun _ _ _ h => h) (Or.inr ⟨by kernel_rfl, rfl⟩) hS ?_
                try simp only [Act.put]
                refine wpAnyH_take (i := 8) (v := undef) rfl (by kernel_rfl) (by kernel_rfl) (by kernel_rfl) (fun _ _ _ h => h) (Or.inr ⟨by kernel_rfl, rfl⟩) hS ?_
                try simp only [Act.put]
                refine wpAnyH_take (i := 9) (v := undef) rfl (by kernel_rfl) (by kernel_rfl) (by kernel_rfl) (fun _ _ _ h => h) (Or.inr ⟨by kernel_rfl, rfl⟩) hS ?_
                try simp only [Act.put]
                refine wpAnyH_take (i := 10) (v := undef) rfl (by kernel_rfl) (by kernel_rfl) (by kernel_rfl) (fun _ _ _ h => h) (Or.inr ⟨by kernel_rfl, rfl⟩) hS ?_
                try simp only [Act.put]
                refine wpAnyH_take (i := 11) (v := undef) rfl (by kernel_rfl) (by kernel_rfl) (by kernel_rfl) (fun _ _ _ h => h) (Or.inr ⟨by kernel_rfl, rfl⟩) hS ?_
                try simp only [Act.put]
                refine wpAnyH_take (i := 12) (v := undef) rfl (by kernel_rfl) (by kernel_rfl) (by kernel_rfl) (fun _ _ _ h => h) (Or.inr ⟨by kernel_rfl, rfl⟩) hS ?_
                try simp only [Act.put]
                refine wpAnyH_take (i := 13) (v := .bool true) rfl (by kernel_rfl) (by kernel_rfl) (by kernel_rfl) (fun _ _ _ h => h) (Or.inl ⟨by kernel_rfl, ?_⟩) hS ?_
                · rintro w' _; go_simp
                try simp only [Act.put]
                refine wpAnyH_done (by kernel_rfl) ?_ _
                try simp only [List.getElem_toArray, List.getElem_cons_succ, List.getElem_cons_zero]
                try simp only [List.setIfInBounds_toArray, List.set_cons_zero, List.set_cons_succ]
                have MF := Lib.hid hS
                clear hS
                go_wp2_with fail
                go_ret2
                exact ⟨by rw [HE.out]; rfl, MF.out⟩
              · have hXr : isR XX := (isR_valid XX).2 hv
                have HB8 := Lib.hid (encR_u8 XX hXr)
                obtain ⟨A, hA⟩ : ∃ A : ByteArray, A = ⟨((encR XX).map UInt8.ofNat).toArray⟩ := ⟨_, rfl⟩
                have HAE := Lib.hid (show A = s.extract 0 (k + 1) ↔ encR XX = (List.range (k + 1)).map (bt s) from by rw [hA]; exact bytes_eq s (k + 1) hn4 _ (fun x hx => HB8.out x hx))
                have HA := Lib.hid hA
                have hX2 : XX ≤ 1114111 := hXr.1
                clear hA
                refine wp_region_held_drew (S := fun w' => Mine.Mod none_ WW w') (by kernel_rfl) (Mine.Mod.drew (Mine.Mod.refl none_ WW)) (fun hS => ?_)
                refine wpAnyH_take (i := 0) (v := .int .i64 (XX : Int)) rfl (by kernel_rfl) (by kernel_rfl) (by kernel_rfl) (fun _ _ _ h => h) (Or.inl ⟨by kernel_rfl, ?_⟩) hS ?_
                · rintro w' _; go_simp
                try simp only [Act.put, List.setIfInBounds_toArray]
                refine wpAnyH_take (i := 1) (v := .int .i32 (XX : Int)) rfl (by kernel_rfl) (by kernel_rfl) (by kernel_rfl) (fun _ _ _ h => h) (Or.inl ⟨by kernel_rfl, ?_⟩) hS ?_
                · rintro w' _; go_simp
                try simp only [Act.put]
                refine wpAnyH_ready (rs := [2]) (by kernel_rfl) (by simp) (AllReadyH.cons rfl (fun K hK => ?_) <| AllReadyH.nil)
                go_simp
                refine (ris_any (XX : Int) _).mono ?_
                rintro e w1 ⟨rfl, rfl⟩
                rw [hv]
                refine hK.out _ _ hS (fun hS => ?_)
                clear hK K
                try simp only [Act.put, List.setIfInBounds_toArray, List.set_cons_zero, List.set_cons_succ]
                refine wpAnyH_take (i := 3) (v := .bool false) rfl (by kernel_rfl) (by kernel_rfl) (by kernel_rfl) (fun _ _ _ h => h) (Or.inl ⟨by kernel_rfl, ?_⟩) hS ?_
                · rintro w' _; go_simp
                try simp only [Act.put, List.setIfInBounds_toArray]
                refine wpAnyH_take (i := 4) (v := .bool false) rfl (by kernel_rfl) (by kernel_rfl) (by kernel_rfl) (fun _ _ _ h => h) (Or.inl ⟨by kernel_rfl, ?_⟩) hS ?_
                · rintro w' _; go_simp
                try simp only [Act.put]
                refine wpAnyH_take (i := 5) (v := .int .i64 (XX : Int)) rfl (by kernel_rfl) (by kernel_rfl) (by kernel_rfl) (fun _ _ _ h => h) (Or.inl ⟨by kernel_rfl, ?_⟩) hS ?_
                · rintro w' _; go_simp
                try simp only [Act.put]
                refine wpAnyH_take (i := 6) (v := .int .i32 (XX : Int)) rfl (by kernel_rfl) (by kernel_rfl) (by kernel_rfl) (fun _ _ _ h => h) (Or.inl ⟨by kernel_rfl, ?_⟩) hS ?_
                · rintro w' _; go_simp
                try simp only [Act.put]
                refine wpAnyH_take (i := 9) (v := .string s) rfl (by kernel_rfl) (by kernel_rfl) (by kernel_rfl) (fun _ _ _ h => h) (Or.inl ⟨by kernel_rfl, ?_⟩) hS ?_
                · rintro w' _; go_simp
                try simp only [Act.put]
                refine wpAnyH_take (i := 10) (v := .int .i64 ((k : Int) + 1)) rfl (by kernel_rfl) (by kernel_rfl) (by kernel_rfl) (fun _ _ _ h => h) (Or.inl ⟨by kernel_rfl, ?_⟩) hS ?_
                · rintro w' _; go_simp
                try simp only [Act.put]
                refine wpAnyH_take (i := 11) (v := .string (s.extract 0 (k + 1))) rfl (by kernel_rfl) (by kernel_rfl) (by kernel_rfl) (fun _ _ _ h => h) (Or.inl ⟨by kernel_rfl, ?_⟩) hS ?_
                · rintro w' _; go_simp <;> (intro h; exact absurd h hbn)
                try simp only [Act.put]
                refine wpAnyH_ready (rs := [7]) (by kernel_rfl) (by simp) (AllReadyH.cons rfl (fun K hK => ?_) <| AllReadyH.nil)
                rw [if_pos (by kernel_rfl)]
                go_simp
                refine (rbytes_any XX _ hX2).mono ?_
                rintro e w2 ⟨⟨g, rfl, hgw, kg⟩, m2⟩
                have hcv : (convert 184 9 (.slice (some ⟨g, 0, none⟩) (encR XX).length (encR XX).length)).run Tryz.prog w2 = .ok (.string A) w2 := by
                  have hl : ((encR XX).map UInt8.ofNat).length = (encR XX).length := List.length_map ..
                  rw [HA.out, ← hl]
                  refine run_convert_bytes_back w2 _ _ _ ⟨g, 0, none⟩ _ ((encR XX).map UInt8.ofNat) Tryz.underlying184 Tryz.underlying5 Tryz.underlying9 (fun j hj => ?_)
                  have ea : (⟨g, 0, none⟩ : Addr).add j = ⟨g, j, none⟩ := by rw [Addr.add_lit, Nat.zero_add]
                  rw [ea, kg.cell]
                  exact encCs_at XX HB8.out j hj
                have HCV := Lib.hid hcv
                clear hcv kg hgw
                obtain ⟨nb, hnb⟩ : ∃ nb, nb = (encR XX).length := ⟨_, rfl⟩
                rw [← hnb] at HCV ⊢
                clear hnb
                refine hK.out _ _ (hS.trans m2) (fun hS => ?_)
                clear hK K m2
                try simp only [Act.put, List.setIfInBounds_toArray, List.set_cons_zero, List.set_cons_succ]
                have hcv := HCV.out
                refine wpAnyH_ready (rs := [8]) (by kernel_rfl) (by simp) (AllReadyH.cons rfl (fun K hK => ?_) <| AllReadyH.nil)
                rw [if_pos (by kernel_rfl)]
                go_simp
                refine hK.out _ _ hS (fun hS => ?_)
                clear hK K hcv HCV
                try simp only [Act.put, List.setIfInBounds_toArray, List.set_cons_zero, List.set_cons_succ]
                have MF := Lib.hid hS
                by_cases hq : A = s.extract 0 (k + 1)
                · have HE := Lib.hid (show R = (XX, k + 1) by rw [HXA.out, if_pos ⟨hXr, HAE.out.1 hq⟩])
                  have hqb : A.toList = (s.extract 0 (k + 1)).toList := by rw [hq]
                  clear HXA HAE HA hq
                  refine wpAnyH_take (i := 12) (v := .bool false) rfl (by kernel_rfl) (by kernel_rfl) (by kernel_rfl) (fun _ _ _ h => h) (Or.inl ⟨by kernel_rfl, ?_⟩) hS ?_
                  · rintro w' _; go_simp
                  try simp only [Act.put, List.setIfInBounds_toArray]
                  refine wpAnyH_take (i := 13) (v := .bool false) rfl (by kernel_rfl) (by kernel_rfl) (by kernel_rfl) (fun _ _ _ h => h) (Or.inl ⟨by kernel_rfl, ?_⟩) hS ?_
                  · rintro w' _; go_simp
                  try simp only [Act.put]
                  refine wpAnyH_done (by kernel_rfl) ?_ _
                  try simp only [List.getElem_toArray, List.getElem_cons_succ, List.getElem_cons_zero]
                  try simp only [List.setIfInBounds_toArray, List.set_cons_zero, List.set_cons_succ]
                  clear hS
                  go_wp2_with fail
                  go_ret2
                  exact ⟨by rw [HE.out]; rfl, MF.out⟩
                · have HE := Lib.hid (show R = (0, 0) by rw [HXA.out, if_neg (fun e => hq (HAE.out.2 e.2))])
                  have hqb : ¬ A.toList = (s.extract 0 (k + 1)).toList := fun e => hq (ba_inj e)
                  clear HXA HAE HA hq
                  refine wpAnyH_take (i := 12) (v := .bool true) rfl (by kernel_rfl) (by kernel_rfl) (by kernel_rfl) (fun _ _ _ h => h) (Or.inl ⟨by kernel_rfl, ?_⟩) hS ?_
                  · rintro w' _; go_simp
                  try simp only [Act.put, List.setIfInBounds_toArray]
                  refine wpAnyH_take (i := 13) (v := .bool true) rfl (by kernel_rfl) (by kernel_rfl) (by kernel_rfl) (fun _ _ _ h => h) (Or.inl ⟨by kernel_rfl, ?_⟩) hS ?_
                  · rintro w' _; go_simp
                  try simp only [Act.put]
                  refine wpAnyH_done (by kernel_rfl) ?_ _
                  try simp only [List.getElem_toArray, List.getElem_cons_succ, List.getElem_cons_zero]
                  try simp only [List.setIfInBounds_toArray, List.set_cons_zero, List.set_cons_succ]
                  clear hS
                  go_wp2_with fail
                  go_ret2
                  exact ⟨by rw [HE.out]; rfl, MF.out⟩
        · have d1 : decide (192 ≤ (b : Int)) = true := by simp; omega
          have d2 : decide ((b : Int) < 224) = false := by simp; omega
          have d3 : decide (224 ≤ (b : Int)) = true := by simp; omega
          have d4 : decide ((b : Int) < 240) = false := by simp; omega
          have d6 : decide (240 ≤ (b : Int)) = true := by simp; omega
          have d7 : decide ((b : Int) < 248) = true := by simp; omega
          have HXE := Lib.hid (show (b : Int) - 240 = x0 by rw [HX0.out, if_neg (by omega), if_neg (by omega)])
          have HNE := Lib.hid (show (4 : Int) = n by omega)
          clear hn HX0
          go_upto_region 14 with fail
          rw [HXE.out, HNE.out]
          clear HXE HNE d1 d2 d3 d4 d6 d7 hb hb0 HB hb256
          have d5 : decide ((s.size : Int) < (n : Int)) = false := by simp; omega
          go_wp2_with fail
          have hn1 : 1 ≤ n := by have := HN1.out; omega
          go_loopg [4, 6] (n - 1) (fun g s4 s6 wx => ∃ k : Nat, g = n - (k + 1) ∧ s4 = .int .i64 (accR s x0 k) ∧ s6 = .int .i64 ((k : Int) + 1) ∧ k + 1 ≤ n ∧ wx = w ∧ RowKit.Hid (∀ j, 1 ≤ j → j < k + 1 → contB (bt s j)))
          case atStart => exact ⟨0, rfl, rfl, rfl, by omega, rfl, Lib.hid (fun j h1 h2 => by omega)⟩
          case round =>
            obtain ⟨k, rfl, rfl, rfl, hk, rfl, hct⟩ := hrel
            have hak := accR_lt s x0 hx128 k (by have := HN1.out; omega)
            by_cases hlk : k + 1 < n
            · have hlt : k + 1 < s.size := by omega
              obtain ⟨c, hc⟩ : ∃ c, (s[k + 1]'hlt).toNat = c := ⟨_, rfl⟩
              have HC := Lib.hid (show bt s (k + 1) = c by rw [← bt_eq s (k + 1) hlt, hc])
              have hc256 : c < 256 := by rw [← HC.out]; exact bt_lt s (k + 1)
              have d6 : decide ((k : Int) + 1 < (n : Int)) = true := by simp; omega
              by_cases hc1 : c < 128
              · have HE := Lib.hid (show R = (0, 0) by rw [HR.out, firstR_cont H0.out HL.out (j := k + 1) (by omega) hlk (by rw [HC.out]; unfold contB; omega)])
                have e1 : decide ((c : Int) < 128) = true := by simp; omega
                clear HL
                go_wp2_with fail
                go_ret2
                exact ⟨by rw [HE.out]; rfl, Mod.refl _ _⟩
              · by_cases hc2 : 191 < c
                · have HE := Lib.hid (show R = (0, 0) by rw [HR.out, firstR_cont H0.out HL.out (j := k + 1) (by omega) hlk (by rw [HC.out]; unfold contB; omega)])
                  have e1 : decide ((c : Int) < 128) = false := by simp; omega
                  have e2 : decide (191 < (c : Int)) = true := by simp; omega
                  clear HL
                  go_wp2_with fail
                  go_ret2
                  exact ⟨by rw [HE.out]; rfl, Mod.refl _ _⟩
                · have e1 : decide ((c : Int) < 128) = false := by simp; omega
                  have e2 : decide (191 < (c : Int)) = false := by simp; omega
                  have HCT := Lib.hid (show ∀ j, 1 ≤ j → j < k + 1 + 1 → contB (bt s j) from fun j h1 h2 => by
                    by_cases hj : j = k + 1
                    · subst hj; rw [HC.out]; unfold contB; omega
                    · exact hct.out j h1 (by omega))
                  have HAC := Lib.hid (show ((accR s x0 (k + 1) : Nat) : Int) = 64 * (accR s x0 k : Int) + (c : Int) - 128 by
                    have : accR s x0 (k + 1) = 64 * accR s x0 k + bt s (k + 1) - 128 := rfl
                    rw [this, HC.out]; omega)
                  clear hct
                  go_wp2_with fail
                  go_roundg (n - (k + 1 + 1))
                  all_goals first
                    | omega
                    | exact ⟨k + 1, rfl, by rw [HAC.out], by go_num, by omega, rfl, HCT⟩
            · obtain rfl : n = k + 1 := by omega
              have HXA := Lib.hid (show R = if isR (accR s x0 k) ∧ encR (accR s x0 k) = (List.range (k + 1)).map (bt s) then (accR s x0 k, k + 1) else (0, 0) by
                rw [HR.out, firstR_all H0.out HL.out hn4 hct.out]; rfl)
              clear hct hlk HL
              go_upto_region 22 with fail
              obtain ⟨XX, hXX⟩ : ∃ XX, XX = accR s x0 k := ⟨_, rfl⟩
              rw [← hXX]
              rw [← hXX] at HXA hak
              have hX := hak
              clear hXX hak d5
              obtain ⟨WW, rfl⟩ : ∃ WW, WW = wr := ⟨_, rfl⟩
              have hbn : ¬ ((0 ≤ (k : Int) + 1 → (s.size : Int) < (k : Int) + 1)) := by omega
              have hw32 : IntKind.i32.wrap (XX : Int) = XX := by rw [IntKind.wrap_i32]; omega
              cases hv : Lib.validRune (XX : Int)
              · have HE := Lib.hid (show R = (0, 0) by rw [HXA.out, if_neg (fun e => by have := (isR_valid XX).1 e.1; rw [hv] at this; cases this)])
                clear HXA
                refine wp_region_held_drew (S := fun w' => Mine.Mod none_ WW w') (by kernel_rfl) (Mine.Mod.drew (Mine.Mod.refl none_ WW)) (fun hS => ?_)
                refine wpAnyH_take (i := 0) (v := .int .i64 (XX : Int)) rfl (by kernel_rfl) (by kernel_rfl) (by kernel_rfl) (fun _ _ _ h => h) (Or.inl ⟨by kernel_rfl, ?_⟩) hS ?_
                · rintro w' _; go_simp
                try simp only [Act.put, List.setIfInBounds_toArray]
                refine wpAnyH_take (i := 1) (v := .int .i32 (XX : Int)) rfl (by kernel_rfl) (by kernel_rfl) (by kernel_rfl) (fun _ _ _ h => h) (Or.inl ⟨by kernel_rfl, ?_⟩) hS ?_
                · rintro w' _; go_simp
                try simp only [Act.put]
                refine wpAnyH_ready (rs := [2]) (by kernel_rfl) (by simp) (AllReadyH.cons rfl (fun K hK => ?_) <| AllReadyH.nil)
                go_simp
                refine (ris_any (XX : Int) _).mono ?_
                rintro e w1 ⟨rfl, rfl⟩
                rw [hv]
                refine hK.out _ _ hS (fun hS => ?_)
                clear hK K
                try simp only [Act.put, List.setIfInBounds_toArray, List.set_cons_zero, List.set_cons_succ]
                refine wpAnyH_take (i := 3) (v := .bool true) rfl (by kernel_rfl) (by kernel_rfl) (by kernel_rfl) (fun _ _ _ h => h) (Or.inl ⟨by kernel_rfl, ?_⟩) hS ?_
                · rintro w' _; go_simp
                try simp only [Act.put, List.setIfInBounds_toArray]
                refine wpAnyH_take (i := 4) (v := .bool true) rfl (by kernel_rfl) (by kernel_rfl) (by kernel_rfl) (fun _ _ _ h => h) (Or.inl ⟨by kernel_rfl, ?_⟩) hS ?_
                · rintro w' _; go_simp
                try simp only [Act.put]
                refine wpAnyH_take (i := 5) (v := undef) rfl (by kernel_rfl) (by kernel_rfl) (by kernel_rfl) (fun _ _ _ h => h) (Or.inr ⟨by kernel_rfl, rfl⟩) hS ?_
                try simp only [Act.put]
                refine wpAnyH_take (i := 6) (v := undef) rfl (by kernel_rfl) (by kernel_rfl) (by kernel_rfl) (fun _ _ _ h => h) (Or.inr ⟨by kernel_rfl, rfl⟩) hS ?_
                try simp only [Act.put]
                refine wpAnyH_take (i := 7) (v := undef) rfl (by kernel_rfl) (by kernel_rfl) (by kernel_rfl) (fun _ _ _ h => h) (Or.inr ⟨by kernel_rfl, rfl⟩) hS ?_
                try simp only [Act.put]
                refine wpAnyH_take (i := 8) (v := undef) rfl (by kernel_rfl) (by kernel_rfl) (by kernel_rfl) (fun _ _ _ h => h) (Or.inr ⟨by kernel_rfl, rfl⟩) hS ?_
                try simp only [Act.put]
                refine wpAnyH_take (i := 9) (v := undef) rfl (by kernel_rfl) (by kernel_rfl) (by kernel_rfl) (fun _ _ _ h => h) (Or.inr ⟨by kernel_rfl, rfl⟩) hS ?_
                try simp only [Act.put]
                refine wpAnyH_take (i := 10) (v := undef) rfl (by kernel_rfl) (by kernel_rfl) (by kernel_rfl) (fun _ _ _ h => h) (Or.inr ⟨by kernel_rfl, rfl⟩) hS ?_
                try simp only [Act.put]
                refine wpAnyH_take (i := 11) (v := undef) rfl (by kernel_rfl) (by kernel_rfl) (by kernel_rfl) (fun _ _ _ h => h) (Or.inr ⟨by kernel_rfl, rfl⟩) hS ?_
                try simp only [Act.put]
                refine wpAnyH_take (i := 12) (v := undef) rfl (by kernel_rfl) (by kernel_rfl) (by kernel_rfl) (fun _ _ _ h => h) (Or.inr ⟨by kernel_rfl, rfl⟩) hS ?_
                try simp only [Act.put]
                refine wpAnyH_take (i := 13) (v := .bool true) rfl (by kernel_rfl) (by kernel_rfl) (by kernel_rfl) (fun _ _ _ h => h) (Or.inl ⟨by kernel_rfl, ?_⟩) hS ?_
                · rintro w' _; go_simp
                try simp only [Act.put]
                refine wpAnyH_done (by kernel_rfl) ?_ _
                try simp only [List.getElem_toArray, List.getElem_cons_succ, List.getElem_cons_zero]
                try simp only [List.setIfInBounds_toArray, List.set_cons_zero, List.set_cons_succ]
                have MF := Lib.hid hS
                clear hS
                go_wp2_with fail
                go_ret2
                exact ⟨by rw [HE.out]; rfl, MF.out⟩
              · have hXr : isR XX := (isR_valid XX).2 hv
                have HB8 := Lib.hid (encR_u8 XX hXr)
                obtain ⟨A, hA⟩ : ∃ A : ByteArray, A = ⟨((encR XX).map UInt8.ofNat).toArray⟩ := ⟨_, rfl⟩
                have HAE := Lib.hid (show A = s.extract 0 (k + 1) ↔ encR XX = (List.range (k + 1)).map (bt s) from by rw [hA]; exact bytes_eq s (k + 1) hn4 _ (fun x hx => HB8.out x hx))
                have HA := Lib.hid hA
                have hX2 : XX ≤ 1114111 := hXr.1
                clear hA
                refine wp_region_held_drew (S := fun w' => Mine.Mod none_ WW w') (by kernel_rfl) (Mine.Mod.drew (Mine.Mod.refl none_ WW)) (fun hS => ?_)
                refine wpAnyH_take (i := 0) (v := .int .i64 (XX : Int)) rfl (by kernel_rfl) (by kernel_rfl) (by kernel_rfl) (fun _ _ _ h => h) (Or.inl ⟨by kernel_rfl, ?_⟩) hS ?_
                · rintro w' _; go_simp
                try simp only [Act.put, List.setIfInBounds_toArray]
                refine wpAnyH_take (i := 1) (v := .int .i32 (XX : Int)) rfl (by kernel_rfl) (by kernel_rfl) (by kernel_rfl) (fun _ _ _ h => h) (Or.inl ⟨by kernel_rfl, ?_⟩) hS ?_
                · rintro w' _; go_simp
                try simp only [Act.put]
                refine wpAnyH_ready (rs := [2]) (by kernel_rfl) (by simp) (AllReadyH.cons rfl (fun K hK => ?_) <| AllReadyH.nil)
                go_simp
                refine (ris_any (XX : Int) _).mono ?_
                rintro e w1 ⟨rfl, rfl⟩
                rw [hv]
                refine hK.out _ _ hS (fun hS => ?_)
                clear hK K
                try simp only [Act.put, List.setIfInBounds_toArray, List.set_cons_zero, List.set_cons_succ]
                refine wpAnyH_take (i := 3) (v := .bool false) rfl (by kernel_rfl) (by kernel_rfl) (by kernel_rfl) (fun _ _ _ h => h) (Or.inl ⟨by kernel_rfl, ?_⟩) hS ?_
                · rintro w' _; go_simp
                try simp only [Act.put, List.setIfInBounds_toArray]
                refine wpAnyH_take (i := 4) (v := .bool false) rfl (by kernel_rfl) (by kernel_rfl) (by kernel_rfl) (fun _ _ _ h => h) (Or.inl ⟨by kernel_rfl, ?_⟩) hS ?_
                · rintro w' _; go_simp
                try simp only [Act.put]
                refine wpAnyH_take (i := 5) (v := .int .i64 (XX : Int)) rfl (by kernel_rfl) (by kernel_rfl) (by kernel_rfl) (fun _ _ _ h => h) (Or.inl ⟨by kernel_rfl, ?_⟩) hS ?_
                · rintro w' _; go_simp
                try simp only [Act.put]
                refine wpAnyH_take (i := 6) (v := .int .i32 (XX : Int)) rfl (by kernel_rfl) (by kernel_rfl) (by kernel_rfl) (fun _ _ _ h => h) (Or.inl ⟨by kernel_rfl, ?_⟩) hS ?_
                · rintro w' _; go_simp
                try simp only [Act.put]
                refine wpAnyH_take (i := 9) (v := .string s) rfl (by kernel_rfl) (by kernel_rfl) (by kernel_rfl) (fun _ _ _ h => h) (Or.inl ⟨by kernel_rfl, ?_⟩) hS ?_
                · rintro w' _; go_simp
                try simp only [Act.put]
                refine wpAnyH_take (i := 10) (v := .int .i64 ((k : Int) + 1)) rfl (by kernel_rfl) (by kernel_rfl) (by kernel_rfl) (fun _ _ _ h => h) (Or.inl ⟨by kernel_rfl, ?_⟩) hS ?_
                · rintro w' _; go_simp
                try simp only [Act.put]
                refine wpAnyH_take (i := 11) (v := .string (s.extract 0 (k + 1))) rfl (by kernel_rfl) (by kernel_rfl) (by kernel_rfl) (fun _ _ _ h => h) (Or.inl ⟨by kernel_rfl, ?_⟩) hS ?_
                · rintro w' _; go_simp <;> (intro h; exact absurd h hbn)
                try simp only [Act.put]
                refine wpAnyH_ready (rs := [7]) (by kernel_rfl) (by simp) (AllReadyH.cons rfl (fun K hK => ?_) <| AllReadyH.nil)
                rw [if_pos (by kernel_rfl)]
                go_simp
                refine (rbytes_any XX _ hX2).mono ?_
                rintro e w2 ⟨⟨g, rfl, hgw, kg⟩, m2⟩
                have hcv : (convert 184 9 (.slice (some ⟨g, 0, none⟩) (encR XX).length (encR XX).length)).run Tryz.prog w2 = .ok (.string A) w2 := by
                  have hl : ((encR XX).map UInt8.ofNat).length = (encR XX).length := List.length_map ..
                  rw [HA.out, ← hl]
                  refine run_convert_bytes_back w2 _ _ _ ⟨g, 0, none⟩ _ ((encR XX).map UInt8.ofNat) Tryz.underlying184 Tryz.underlying5 Tryz.underlying9 (fun j hj => ?_)
                  have ea : (⟨g, 0, none⟩ : Addr).add j = ⟨g, j, none⟩ := by rw [Addr.add_lit, Nat.zero_add]
                  rw [ea, kg.cell]
                  exact encCs_at XX HB8.out j hj
                have HCV := Lib.hid hcv
                clear hcv kg hgw
                obtain ⟨nb, hnb⟩ : ∃ nb, nb = (encR XX).length := ⟨_, rfl⟩
                rw [← hnb] at HCV ⊢
                clear hnb
                refine hK.out _ _ (hS.trans m2) (fun hS => ?_)
                clear hK K m2
                try simp only [Act.put, List.setIfInBounds_toArray, List.set_cons_zero, List.set_cons_succ]
                have hcv := HCV.out
                refine wpAnyH_ready (rs := [8]) (by kernel_rfl) (by simp) (AllReadyH.cons rfl (fun K hK => ?_) <| AllReadyH.nil)
                rw [if_pos (by kernel_rfl)]
                go_simp
                refine hK.out _ _ hS (fun hS => ?_)
                clear hK K hcv HCV
                try simp only [Act.put, List.setIfInBounds_toArray, List.set_cons_zero, List.set_cons_succ]
                have MF := Lib.hid hS
                by_cases hq : A = s.extract 0 (k + 1)
                · have HE := Lib.hid (show R = (XX, k + 1) by rw [HXA.out, if_pos ⟨hXr, HAE.out.1 hq⟩])
                  have hqb : A.toList = (s.extract 0 (k + 1)).toList := by rw [hq]
                  clear HXA HAE HA hq
                  refine wpAnyH_take (i := 12) (v := .bool false) rfl (by kernel_rfl) (by kernel_rfl) (by kernel_rfl) (fun _ _ _ h => h) (Or.inl ⟨by kernel_rfl, ?_⟩) hS ?_
                  · rintro w' _; go_simp
                  try simp only [Act.put, List.setIfInBounds_toArray]
                  refine wpAnyH_take (i := 13) (v := .bool false) rfl (by kernel_rfl) (by kernel_rfl) (by kernel_rfl) (fun _ _ _ h => h) (Or.inl ⟨by kernel_rfl, ?_⟩) hS ?_
                  · rintro w' _; go_simp
                  try simp only [Act.put]
                  refine wpAnyH_done (by kernel_rfl) ?_ _
                  try simp only [List.getElem_toArray, List.getElem_cons_succ, List.getElem_cons_zero]
                  try simp only [List.setIfInBounds_toArray, List.set_cons_zero, List.set_cons_succ]
                  clear hS
                  go_wp2_with fail
                  go_ret2
                  exact ⟨by rw [HE.out]; rfl, MF.out⟩
                · have HE := Lib.hid (show R = (0, 0) by rw [HXA.out, if_neg (fun e => hq (HAE.out.2 e.2))])
                  have hqb : ¬ A.toList = (s.extract 0 (k + 1)).toList := fun e => hq (ba_inj e)
                  clear HXA HAE HA hq
                  refine wpAnyH_take (i := 12) (v := .bool true) rfl (by kernel_rfl) (by kernel_rfl) (by kernel_rfl) (fun _ _ _ h => h) (Or.inl ⟨by kernel_rfl, ?_⟩) hS ?_
                  · rintro w' _; go_simp
                  try simp only [Act.put, List.setIfInBounds_toArray]
                  refine wpAnyH_take (i := 13) (v := .bool true) rfl (by kernel_rfl) (by kernel_rfl) (by kernel_rfl) (fun _ _ _ h => h) (Or.inl ⟨by kernel_rfl, ?_⟩) hS ?_
                  · rintro w' _; go_simp
                  try simp only [Act.put]
                  refine wpAnyH_done (by kernel_rfl) ?_ _
                  try simp only [List.getElem_toArray, List.getElem_cons_succ, List.getElem_cons_zero]
                  try simp only [List.setIfInBounds_toArray, List.set_cons_zero, List.set_cons_succ]
                  clear hS
                  go_wp2_with fail
                  go_ret2
                  exact ⟨by rw [HE.out]; rfl, MF.out⟩
end Go.Proofs.YtlidmajcdjlcnaaGreatDoor

namespace Go.Proofs.YtlidmajcdjlcnaaGreatDoor
open Go.RowKit Go.Shelf Go.Mine

theorem decodeGo_tl (s : ByteArray) (pos : Nat) (h : pos < s.size) : Lib.decodeGo (tl s pos) = Utf8.decode s pos := by
  have hx : (s.extract pos s.size).data.toList = s.data.toList.drop pos := by
    rw [Lib.extract_data, List.take_of_length_le (by rw [List.length_drop, ← Lib.size_eq]; omega)]
  have hsz : (s.extract pos s.size).size ≠ 0 := by rw [Lib.size_eq, hx, List.length_drop, ← Lib.size_eq]; omega
  unfold Lib.decodeGo tl
  rw [if_neg hsz, ← Lib.decodeL_drop s pos, ← hx]
  rfl

theorem rmay_text (s : ByteArray) (w : World) (ht : txtOk w s) (hsz : s.size < 4611686018427387904) : Calls Tryz.prog 138 #[.string s] w fun e w' => e = .returned (.bool (decide (0 ≤ ulen s))) ∧ Mod none_ w w' := by
  go_enter Tryz.func138, Tryz.ntmps138
  go_wp2_with fail
  refine (len_any s w ht hsz).mono ?_
  rintro e w1 ⟨rfl, m1⟩
  go_wp2_with fail
  go_ret
  exact ⟨rfl, m1⟩

theorem ulen_none {s : ByteArray} (h : runesOf s = none) : ulen s = -1 := by unfold ulen; rw [h]
theorem ulen_some {s : ByteArray} {rs : List Nat} (h : runesOf s = some rs) : ulen s = rs.length := by unfold ulen; rw [h]
abbrev runeCs (rs : List Nat) : List Value := rs.map fun r : Nat => Value.int .i32 (r : Int)
theorem infoI32 : (Tryz.prog.info? 21).map (fun i => (i.zero, i.size, i.bytes)) = some (some (.int .i32 0), 1, 4) := by kernel_rfl

/-- What Split leaves. -/
def SplitTo (w : World) (R : Option (List Nat)) (e : Ending) (w' : World) : Prop := Mod none_ w w' ∧ (R = none → e = .returned (.tuple #[.slice none 0 0, .int .i64 2])) ∧ ∀ rs, R = some rs → ∃ v, e = .returned (.tuple #[v, .int .i64 0]) ∧ w'.ownsRow w.heap.size 21 1 v rs.length (runeCs rs)
set_option maxHeartbeats 2000000 in
set_option maxRecDepth 1000000 in
theorem split_any (s : ByteArray) (w : World) (ht : txtOk w s) (hsz : s.size ≤ 1099511627776) :
    Calls Tryz.prog 119 #[.string s] w (SplitTo w (runesOf s)) := by
  have HM := Lib.hid (rmay_text s w ht (by omega))
  obtain ⟨i0, hi0, hz0, hz1, hz2⟩ := info_parts infoI32
  have HMK := fun (W : World) (hB : w.heap.size ≤ W.heap.size) => run_make_own (P := Tryz.prog) W w.heap.size 129 21 i0 (.int .i32 0) 1 Tryz.underlying129 hi0 hz0 hz1 .i64 .i64 s.size (by rw [hz2]; omega) (by unfold maxLen; omega) hB
  have HMK := Lib.hid HMK
  have HI0 := Lib.hid hi0
  have HZ0 := Lib.hid hz0
  have HZ1 := Lib.hid hz1
  have HZ2 := Lib.hid hz2
  obtain ⟨R, hR⟩ : ∃ R, R = runesOf s := ⟨_, rfl⟩
  rw [← hR]
  have HR := Lib.hid hR
  clear hi0 hz0 hz1 hz2 ht hR
  go_enter Tryz.func119, Tryz.ntmps119
  go_wp2_with fail
  refine HM.out.mono ?_
  rintro e w1 ⟨rfl, m1⟩
  cases R with
  | none =>
    have hu := ulen_none HR.out.symm
    have hd : decide (0 ≤ ulen s) = false := by rw [hu]; rfl
    rw [hd]
    have M1 := Lib.hid m1
    clear hu m1
    go_wp2_with fail
    go_ret2
    exact ⟨M1.out, fun _ => rfl, fun rs h => by cases h⟩
  | some rs =>
    have hu := ulen_some HR.out.symm
    have hd : decide (0 ≤ ulen s) = true := by rw [hu]; simp
    rw [hd]
    obtain ⟨w2, hrun, hown, hgrow⟩ := HMK.out w1 m1.size
    have m2 := m1.grown hgrow (fun k e => by cases e)
    have M2 := Lib.hid m2
    have O2 := Lib.hid hown
    clear hu m1 hd hown hgrow
    go_wp2_with fail
    obtain ⟨K, hK⟩ : ∃ K, K = w2.heap.size := ⟨_, rfl⟩
    have hkw : w.heap.size ≤ K := by rw [hK]; exact M2.out.size
    have mi := M2.out.alloc (.stringIter s 0)
    have hit : (w2.iter s 0).heap[K]? = some (.stringIter s 0) := by rw [hK]; exact World.alloc_heap_new w2 _
    have oi : (w2.iter s 0).ownsRow w.heap.size 21 1 (.slice (some ⟨w1.heap.size, 0, none⟩) 0 s.size) ([] : List Nat).length (runeCs []) := (by simpa using O2.out : w2.ownsRow w.heap.size 21 1 (.slice (some ⟨w1.heap.size, 0, none⟩) 0 s.size) 0 []).alloc _
    have HS := Lib.hid (show 0 ≤ s.size ∧ ∃ rest, rs = [] ++ rest ∧ runesOf (tl s 0) = some rest from ⟨by omega, rs, rfl, by
      have : tl s 0 = s := by unfold tl; simp
      rw [this]; exact HR.out.symm⟩)
    have mi' : Mod none_ w (w2.iter s 0) := mi
    rw [← hK]
    generalize w2.iter s 0 = w3 at mi' hit oi ⊢
    clear hK mi M2 O2
    go_loopg [4] (s.size + 1) (fun g s4 wx => ∃ (pos : Nat) (pre : List Nat), g = s.size + 1 - pos ∧ Mod none_ w wx ∧ wx.heap[K]? = some (.stringIter s pos) ∧ pre.length ≤ pos ∧ wx.ownsRow w.heap.size 21 1 s4 pre.length (runeCs pre) ∧ RowKit.Hid (pos ≤ s.size ∧ ∃ rest, rs = pre ++ rest ∧ runesOf (tl s pos) = some rest))
    case atStart => exact ⟨0, [], rfl, mi', hit, Nat.zero_le _, oi, HS⟩
    case round =>
      obtain ⟨pos, pre, rfl, mx, hix, hpl, ox, hst⟩ := hrel
      obtain ⟨hps, rest, hrs, hrt⟩ := hst.out
      have MX := Lib.hid mx
      have OX := Lib.hid ox
      have HIX := Lib.hid hix
      by_cases hlt : pos < s.size
      · have hnx := fun ty => Lib.run_next_any_at (P := Tryz.prog) wr K s pos ty hix hlt
        have hdg := decodeGo_tl s pos hlt
        have h0 : (tl s pos).size ≠ 0 := by rw [tl_size]; omega
        have hbad : ¬ bad1 (tl s pos) := fun hb => by rw [runesOf_bad h0 hb] at hrt; cases hrt
        rw [runesOf_step h0 hbad, tl_tl, hdg] at hrt
        have hdp := decodeGo_pos h0
        rw [hdg, tl_size] at hdp
        have hty : ((Utf8.decode s pos).1 : Int) = (Utf8.decode s pos).1 := rfl
        generalize Utf8.decode s pos = d at hnx hrt hdp
        obtain ⟨r, nb⟩ := d
        dsimp only at hnx hrt hdp
        obtain ⟨rest', hr1, hr2⟩ := Option.map_eq_some_iff.1 hrt
        have m4 : Mod none_ w (wr.iterAt K s (pos + nb)) := ⟨mx.os, mx.tape, mx.output, by rw [Lib.iterAt_size]; exact mx.size, fun k hk _ => by rw [Lib.iterAt_other _ _ _ _ _ (by omega)]; exact mx.block k hk (fun e => e)⟩
        have h4 := Lib.iterAt_heap wr K s pos (pos + nb) hix
        have mK : Mod (one K) wr (wr.iterAt K s (pos + nb)) := ⟨rfl, rfl, rfl, by rw [Lib.iterAt_size]; exact Nat.le_refl _, fun k hk e => Lib.iterAt_other _ _ _ _ _ e⟩
        have o4 := ownsRow_mod ox mK (fun k hk e => by
          have e' : k = K := e
          subst e'
          obtain ⟨cs, hb⟩ := ownsRow_type ox hk
          unfold Blk at hb
          rw [hix] at hb; cases hb)
        have M4 := Lib.hid m4
        have H4 := Lib.hid h4
        have O4 := Lib.hid o4
        have HST := Lib.hid (show pos + nb ≤ s.size ∧ ∃ rest, rs = (pre ++ [r]) ++ rest ∧ runesOf (tl s (pos + nb)) = some rest from ⟨by omega, rest', by rw [hrs, ← hr2]; simp, hr1⟩)
        have hsz4 := m4.size
        clear mK hst hrs hrt hr1 hr2 mx hix ox hdg h0 hbad m4 h4 o4 hty
        generalize wr.iterAt K s (pos + nb) = w4 at hnx M4 H4 O4 hsz4
        go_wp2_with (at_builtin; refine wpList_append_own _ rfl (.tmp 18) (.tmp 20) 129 rfl w.heap.size 21 i0 _ 1 4 Tryz.underlying129 HI0.out HZ0.out HZ1.out HZ2.out rfl (by decide) _ _ _ rfl (O4.out.alloc _) ⟨w4.heap.size, 0, none⟩ 1 1 [.int .i32 (r : Int)] rfl rfl (World.news_of_block (heap_alloc_new w4 _)) (fun u hu => by rw [List.mem_singleton.1 hu]; rfl) (by unfold maxLen; omega) (by omega) (by rw [World.size_alloc]; omega) ?_; intro v' w5 ho5 hg5 _; have H5 := Lib.hid (show w5.heap[K]? = some (.stringIter s (pos + nb)) by (have hlt4 := lt_of_block H4.out; rw [hg5.block K (by rw [World.size_alloc]; omega) (fun e => by (obtain ⟨cs, hb⟩ := ownsRow_type O4.out e.symm; unfold Blk at hb; rw [H4.out] at hb; cases hb))]; rw [Below.heap_alloc _ _ _ hlt4]; exact H4.out)); have M5 := Lib.hid ((M4.out.alloc (.cells #[.int .i32 (r : Int)] 21)).grown hg5 (fun j e hj => absurd hj (by have := (O4.out.lt j e).1; omega))); have O5 := Lib.hid ho5; clear ho5 hg5)
        go_roundg (s.size + 1 - (pos + nb))
        case measure => omega
        case rel =>
          refine ⟨pos + nb, pre ++ [r], rfl, M5.out, H5.out, by simp; omega, ?_, HST⟩
          have := O5.out
          simpa using this
      · obtain rfl : pos = s.size := by omega
        have hnx := fun ty => Lib.run_next_end_at (P := Tryz.prog) wr K s s.size ty hix (by omega)
        have hr0 : rest = [] := by
          have h0 : (tl s s.size).size = 0 := by rw [tl_size]; omega
          rw [runesOf_nil h0] at hrt
          exact (Option.some.inj hrt).symm
        have HRS := Lib.hid (show rs = pre by rw [hrs, hr0]; simp)
        clear hst hrs hrt hr0 mx hix ox
        go_wp2_with fail
        go_ret2
        exact ⟨MX.out, (fun h => nomatch h), fun rs' h => by obtain rfl := Option.some.inj h; rw [HRS.out]; exact ⟨_, rfl, OX.out⟩⟩
end Go.Proofs.YtlidmajcdjlcnaaGreatDoor

namespace Go.Proofs.YtlidmajcdjlcnaaGreatDoor
open Go.RowKit Go.Shelf Go.Mine

/-- What the document's Split leaves. -/
def RSplitTo (w : World) (R : Option (List Nat)) (e : Ending) (w' : World) : Prop := Mine.Mod none_ w w' ∧ (R = none → e = .returned (.tuple #[.slice none 0 0, .bool false])) ∧ ∀ rs, R = some rs → ∃ v, e = .returned (.tuple #[v, .bool true]) ∧ w'.ownsRow w.heap.size 21 1 v rs.length (runeCs rs)
theorem firstR_bad {t : ByteArray} (hb : bad1 t) : firstR t = (0, 0) := by unfold firstR; rw [if_pos hb]
theorem firstR_ok {t : ByteArray} (hb : ¬ bad1 t) : firstR t = Lib.decodeGo t := by unfold firstR; rw [if_neg hb]
theorem tl_zero (s : ByteArray) : tl s 0 = s := by unfold tl; simp

set_option maxHeartbeats 4000000 in
set_option maxRecDepth 1000000 in
theorem rsplit_any (s : ByteArray) (w : World) (hsz : s.size ≤ 1099511627776) :
    Calls Tryz.prog 93 #[.string s] w (RSplitTo w (runesOf s)) := by
  obtain ⟨i0, hi0, hz0, hz1, hz2⟩ := info_parts infoI32
  have HI0 := Lib.hid hi0
  have HZ0 := Lib.hid hz0
  have HZ1 := Lib.hid hz1
  have HZ2 := Lib.hid hz2
  obtain ⟨R, hR⟩ : ∃ R, R = runesOf s := ⟨_, rfl⟩
  rw [← hR]
  have HS := Lib.hid (show R = (runesOf (tl s 0)).map ([] ++ ·) by rw [hR, tl_zero]; cases runesOf s <;> rfl)
  clear hi0 hz0 hz1 hz2 hR
  go_enter Tryz.func93, Tryz.ntmps93
  go_wp2_with fail
  go_loopg [0, 4] (s.size + 1) (fun g s0 s4 wx => ∃ (pos : Nat) (pre : List Nat), g = s.size + 1 - pos ∧ s0 = .string (tl s pos) ∧ Mine.Mod none_ w wx ∧ pre.length ≤ pos ∧ wx.ownsRow w.heap.size 21 1 s4 pre.length (runeCs pre) ∧ RowKit.Hid (pos ≤ s.size ∧ R = (runesOf (tl s pos)).map (pre ++ ·)))
  case atStart => exact ⟨0, [], rfl, by rw [tl_zero], Mine.Mod.refl _ _, Nat.zero_le _, ⟨rfl, .inl ⟨rfl, rfl⟩⟩, Lib.hid ⟨Nat.zero_le _, HS.out⟩⟩
  case round =>
    obtain ⟨pos, pre, rfl, rfl, mx, hpl, ox, hst⟩ := hrel
    obtain ⟨hps, hrs⟩ := hst.out
    have MX := Lib.hid mx
    have OX := Lib.hid ox
    obtain ⟨t, ht⟩ : ∃ t, t = tl s pos := ⟨_, rfl⟩
    have hts : t.size = s.size - pos := by rw [ht, tl_size]
    rw [← ht] at hrs ⊢
    have HT := Lib.hid ht
    have HTS := Lib.hid hts
    by_cases h0 : t.size = 0
    · have HRS := Lib.hid (show R = some pre by rw [hrs, runesOf_nil h0]; simp)
      have hd : decide (0 < t.size) = false := by simp [h0]
      clear hst hrs mx ox ht hts h0
      go_wp2_with fail
      go_ret2
      exact ⟨MX.out, (fun h => by rw [HRS.out] at h; cases h), fun rs' h => by rw [HRS.out] at h; obtain rfl := Option.some.inj h; exact ⟨_, rfl, OX.out⟩⟩
    · have hd : decide (0 < t.size) = true := by simp; omega
      have h1 := rfirst_any t wr h0 (by omega)
      by_cases hb : bad1 t
      · have HRS := Lib.hid (show R = none by rw [hrs, runesOf_bad h0 hb]; rfl)
        rw [firstR_bad hb] at h1
        have HF := Lib.hid h1
        clear hst hrs mx ox ht hts h0 hb h1
        go_wp2_with fail
        refine HF.out.mono ?_
        rintro e w1 ⟨rfl, m1⟩
        have M1 := Lib.hid (MX.out.trans m1)
        clear m1
        go_wp2_with fail
        go_ret2
        exact ⟨M1.out, fun _ => rfl, fun rs' h => by rw [HRS.out] at h; cases h⟩
      · have hdp := decodeGo_pos h0
        rw [firstR_ok hb] at h1
        rw [runesOf_step h0 hb] at hrs
        obtain ⟨r, hr⟩ : ∃ r, r = (Lib.decodeGo t).1 := ⟨_, rfl⟩
        obtain ⟨nb, hnb⟩ : ∃ nb, nb = (Lib.decodeGo t).2 := ⟨_, rfl⟩
        rw [← hr, ← hnb] at h1
        rw [← hr, ← hnb] at hrs
        rw [← hnb] at hdp
        have HF := Lib.hid h1
        have hnb0 : ((nb : Int) == 0) = false := by rw [beq_eq_false_iff_ne]; omega
        have hnbs : ¬ ((t.size : Int) < (nb : Int)) := by omega
        have HST := Lib.hid (show pos + nb ≤ s.size ∧ R = (runesOf (tl s (pos + nb))).map ((pre ++ [r]) ++ ·) from ⟨by omega, by
          rw [hrs, ht, tl_tl]
          cases runesOf (tl s (pos + nb)) <;> simp⟩)
        have HTL := Lib.hid (show t.extract nb t.size = tl s (pos + nb) by rw [ht]; exact tl_tl s pos nb)
        have hnb1 := hdp.1
        clear hst hrs mx ox ht hts h0 hb hr hnb h1 hdp
        go_wp2_with fail
        refine HF.out.mono ?_
        rintro e w1 ⟨rfl, m1⟩
        have M1 := Lib.hid (MX.out.trans m1)
        have O1 := Lib.hid (ownsRow_mod OX.out m1 (fun _ _ e => e))
        clear m1
        have hsz1 := M1.out.size
        go_wp2_with (at_builtin; refine wpList_append_own _ rfl (.tmp 17) (.tmp 19) 129 rfl w.heap.size 21 i0 _ 1 4 Tryz.underlying129 HI0.out HZ0.out HZ1.out HZ2.out rfl (by decide) _ _ _ rfl (O1.out.alloc _) ⟨w1.heap.size, 0, none⟩ 1 1 [.int .i32 (r : Int)] rfl rfl (World.news_of_block (heap_alloc_new w1 _)) (fun u hu => by rw [List.mem_singleton.1 hu]; rfl) (by unfold maxLen; omega) (by omega) (by rw [World.size_alloc]; omega) ?_; intro v' w5 ho5 hg5 _; have M5 := Lib.hid ((M1.out.alloc (.cells #[.int .i32 (r : Int)] 21)).grown hg5 (fun j e hj => absurd hj (by have := (O1.out.lt j e).1; omega))); have O5 := Lib.hid ho5; clear ho5 hg5)
        go_roundg (s.size + 1 - (pos + nb))
        case measure => omega
        case rel =>
          refine ⟨pos + nb, pre ++ [r], rfl, by rw [← HTL.out], M5.out, by simp; omega, ?_, HST⟩
          have := O5.out
          simpa using this

theorem rlen_any (s : ByteArray) (w : World) (hsz : s.size ≤ 1099511627776) : Calls Tryz.prog 94 #[.string s] w fun e w' => e = .returned (.int .i64 (ulen s)) ∧ Mine.Mod none_ w w' := by
  have HS := Lib.hid (rsplit_any s w hsz)
  go_enter Tryz.func94, Tryz.ntmps94
  go_wp2_with fail
  refine HS.out.mono ?_
  rintro e w1 ⟨m1, hno, hso⟩
  have M1 := Lib.hid m1
  cases hR : runesOf s with
  | none =>
    obtain rfl := hno hR
    have HE := Lib.hid (ulen_none hR)
    clear hno hso m1 hR
    go_wp2_with fail
    go_ret
    exact ⟨by rw [HE.out]; rfl, M1.out⟩
  | some rs =>
    obtain ⟨v, rfl, ho⟩ := hso rs hR
    have HE := Lib.hid (ulen_some hR)
    obtain ⟨va, vc, rfl⟩ : ∃ va vc, v = .slice va rs.length vc := by
      rcases ownsRow_blk ho with ⟨h1, h2, _⟩ | ⟨g, cap, more, h1, _⟩
      · exact ⟨none, 0, by rw [h1, h2]⟩
      · exact ⟨_, _, h1⟩
    obtain ⟨L, hL⟩ : ∃ L, L = rs.length := ⟨_, rfl⟩
    rw [← hL] at HE ⊢
    clear hno hso m1 hR ho hL
    go_wp2_with fail
    go_ret
    exact ⟨by rw [HE.out]; rfl, M1.out⟩
end Go.Proofs.YtlidmajcdjlcnaaGreatDoor

namespace Go.Proofs.YtlidmajcdjlcnaaGreatDoor
open Go.RowKit Go.Mine

theorem nameOk_bools (s q : Int) : nameOk s q = (decide (1 ≤ s) && decide (s ≤ 16) && decide (1 ≤ q) && decide (q ≤ 1099511627776)) := by
  unfold nameOk inB
  rw [Bool.eq_iff_iff]
  simp only [decide_eq_true_eq, Bool.and_eq_true]
  omega

set_option maxHeartbeats 1000000 in
set_option maxRecDepth 1000000 in
theorem rname_any (s q : Int) (w : World) : Calls Tryz.prog 69 #[.agg #[.int .i64 s, .int .i64 q]] w fun e w' => e = .returned (.bool (nameOk s q)) ∧ Mine.Mod none_ w w' := by
  have m0 := (Mine.Mod.refl none_ w).alloc (.cells #[.int .i64 s, .int .i64 q] 28)
  rw [nameOk_bools]
  go_enter Tryz.func69, Tryz.ntmps69
  cases h0 : decide (1 ≤ s)
  · go_wp2_with fail
    go_ret
    exact ⟨rfl, m0⟩
  · cases h1 : decide (s ≤ 16)
    · go_wp2_with fail
      go_ret
      exact ⟨rfl, m0⟩
    · cases h2 : decide (1 ≤ q)
      · go_wp2_with fail
        go_ret
        exact ⟨rfl, m0⟩
      · cases h3 : decide (q ≤ 1099511627776)
        · go_wp2_with fail
          go_ret
          exact ⟨rfl, m0⟩
        · go_wp2_with fail
          go_ret
          exact ⟨rfl, m0⟩

theorem textOk_bools (s : ByteArray) (h : ¬ 800 < (s.size : Int)) : textOk s = (decide (1 ≤ ulen s) && decide (ulen s ≤ 200)) := by
  unfold textOk inB
  rw [Bool.eq_iff_iff]
  simp only [decide_eq_true_eq, Bool.and_eq_true]
  omega

set_option maxHeartbeats 1000000 in
set_option maxRecDepth 1000000 in
theorem rtextOk_any (s : ByteArray) (w : World) (hsz : s.size < 4611686018427387904) : Calls Tryz.prog 73 #[.string s] w fun e w' => e = .returned (.bool (textOk s)) ∧ Mine.Mod none_ w w' := by
  by_cases h8 : 800 < (s.size : Int)
  · have HE := Lib.hid (show textOk s = false by unfold textOk; simp; omega)
    have hd : decide (800 < (s.size : Int)) = true := by simpa using h8
    go_enter Tryz.func73, Tryz.ntmps73
    go_wp2_with fail
    go_ret
    exact ⟨by rw [HE.out]; rfl, Mine.Mod.refl _ _⟩
  · have HE := Lib.hid (textOk_bools s h8)
    have hd : decide (800 < (s.size : Int)) = false := by simpa using h8
    have HL := Lib.hid (rlen_any s w (by omega))
    obtain ⟨n, hn⟩ : ∃ n, n = ulen s := ⟨_, rfl⟩
    rw [← hn] at HL HE
    clear hn
    go_enter Tryz.func73, Tryz.ntmps73
    go_wp2_with fail
    refine HL.out.mono ?_
    rintro e w1 ⟨rfl, m1⟩
    have M1 := Lib.hid m1
    clear m1
    cases h1 : decide (1 ≤ n)
    · go_wp2_with fail
      go_ret
      exact ⟨by rw [HE.out, h1]; rfl, M1.out⟩
    · cases h2 : decide (n ≤ 200)
      · go_wp2_with fail
        go_ret
        exact ⟨by rw [HE.out, h1, h2]; rfl, M1.out⟩
      · go_wp2_with fail
        go_ret
        exact ⟨by rw [HE.out, h1, h2]; rfl, M1.out⟩

theorem spansFrom_last : ∀ (l : List (Int × Int)) (last : Int), spansFrom last l = true → ∀ y, l.getLast? = some y → ∀ x ∈ l, x.1 + x.2 ≤ y.1 + y.2
  | [], _, _, y, hy, x, hx => by cases hx
  | a :: r, last, h, y, hy, x, hx => by
    unfold spansFrom at h
    simp only [Bool.and_eq_true, decide_eq_true_eq] at h
    cases hr : r with
    | nil =>
      subst hr
      simp at hy hx
      subst hy; subst hx
      exact Int.le_refl _
    | cons b t =>
      rw [hr] at hy
      have hy2 : (b :: t).getLast? = some y := by simpa [List.getLast?_cons_cons] using hy
      rw [← hr] at hy2
      rcases List.mem_cons.1 hx with rfl | hx
      · have hb : b ∈ r := by rw [hr]; exact List.mem_cons_self ..
        have h2 := spansFrom_last r _ h.2 y hy2 b hb
        have h3 := h.2
        rw [hr] at h3
        unfold spansFrom at h3
        simp only [Bool.and_eq_true, decide_eq_true_eq] at h3
        omega
      · exact spansFrom_last r _ h.2 y hy2 x hx
theorem lastLe_all {l : List (Int × Int)} {size : Int} (h : spansOk l = true) : lastLe l size = l.all fun x => decide (x.1 + x.2 ≤ size) := by
  rw [Bool.eq_iff_iff]
  unfold lastLe
  constructor
  · intro hl
    rw [List.all_eq_true]
    intro x hx
    rw [decide_eq_true_eq]
    cases hy : l.getLast? with
    | none => rw [List.getLast?_eq_none_iff.1 hy] at hx; cases hx
    | some y =>
      rw [hy] at hl
      simp only [decide_eq_true_eq] at hl
      have := spansFrom_last l _ h y hy x hx
      omega
  · intro ha
    cases hy : l.getLast? with
    | none => rfl
    | some y => exact List.all_eq_true.1 ha y (List.mem_of_getLast? hy)
theorem text_empty {s : ByteArray} (h : s.toList.isEmpty = true) : s = ⟨#[]⟩ := by
  have h : s.toList = [] := by simpa using h
  have h3 : s.size = 0 := by
    have := congrArg List.length h
    rw [List.length_nil, ByteArray.toList_eq] at this
    rw [← this]; exact (Array.length_toList (xs := s.data)).symm
  exact ByteArray.ext (Array.eq_empty_of_size_eq_zero (by rw [← h3]; rfl))

set_option maxHeartbeats 8000000 in
set_option maxRecDepth 1000000 in
theorem rmayOp_any (o : OpV) (size : Int) (w : World) (l : List (Int × Int)) (h : o.ok w l) (hsb : -9223372036854775808 ≤ size ∧ size ≤ 9223372036854775807) :
    Calls Tryz.prog 63 #[o.v, .int .i64 size] w fun e w' => e = .returned (.bool (inB size 0 20000 && opMay o l size)) ∧ Mine.Mod none_ w w' := by
  have hsz := h.sz
  have hle := h.sp.le
  have hbig := h.sp.big
  unfold maxLen at hbig
  have HN := Lib.hid h.sp.n
  obtain ⟨W0, hW0⟩ : ∃ W0, w.alloc (.cells o.cs.toArray 31) = W0 := ⟨_, rfl⟩
  obtain ⟨m0, kB⟩ := opBox1 hW0
  obtain ⟨K, hK⟩ : ∃ K, w.heap.size = K := ⟨_, rfl⟩
  rw [hK] at kB
  have H0 := Lib.hid (h.grown m0)
  have M0 := Lib.hid m0
  have K0 := Lib.hid kB
  have c0 : W0.cell? ⟨K, 0, none⟩ = some (.int .i64 o.site) := by rw [kB.cell]; rfl
  have c1 : W0.cell? ⟨K, 1, none⟩ = some (.int .i64 o.seq) := by rw [kB.cell]; rfl
  have c2 : W0.cell? ⟨K, 2, none⟩ = some (.int .i64 o.num) := by rw [kB.cell]; rfl
  obtain ⟨R, hR⟩ : ∃ R, R = (inB size 0 20000 && opMay o l size) := ⟨_, rfl⟩
  rw [← hR]
  have HR := Lib.hid hR
  clear h m0 kB hR
  go_enter Tryz.func63, Tryz.ntmps63
  go_upto_region 1 with fail
  clear hW0 hK
  by_cases h1 : size < 0
  · have HE := Lib.hid (show R = false by rw [HR.out]; simp [inB]; omega)
    have d1 : decide (size < 0) = true := by simpa using h1
    clear c0 c1 c2
    go_wp2_with fail
    go_ret
    exact ⟨by rw [HE.out]; rfl, M0.out⟩
  have d1 : decide (size < 0) = false := by simpa using h1
  by_cases h2 : 20000 < size
  · have HE := Lib.hid (show R = false by rw [HR.out]; simp [inB]; omega)
    have d2 : decide (20000 < size) = true := by simpa using h2
    clear c0 c1 c2
    go_wp2_with fail
    go_ret
    exact ⟨by rw [HE.out]; rfl, M0.out⟩
  have d2 : decide (20000 < size) = false := by simpa using h2
  have HR1 := Lib.hid (show R = opMay o l size by rw [HR.out]; simp [inB]; omega)
  clear HR
  cases h3 : nameOk o.site o.seq
  · have HE := Lib.hid (show R = false by rw [HR1.out]; simp [opMay, h3])
    go_wp2_with fail
    refine (rname_any o.site o.seq _).mono ?_
    rintro e w1 ⟨rfl, m1⟩
    rw [h3]
    have M1 := Lib.hid (M0.out.trans m1)
    clear m1 c0 c1 c2
    go_wp2_with fail
    go_ret
    exact ⟨by rw [HE.out]; rfl, M1.out⟩
  go_wp2_with fail
  refine (rname_any o.site o.seq _).mono ?_
  rintro e w1 ⟨rfl, m1⟩
  rw [h3]
  have M1 := Lib.hid (M0.out.trans m1)
  have H1 := Lib.hid (H0.out.grown m1)
  have K1 := Lib.hid (K0.out.mod m1 (fun e => e))
  have c2 : w1.cell? ⟨K, 2, none⟩ = some (.int .i64 o.num) := by rw [K1.out.cell]; rfl
  have c3 : w1.cell? ⟨K, 3, none⟩ = some (.int .i64 o.kind) := by rw [K1.out.cell]; rfl
  have c4 : w1.cell? ⟨K, 4, none⟩ = some (.int .i64 o.at_) := by rw [K1.out.cell]; rfl
  have c5 : w1.cell? ⟨K, 5, none⟩ = some (.string o.text) := by rw [K1.out.cell]; rfl
  have c6 : w1.cell? ⟨K, 6, none⟩ = some (.slice o.sa o.slen o.scap) := by rw [K1.out.cell]; rfl
  clear m1 M0 H0 K0
  by_cases h4 : o.num < 0
  · have HE := Lib.hid (show R = false by rw [HR1.out]; simp [opMay, inB]; omega)
    have d4 : decide (o.num < 0) = true := by simpa using h4
    go_wp2_with fail
    go_ret
    exact ⟨by rw [HE.out]; rfl, M1.out⟩
  have d4 : decide (o.num < 0) = false := by simpa using h4
  by_cases h5 : 1099511627776 < o.num
  · have HE := Lib.hid (show R = false by rw [HR1.out]; simp [opMay, inB]; omega)
    have d5 : decide (1099511627776 < o.num) = true := by simpa using h5
    go_wp2_with fail
    go_ret
    exact ⟨by rw [HE.out]; rfl, M1.out⟩
  have d5 : decide (1099511627776 < o.num) = false := by simpa using h5
  have HR2 := Lib.hid (show R = if o.kind = 1 then insOk o size else if o.kind = 2 then delOk o size l else false by
    have : inB o.num 0 1099511627776 = true := by simp [inB]; omega
    rw [HR1.out]; unfold opMay; rw [h3, this]; rfl)
  clear HR1 h3
  by_cases hk1 : o.kind = 1
  · have b1 : (o.kind == 1) = true := by simpa using hk1
    have HR3 := Lib.hid (show R = insOk o size by rw [HR2.out, if_pos hk1])
    clear HR2 hk1
    cases e1 : decide (0 ≤ o.at_)
    · have HE := Lib.hid (show R = false by rw [HR3.out]; simp at e1; simp [insOk, inB]; omega)
      go_wp2_with fail
      go_ret
      exact ⟨by rw [HE.out]; rfl, M1.out⟩
    cases e2 : decide (o.at_ ≤ size)
    · have HE := Lib.hid (show R = false by rw [HR3.out]; simp at e2; simp [insOk, inB]; omega)
      go_wp2_with fail
      go_ret
      exact ⟨by rw [HE.out]; rfl, M1.out⟩
    have HAT := Lib.hid (show inB o.at_ 0 size = true by simp at e1 e2; simp [inB]; omega)
    cases e3 : textOk o.text
    · have HE := Lib.hid (show R = false by rw [HR3.out]; simp [insOk, e3])
      go_wp2_with fail
      refine (rtextOk_any o.text _ hsz).mono ?_
      rintro e w2 ⟨rfl, m2⟩
      rw [e3]
      have M2 := Lib.hid (M1.out.trans m2)
      clear m2 c2 c3 c4 c5 c6
      go_wp2_with fail
      go_ret
      exact ⟨by rw [HE.out]; rfl, M2.out⟩
    go_wp2_with fail
    refine (rtextOk_any o.text _ hsz).mono ?_
    rintro e w2 ⟨rfl, m2⟩
    rw [e3]
    have M2 := Lib.hid (M1.out.trans m2)
    have K2 := Lib.hid (K1.out.mod m2 (fun e => e))
    have hs8 : o.text.size ≤ 800 ∧ 1 ≤ ulen o.text ∧ ulen o.text ≤ 200 := by
      unfold textOk inB at e3
      simp only [Bool.and_eq_true, decide_eq_true_eq] at e3
      omega
    have E3 := Lib.hid e3
    have c5 : w2.cell? ⟨K, 5, none⟩ = some (.string o.text) := by rw [K2.out.cell]; rfl
    have c6 : w2.cell? ⟨K, 6, none⟩ = some (.slice o.sa o.slen o.scap) := by rw [K2.out.cell]; rfl
    clear m2 c2 c3 c4 e3
    by_cases h6 : o.slen = 0
    · have b6 : ((o.slen : Int) == 0) = true := by simpa using h6
      have b6' : (o.slen == 0) = true := by simpa using h6
      go_wp2_with fail
      refine (rlen_any o.text _ (by omega)).mono ?_
      rintro e w3 ⟨rfl, m3⟩
      obtain ⟨n, hn⟩ : ∃ n, n = ulen o.text := ⟨_, rfl⟩
      rw [← hn] at hs8 ⊢
      have hw : IntKind.i64.wrap (size + n) = size + n := by rw [IntKind.wrap_i64]; omega
      have HF := Lib.hid (show R = decide (size + n ≤ 20000) by
        rw [HR3.out]
        unfold insOk
        rw [HAT.out, E3.out, ← hn]
        rw [Bool.eq_iff_iff]
        simp [h6]
        omega)
      have M3 := Lib.hid (M2.out.trans m3)
      clear m3 hn c5 c6 h6 b6 b6'
      go_wp2_with fail
      go_ret
      exact ⟨by rw [HF.out]; rfl, M3.out⟩
    · have b6 : ((o.slen : Int) == 0) = false := by simpa using h6
      have b6' : (o.slen == 0) = false := by simpa using h6
      have HE := Lib.hid (show R = false by rw [HR3.out]; simp [insOk, h6])
      go_wp2_with fail
      go_ret
      exact ⟨by rw [HE.out]; rfl, M2.out⟩
  have b1 : (o.kind == 1) = false := by simpa using hk1
  by_cases hk2 : o.kind = 2
  · have b2 : (o.kind == 2) = true := by simpa using hk2
    have HR3 := Lib.hid (show R = delOk o size l by rw [HR2.out, if_neg hk1, if_pos hk2])
    clear HR2 hk1
    by_cases h6 : o.at_ = 0
    · have b6 : (o.at_ == 0) = true := by simpa using h6
      have HAT := Lib.hid h6
      cases h7 : o.text.toList.isEmpty
      · have HE := Lib.hid (show R = false by rw [HR3.out]; simp [delOk, h7])
        have h7' : ¬ o.text.toList = [] := by simpa using h7
        clear h7
        go_wp2_with fail
        go_ret
        exact ⟨by rw [HE.out]; rfl, M1.out⟩
      · have H7 := Lib.hid h7
        rw [text_empty h7] at c5
        clear h7
        have HSM := Lib.hid (rspansMay_any w1 o.sa o.slen o.scap l H1.out.sp)
        cases h8 : spansOk l
        · have HE := Lib.hid (show R = false by rw [HR3.out]; simp [delOk, h8])
          rw [h8] at HSM
          go_wp2_with fail
          refine HSM.out.mono ?_
          rintro e w2 ⟨rfl, m2⟩
          have M2 := Lib.hid (M1.out.trans m2)
          clear m2 c2 c3 c4 c5 c6
          go_wp2_with fail
          go_ret
          exact ⟨by rw [HE.out]; rfl, M2.out⟩
        · rw [h8] at HSM
          have H8 := Lib.hid h8
          have HR4 := Lib.hid (show R = l.all fun x => decide (x.1 + x.2 ≤ size) by
            rw [HR3.out, ← lastLe_all h8]
            unfold delOk
            rw [HAT.out, H7.out, h8]; rfl)
          clear h8 HR3
          go_wp2_with fail
          refine HSM.out.mono ?_
          rintro e w2 ⟨rfl, m2⟩
          have M2 := Lib.hid (M1.out.trans m2)
          have H2 := Lib.hid (H1.out.grown m2)
          have K2 := Lib.hid (K1.out.mod m2 (fun e => e))
          clear m2 c2 c3 c4 c5 c6 HSM
          go_wp2_with fail
          go_loopg [5] o.slen (fun g s5 wx => ∃ k : Nat, g = o.slen - k ∧ s5 = .int .i64 k ∧ k ≤ o.slen ∧ Mine.Mod none_ w2 wx ∧ RowKit.Hid (∀ (j : Nat) (x : Int × Int), j < k → l[j]? = some x → x.1 + x.2 ≤ size))
          case atStart => exact ⟨0, rfl, rfl, Nat.zero_le _, Mine.Mod.refl _ _, Lib.hid (fun j x hj => absurd hj (by omega))⟩
          case round =>
            obtain ⟨k, rfl, rfl, hk, mx, hst⟩ := hrel
            have MX := Lib.hid (M2.out.trans mx)
            have kx := K2.out.mod mx (fun e => e)
            have c6 : wr.cell? ⟨K, 6, none⟩ = some (.slice o.sa o.slen o.scap) := by rw [kx.cell]; rfl
            by_cases hlk : k < o.slen
            · obtain ⟨⟨f, n⟩, hx⟩ : ∃ x, l[k]? = some x := ⟨l[k]'(by rw [HN.out]; exact hlk), by simp⟩
              obtain ⟨b, off, hsa, e0, e1⟩ := (H2.out.sp.grown mx).cells k _ hx
              obtain ⟨f1, f2, f3, f4⟩ := spansFrom_ok l _ H8.out _ (List.mem_of_getElem? hx)
              dsimp only at e0 e1 f1 f2 f3 f4
              have hw : IntKind.i64.wrap (f + n) = f + n := by rw [IntKind.wrap_i64]; omega
              have MX0 := Lib.hid mx
              rw [hsa] at c6
              have HX := Lib.hid hx
              clear hsa kx mx hx
              by_cases hgt : size < f + n
              · have HE := Lib.hid (show R = false by
                  rw [HR4.out, List.all_eq_false]
                  exact ⟨_, List.mem_of_getElem? HX.out, by simp; omega⟩)
                have dg : decide (size < f + n) = true := by simpa using hgt
                go_upto_region 10 with fail
                go_quiet (fail)
                have MQ := Lib.hid (MX.out.drewN nq)
                generalize wr.drewN nq = wq at MQ ⊢
                clear c6 e0 e1
                go_wp2_with fail
                go_ret
                exact ⟨by rw [HE.out]; rfl, MQ.out⟩
              · have HST := Lib.hid (show ∀ (j : Nat) (x : Int × Int), j < k + 1 → l[j]? = some x → x.1 + x.2 ≤ size from fun j x hj hx2 => by
                  by_cases hjk : j = k
                  · subst hjk
                    rw [HX.out] at hx2
                    obtain rfl := Option.some.inj hx2
                    show f + n ≤ size
                    omega
                  · exact hst.out j x (by omega) hx2)
                have dg : decide (size < f + n) = false := by simpa using hgt
                clear hst
                go_upto_region 10 with fail
                go_quiet (fail)
                have MQ := Lib.hid (MX0.out.drewN nq)
                generalize wr.drewN nq = wq at MQ ⊢
                clear c6 e0 e1
                go_wp2_with fail
                go_roundg (o.slen - (k + 1))
                all_goals first
                  | omega
                  | exact ⟨k + 1, rfl, by go_num, by omega, MQ.out, HST⟩
            · obtain hkl : k = o.slen := by omega
              have HE := Lib.hid (show R = true by
                rw [HR4.out, List.all_eq_true]
                intro x hx
                obtain ⟨j, hj, rfl⟩ := List.getElem_of_mem hx
                rw [decide_eq_true_eq]
                have hn := HN.out
                exact hst.out j _ (by omega) (List.getElem?_eq_getElem hj))
              subst hkl
              clear hst mx kx
              go_wp2_with fail
              go_ret
              exact ⟨by rw [HE.out]; rfl, MX.out⟩
    · have b6 : (o.at_ == 0) = false := by simpa using h6
      have HE := Lib.hid (show R = false by rw [HR3.out]; simp [delOk, h6])
      go_wp2_with fail
      go_ret
      exact ⟨by rw [HE.out]; rfl, M1.out⟩
  · have b2 : (o.kind == 2) = false := by simpa using hk2
    have HE := Lib.hid (show R = false by rw [HR2.out, if_neg hk1, if_neg hk2])
    go_wp2_with fail
    go_ret
    exact ⟨by rw [HE.out]; rfl, M1.out⟩
end Go.Proofs.YtlidmajcdjlcnaaGreatDoor

namespace Go.Proofs.YtlidmajcdjlcnaaGreatDoor
open Go.RowKit Go.Mine

/-- An edit. -/
structure EditV where
  site : Int
  seq : Int
  ctx : Int
  kind : Int
  at_ : Int
  len : Int
  text : ByteArray
abbrev EditV.cs (e : EditV) : List Value := [.int .i64 e.site, .int .i64 e.seq, .int .i64 e.ctx, .int .i64 e.kind, .int .i64 e.at_, .int .i64 e.len, .string e.text]
abbrev EditV.v (e : EditV) : Value := .agg #[.int .i64 e.site, .int .i64 e.seq, .int .i64 e.ctx, .int .i64 e.kind, .int .i64 e.at_, .int .i64 e.len, .string e.text]
/-- Its text can be read. -/
structure EditV.ok (e : EditV) (w : World) : Prop where
  tx : txtOk w e.text
  sz : e.text.size < 4611686018427387904
theorem EditV.ok.grown {e : EditV} {w w' : World} (h : e.ok w) (m : Mine.Mod none_ w w') : e.ok w' := ⟨h.tx.grown m, h.sz⟩
def editKind (e : EditV) : Bool := if e.kind = 1 then decide (e.len = 0) && textOk e.text else if e.kind = 2 then inB e.len 1 20000 && e.text.toList.isEmpty else false
/-- May an edit be? -/
def editOk (e : EditV) : Bool := nameOk e.site e.seq && inB e.ctx 0 1099511627776 && inB e.at_ 0 20000 && editKind e
theorem editBox {w W0 : World} {e : EditV} (hW : w.alloc (.cells e.cs.toArray 33) = W0) : Mine.Mod none_ w W0 ∧ Blk W0 w.heap.size e.cs 33 := by
  rw [← hW]
  exact ⟨(Mine.Mod.refl none_ w).alloc _, Blk.new⟩

set_option maxHeartbeats 4000000 in
set_option maxRecDepth 1000000 in
theorem mayEdit_any (e : EditV) (w : World) (h : e.ok w) :
    Calls Tryz.prog 82 #[e.v] w fun r w' => r = .returned (.bool (editOk e)) ∧ Mine.Mod none_ w w' := by
  obtain ⟨W0, hW0⟩ : ∃ W0, w.alloc (.cells e.cs.toArray 33) = W0 := ⟨_, rfl⟩
  obtain ⟨m0, kB⟩ := editBox hW0
  obtain ⟨K, hK⟩ : ∃ K, w.heap.size = K := ⟨_, rfl⟩
  rw [hK] at kB
  have M0 := Lib.hid m0
  have K0 := Lib.hid kB
  have HO := Lib.hid (h.grown m0)
  have hsz := h.sz
  obtain ⟨R, hR⟩ : ∃ R, R = editOk e := ⟨_, rfl⟩
  rw [← hR]
  have HR := Lib.hid hR
  have c0 : W0.cell? ⟨K, 0, none⟩ = some (.int .i64 e.site) := by rw [kB.cell]; rfl
  have c1 : W0.cell? ⟨K, 1, none⟩ = some (.int .i64 e.seq) := by rw [kB.cell]; rfl
  clear h m0 kB hR
  go_enter Tryz.func82, Tryz.ntmps82
  go_upto_region 1 with fail
  clear hW0 hK
  go_wp2_with fail
  refine (vname_any e.site e.seq _).mono ?_
  rintro r w1 ⟨rfl, m1⟩
  have M1 := Lib.hid (M0.out.trans m1)
  have K1 := Lib.hid (K0.out.mod m1 (fun e => e))
  have H1 := Lib.hid (HO.out.grown m1)
  have c2 : w1.cell? ⟨K, 2, none⟩ = some (.int .i64 e.ctx) := by rw [K1.out.cell]; rfl
  have c3 : w1.cell? ⟨K, 3, none⟩ = some (.int .i64 e.kind) := by rw [K1.out.cell]; rfl
  have c4 : w1.cell? ⟨K, 4, none⟩ = some (.int .i64 e.at_) := by rw [K1.out.cell]; rfl
  have c5 : w1.cell? ⟨K, 5, none⟩ = some (.int .i64 e.len) := by rw [K1.out.cell]; rfl
  have c6 : w1.cell? ⟨K, 6, none⟩ = some (.string e.text) := by rw [K1.out.cell]; rfl
  clear m1 c0 c1 M0 K0 HO
  cases hq : nameOk e.site e.seq
  · have HE := Lib.hid (show R = false by rw [HR.out]; unfold editOk; rw [hq]; rfl)
    go_wp2_with fail
    go_ret
    exact ⟨by rw [HE.out]; rfl, M1.out⟩
  cases hx : inB e.ctx 0 1099511627776
  · have HE := Lib.hid (show R = false by rw [HR.out]; unfold editOk; rw [hx, Bool.and_false]; rfl)
    go_wp2_with fail
    refine (owithin_any e.ctx 0 1099511627776 _).mono ?_
    rintro r w2 ⟨rfl, rfl⟩
    rw [hx]
    go_wp2_with fail
    go_ret
    exact ⟨by rw [HE.out]; rfl, M1.out⟩
  go_wp2_with fail
  refine (owithin_any e.ctx 0 1099511627776 _).mono ?_
  rintro r w2 ⟨rfl, rfl⟩
  rw [hx]
  cases ha : inB e.at_ 0 20000
  · have HE := Lib.hid (show R = false by rw [HR.out]; unfold editOk; rw [ha, Bool.and_false]; rfl)
    go_wp2_with fail
    refine (owithin_any e.at_ 0 20000 _).mono ?_
    rintro r w3 ⟨rfl, rfl⟩
    rw [ha]
    go_wp2_with fail
    go_ret
    exact ⟨by rw [HE.out]; rfl, M1.out⟩
  have HR2 := Lib.hid (show R = editKind e by rw [HR.out]; unfold editOk; rw [hq, hx, ha]; rfl)
  go_wp2_with fail
  refine (owithin_any e.at_ 0 20000 _).mono ?_
  rintro r w3 ⟨rfl, rfl⟩
  rw [ha]
  clear hq hx ha HR
  by_cases hk1 : e.kind = 1
  · have HR3 := Lib.hid (show R = (decide (e.len = 0) && textOk e.text) by rw [HR2.out]; unfold editKind; rw [if_pos hk1])
    rw [hk1] at c3
    clear hk1
    by_cases hl : e.len = 0
    · rw [hl] at c5
      have HR4 := Lib.hid (show R = textOk e.text by rw [HR3.out, hl]; rfl)
      clear hl
      go_wp2_with fail
      refine (mayText_any e.text _ H1.out.tx hsz).mono ?_
      rintro r w4 ⟨rfl, m4⟩
      have M4 := Lib.hid (M1.out.trans m4)
      clear m4
      go_wp2_with fail
      go_ret
      exact ⟨by rw [HR4.out]; rfl, M4.out⟩
    · have hb : (e.len == 0) = false := by simpa using hl
      have HE := Lib.hid (show R = false by rw [HR3.out]; simp [hl])
      go_wp2_with fail
      go_ret
      exact ⟨by rw [HE.out]; rfl, M1.out⟩
  have hb1 : (e.kind == 1) = false := by simpa using hk1
  by_cases hk2 : e.kind = 2
  · have HR3 := Lib.hid (show R = (inB e.len 1 20000 && e.text.toList.isEmpty) by rw [HR2.out]; unfold editKind; rw [if_neg hk1, if_pos hk2])
    rw [hk2] at c3
    clear hk1 hk2 hb1
    cases hl : inB e.len 1 20000
    · have HE := Lib.hid (show R = false by rw [HR3.out, hl]; rfl)
      go_wp2_with fail
      refine (owithin_any e.len 1 20000 _).mono ?_
      rintro r w4 ⟨rfl, rfl⟩
      rw [hl]
      go_wp2_with fail
      go_ret
      exact ⟨by rw [HE.out]; rfl, M1.out⟩
    · cases ht : e.text.toList.isEmpty
      · have HE := Lib.hid (show R = false by rw [HR3.out, ht, Bool.and_false])
        go_wp2_with fail
        refine (owithin_any e.len 1 20000 _).mono ?_
        rintro r w4 ⟨rfl, rfl⟩
        rw [hl]
        go_wp2_with fail
        go_ret
        exact ⟨by rw [HE.out]; rfl, M1.out⟩
      · have HE := Lib.hid (show R = true by rw [HR3.out, ht, hl]; rfl)
        rw [text_empty ht] at c6
        clear ht
        go_wp2_with fail
        refine (owithin_any e.len 1 20000 _).mono ?_
        rintro r w4 ⟨rfl, rfl⟩
        rw [hl]
        go_wp2_with fail
        go_ret
        exact ⟨by rw [HE.out]; rfl, M1.out⟩
  · have hb2 : (e.kind == 2) = false := by simpa using hk2
    have HE := Lib.hid (show R = false by rw [HR2.out]; unfold editKind; rw [if_neg hk1, if_neg hk2])
    go_wp2_with fail
    go_ret
    exact ⟨by rw [HE.out]; rfl, M1.out⟩

theorem inB_two (x lo hi : Int) : inB x lo hi = (!decide (x < lo) && !decide (hi < x)) := by
  unfold inB
  rw [Bool.eq_iff_iff]
  simp
theorem inB_ge (x lo hi : Int) : inB x lo hi = (decide (lo ≤ x) && decide (x ≤ hi)) := by
  unfold inB
  rw [Bool.eq_iff_iff]
  simp

set_option maxHeartbeats 4000000 in
set_option maxRecDepth 1000000 in
theorem rmayEdit_any (e : EditV) (w : World) (h : e.ok w) :
    Calls Tryz.prog 45 #[e.v] w fun r w' => r = .returned (.bool (editOk e)) ∧ Mine.Mod none_ w w' := by
  obtain ⟨W0, hW0⟩ : ∃ W0, w.alloc (.cells e.cs.toArray 33) = W0 := ⟨_, rfl⟩
  obtain ⟨m0, kB⟩ := editBox hW0
  obtain ⟨K, hK⟩ : ∃ K, w.heap.size = K := ⟨_, rfl⟩
  rw [hK] at kB
  have M0 := Lib.hid m0
  have K0 := Lib.hid kB
  have hsz := h.sz
  obtain ⟨R, hR⟩ : ∃ R, R = editOk e := ⟨_, rfl⟩
  rw [← hR]
  have HR := Lib.hid hR
  have c0 : W0.cell? ⟨K, 0, none⟩ = some (.int .i64 e.site) := by rw [kB.cell]; rfl
  have c1 : W0.cell? ⟨K, 1, none⟩ = some (.int .i64 e.seq) := by rw [kB.cell]; rfl
  clear h m0 kB hR
  go_enter Tryz.func45, Tryz.ntmps45
  go_upto_region 1 with fail
  clear hW0 hK
  go_wp2_with fail
  refine (rname_any e.site e.seq _).mono ?_
  rintro r w1 ⟨rfl, m1⟩
  have M1 := Lib.hid (M0.out.trans m1)
  have K1 := Lib.hid (K0.out.mod m1 (fun e => e))
  have c2 : w1.cell? ⟨K, 2, none⟩ = some (.int .i64 e.ctx) := by rw [K1.out.cell]; rfl
  have c3 : w1.cell? ⟨K, 3, none⟩ = some (.int .i64 e.kind) := by rw [K1.out.cell]; rfl
  have c4 : w1.cell? ⟨K, 4, none⟩ = some (.int .i64 e.at_) := by rw [K1.out.cell]; rfl
  have c5 : w1.cell? ⟨K, 5, none⟩ = some (.int .i64 e.len) := by rw [K1.out.cell]; rfl
  have c6 : w1.cell? ⟨K, 6, none⟩ = some (.string e.text) := by rw [K1.out.cell]; rfl
  clear m1 c0 c1 M0 K0
  have HB := Lib.hid (show R = (nameOk e.site e.seq && (!decide (e.ctx < 0) && !decide (1099511627776 < e.ctx)) && (!decide (e.at_ < 0) && !decide (20000 < e.at_)) && editKind e) by rw [HR.out, ← inB_two, ← inB_two]; rfl)
  cases hq : nameOk e.site e.seq
  · have HE := Lib.hid (show R = false by rw [HB.out, hq]; rfl)
    go_wp2_with fail
    go_ret
    exact ⟨by rw [HE.out]; rfl, M1.out⟩
  cases hx1 : decide (e.ctx < 0)
  case true =>
    have HE := Lib.hid (show R = false by rw [HB.out, hq, hx1]; rfl)
    go_wp2_with fail
    go_ret
    exact ⟨by rw [HE.out]; rfl, M1.out⟩
  cases hx2 : decide (1099511627776 < e.ctx)
  case true =>
    have HE := Lib.hid (show R = false by rw [HB.out, hq, hx1, hx2]; rfl)
    go_wp2_with fail
    go_ret
    exact ⟨by rw [HE.out]; rfl, M1.out⟩
  cases ha1 : decide (e.at_ < 0)
  case true =>
    have HE := Lib.hid (show R = false by rw [HB.out, hq, hx1, hx2, ha1]; rfl)
    go_wp2_with fail
    go_ret
    exact ⟨by rw [HE.out]; rfl, M1.out⟩
  cases ha2 : decide (20000 < e.at_)
  case true =>
    have HE := Lib.hid (show R = false by rw [HB.out, hq, hx1, hx2, ha1, ha2]; rfl)
    go_wp2_with fail
    go_ret
    exact ⟨by rw [HE.out]; rfl, M1.out⟩
  have HR2 := Lib.hid (show R = editKind e by rw [HB.out, hq, hx1, hx2, ha1, ha2]; rfl)
  clear HB HR
  by_cases hk1 : e.kind = 1
  · have HR3 := Lib.hid (show R = (decide (e.len = 0) && textOk e.text) by rw [HR2.out]; unfold editKind; rw [if_pos hk1])
    rw [hk1] at c3
    clear hk1
    by_cases hl : e.len = 0
    · rw [hl] at c5
      have HR4 := Lib.hid (show R = textOk e.text by rw [HR3.out, hl]; rfl)
      clear hl
      go_wp2_with fail
      refine (rtextOk_any e.text _ hsz).mono ?_
      rintro r w4 ⟨rfl, m4⟩
      have M4 := Lib.hid (M1.out.trans m4)
      clear m4
      go_wp2_with fail
      go_ret
      exact ⟨by rw [HR4.out]; rfl, M4.out⟩
    · have hb : (e.len == 0) = false := by simpa using hl
      have HE := Lib.hid (show R = false by rw [HR3.out]; simp [hl])
      go_wp2_with fail
      go_ret
      exact ⟨by rw [HE.out]; rfl, M1.out⟩
  have hb1 : (e.kind == 1) = false := by simpa using hk1
  by_cases hk2 : e.kind = 2
  · have HR3 := Lib.hid (show R = ((decide (1 ≤ e.len) && decide (e.len ≤ 20000)) && e.text.toList.isEmpty) by rw [HR2.out, ← inB_ge]; unfold editKind; rw [if_neg hk1, if_pos hk2])
    rw [hk2] at c3
    clear hk1 hk2 hb1
    cases hl1 : decide (1 ≤ e.len)
    · have HE := Lib.hid (show R = false by rw [HR3.out, hl1]; rfl)
      go_wp2_with fail
      go_ret
      exact ⟨by rw [HE.out]; rfl, M1.out⟩
    cases hl2 : decide (e.len ≤ 20000)
    · have HE := Lib.hid (show R = false by rw [HR3.out, hl1, hl2]; rfl)
      go_wp2_with fail
      go_ret
      exact ⟨by rw [HE.out]; rfl, M1.out⟩
    cases ht : e.text.toList.isEmpty
    · have HE := Lib.hid (show R = false by rw [HR3.out, ht, Bool.and_false])
      go_wp2_with fail
      go_ret
      exact ⟨by rw [HE.out]; rfl, M1.out⟩
    · have HE := Lib.hid (show R = true by rw [HR3.out, ht, hl1, hl2]; rfl)
      rw [text_empty ht] at c6
      clear ht
      go_wp2_with fail
      go_ret
      exact ⟨by rw [HE.out]; rfl, M1.out⟩
  · have hb2 : (e.kind == 2) = false := by simpa using hk2
    have HE := Lib.hid (show R = false by rw [HR2.out]; unfold editKind; rw [if_neg hk1, if_neg hk2])
    go_wp2_with fail
    go_ret
    exact ⟨by rw [HE.out]; rfl, M1.out⟩
end Go.Proofs.YtlidmajcdjlcnaaGreatDoor

namespace Go.Proofs.YtlidmajcdjlcnaaGreatDoor
open Go.RowKit Go.Mine

/-- Numbers in memory. -/
structure IsVec (w : World) (a : Option Addr) (len cap : Nat) (l : List Int) : Prop where
  n : l.length = len
  le : len ≤ cap
  big : cap ≤ maxLen
  ok : ∀ x ∈ l, -9223372036854775808 ≤ x ∧ x ≤ 9223372036854775807
  cells : ∀ (i : Nat) (x : Int), l[i]? = some x → ∃ b off, a = some ⟨b, off, none⟩ ∧ w.cell? ⟨b, off + i, none⟩ = some (.int .i64 x)
theorem IsVec.grown {w w' : World} {a : Option Addr} {len cap : Nat} {l : List Int} (h : IsVec w a len cap l) (m : Mine.Mod none_ w w') : IsVec w' a len cap l :=
  ⟨h.n, h.le, h.big, h.ok, fun i x hx => by
    obtain ⟨b, off, e, c0⟩ := h.cells i x hx
    exact ⟨b, off, e, m.cell (fun e => e) c0⟩⟩

def lastPos (l : List Int) : Bool := match l.getLast? with
  | none => true
  | some x => decide (0 < x)
/-- May a vector be? -/
def vecOk (l : List Int) : Bool := (l.all fun x => inB x 0 1099511627776) && decide (l.length ≤ 16) && lastPos l
/-- The count of a site. -/
def cntV (l : List Int) (s : Int) : Int := if inB s 1 l.length then (l[(s - 1).toNat]?).getD 0 else 0
theorem vec_snoc {l : List Int} {k : Nat} {x : Int} (h : l[k]? = some x) : l.take (k + 1) = l.take k ++ [x] := by
  obtain ⟨hk, e⟩ := List.getElem?_eq_some_iff.1 h
  rw [List.take_succ_eq_append_getElem hk, e]
theorem lastPos_at {l : List Int} {n : Nat} {x : Int} (hl : l.length = n + 1) (hx : l[n]? = some x) : lastPos l = decide (0 < x) := by
  unfold lastPos
  rw [List.getLast?_eq_getElem?, hl, Nat.add_sub_cancel, hx]
theorem cntV_le {l : List Int} (h : vecOk l = true) (s : Int) : 0 ≤ cntV l s ∧ cntV l s ≤ 1099511627776 := by
  unfold cntV
  split
  · cases hx : l[(s - 1).toNat]? with
    | none => simp
    | some x =>
      unfold vecOk at h
      simp only [Bool.and_eq_true] at h
      have := List.all_eq_true.1 h.1.1 x (List.mem_of_getElem? hx)
      unfold inB at this
      simp only [decide_eq_true_eq] at this
      simpa using this
  · simp

set_option maxHeartbeats 2000000 in
set_option maxRecDepth 1000000 in
theorem vmay_any (w : World) (a : Option Addr) (len cap : Nat) (l : List Int) (h : IsVec w a len cap l) :
    Calls Tryz.prog 75 #[.slice a len cap] w fun e w' => e = .returned (.bool (vecOk l)) ∧ Mine.Mod none_ w w' := by
  have hle := h.le
  have hcap := h.big
  unfold maxLen at hcap
  have H := Lib.hid h
  have HN := Lib.hid h.n
  obtain ⟨R, hR⟩ : ∃ R, R = vecOk l := ⟨_, rfl⟩
  rw [← hR]
  have HR := Lib.hid hR
  clear h hR
  go_enter Tryz.func75, Tryz.ntmps75
  go_wp2_with fail
  go_loopg [7] len (fun g s7 wx => ∃ k : Nat, g = len - k ∧ s7 = .int .i64 k ∧ k ≤ len ∧ wx = w ∧ RowKit.Hid (((l.take k).all fun x => inB x 0 1099511627776) = true))
  case atStart => exact ⟨0, rfl, rfl, Nat.zero_le _, rfl, Lib.hid rfl⟩
  case round =>
    obtain ⟨k, rfl, rfl, hk, rfl, hst⟩ := hrel
    by_cases hlk : k < len
    · obtain ⟨x, hx⟩ : ∃ x, l[k]? = some x := ⟨l[k]'(by rw [HN.out]; exact hlk), by simp⟩
      obtain ⟨b, off, rfl, c0⟩ := H.out.cells k x hx
      have HX := Lib.hid hx
      clear hx
      cases hb : inB x 0 1099511627776
      · have HE := Lib.hid (show R = false by
          rw [HR.out]; unfold vecOk
          have : (l.all fun x => inB x 0 1099511627776) = false := by
            rw [List.all_eq_false]
            exact ⟨x, List.mem_of_getElem? HX.out, by rw [hb]; simp⟩
          rw [this]; rfl)
        clear hst
        go_wp2_with fail
        refine (vwithin_any x 0 1099511627776 _).mono ?_
        rintro e w1 ⟨rfl, rfl⟩
        rw [hb]
        go_wp2_with fail
        go_ret
        exact ⟨by rw [HE.out]; rfl, Mine.Mod.refl _ _⟩
      · have HST := Lib.hid (show ((l.take (k + 1)).all fun x => inB x 0 1099511627776) = true by
          rw [vec_snoc HX.out, List.all_append, hst.out]
          simp [hb])
        clear hst
        go_wp2_with fail
        refine (vwithin_any x 0 1099511627776 _).mono ?_
        rintro e w1 ⟨rfl, rfl⟩
        rw [hb]
        go_wp2_with fail
        go_roundg (len - (k + 1))
        all_goals first
          | omega
          | exact ⟨k + 1, rfl, by go_num, by omega, rfl, HST⟩
    · obtain rfl : k = len := by omega
      have HALL := Lib.hid (show (l.all fun x => inB x 0 1099511627776) = true by
        have := hst.out
        rw [List.take_of_length_le (by rw [HN.out]; exact Nat.le_refl _)] at this
        exact this)
      clear hst
      by_cases h16 : (k : Int) ≤ 16
      · have d16 : decide ((k : Int) ≤ 16) = true := by simpa using h16
        cases k with
        | zero =>
          have HE := Lib.hid (show R = true by
            rw [HR.out]; unfold vecOk
            rw [HALL.out]
            have : l = [] := List.eq_nil_of_length_eq_zero HN.out
            rw [this]; rfl)
          go_wp2_with fail
          go_ret
          exact ⟨by rw [HE.out]; rfl, Mine.Mod.refl _ _⟩
        | succ n =>
          obtain ⟨x, hx⟩ : ∃ x, l[n]? = some x := ⟨l[n]'(by rw [HN.out]; omega), by simp⟩
          obtain ⟨b, off, rfl, c0⟩ := H.out.cells n x hx
          have HE := Lib.hid (show R = decide (0 < x) by
            rw [HR.out]; unfold vecOk
            rw [HALL.out, lastPos_at HN.out hx, HN.out]
            have : decide (n + 1 ≤ 16) = true := by simp; omega
            rw [this]; rfl)
          have hz : ((n : Int) + 1 == 0) = false := by rw [beq_eq_false_iff_ne]; omega
          have hw1 : IntKind.i64.wrap ((n : Int) + 1 - 1) = (n : Int) := by rw [IntKind.wrap_i64]; omega
          clear hx
          go_wp2_with fail
          go_ret
          exact ⟨by rw [HE.out]; rfl, Mine.Mod.refl _ _⟩
      · have d16 : decide ((k : Int) ≤ 16) = false := by simpa using h16
        have HE := Lib.hid (show R = false by
          rw [HR.out]; unfold vecOk
          have : decide (l.length ≤ 16) = false := by rw [HN.out]; simp; omega
          rw [this, Bool.and_false, Bool.false_and])
        go_wp2_with fail
        go_ret
        exact ⟨by rw [HE.out]; rfl, Mine.Mod.refl _ _⟩

set_option maxHeartbeats 2000000 in
set_option maxRecDepth 1000000 in
theorem vcount_any (w : World) (a : Option Addr) (len cap : Nat) (l : List Int) (s : Int) (h : IsVec w a len cap l) (_hs : -9223372036854775808 ≤ s ∧ s ≤ 9223372036854775807) :
    Calls Tryz.prog 77 #[.slice a len cap, .int .i64 s] w fun e w' => e = .returned (.int .i64 (cntV l s)) ∧ Mine.Mod none_ w w' := by
  have hle := h.le
  have hcap := h.big
  unfold maxLen at hcap
  have H := Lib.hid h
  have HN := Lib.hid h.n
  clear h
  go_enter Tryz.func77, Tryz.ntmps77
  cases hb : inB s 1 (len : Int)
  · have HE := Lib.hid (show cntV l s = 0 by unfold cntV; rw [HN.out, hb]; rfl)
    go_wp2_with fail
    refine (vwithin_any s 1 (len : Int) _).mono ?_
    rintro e w1 ⟨rfl, rfl⟩
    rw [hb]
    go_wp2_with fail
    go_ret
    exact ⟨by rw [HE.out]; rfl, Mine.Mod.refl _ _⟩
  · have hs : 1 ≤ s ∧ s ≤ (len : Int) := by unfold inB at hb; simpa using hb
    obtain ⟨n, rfl⟩ : ∃ n : Nat, s = (n : Int) + 1 := ⟨(s - 1).toNat, by omega⟩
    have hnl : n < len := by omega
    obtain ⟨x, hx⟩ : ∃ x, l[n]? = some x := ⟨l[n]'(by rw [HN.out]; exact hnl), by simp⟩
    obtain ⟨b, off, rfl, c0⟩ := H.out.cells n x hx
    have HE := Lib.hid (show cntV l ((n : Int) + 1) = x by
      unfold cntV
      rw [HN.out, hb]
      simp only [if_true]
      rw [show ((n : Int) + 1 - 1).toNat = n by omega, hx]; rfl)
    have hw1 : IntKind.i64.wrap ((n : Int) + 1 - 1) = (n : Int) := by rw [IntKind.wrap_i64]; omega
    clear hx
    go_wp2_with fail
    refine (vwithin_any ((n : Int) + 1) 1 (len : Int) _).mono ?_
    rintro e w1 ⟨rfl, rfl⟩
    rw [hb]
    go_wp2_with fail
    go_ret
    exact ⟨by rw [HE.out]; rfl, Mine.Mod.refl _ _⟩

set_option maxHeartbeats 2000000 in
set_option maxRecDepth 1000000 in
/-- Has, of a vector and a name that may be. -/
theorem vhas_any (w : World) (a : Option Addr) (len cap : Nat) (l : List Int) (s q : Int) (h : IsVec w a len cap l) (hv : vecOk l = true) (hq : nameOk s q = true) :
    Calls Tryz.prog 80 #[.slice a len cap, .agg #[.int .i64 s, .int .i64 q]] w fun e w' => e = .returned (.bool (decide (q ≤ cntV l s))) ∧ Mine.Mod none_ w w' := by
  obtain ⟨W0, hW0⟩ : ∃ W0, w.alloc (.cells #[.int .i64 s, .int .i64 q] 28) = W0 := ⟨_, rfl⟩
  obtain ⟨K, hK⟩ : ∃ K, w.heap.size = K := ⟨_, rfl⟩
  have m0 : Mine.Mod none_ w W0 := by rw [← hW0]; exact (Mine.Mod.refl none_ w).alloc _
  have k0 : Blk W0 K [.int .i64 s, .int .i64 q] 28 := by rw [← hW0, ← hK]; exact Blk.new (w := w) (cs := [.int .i64 s, .int .i64 q])
  have M0 := Lib.hid m0
  have HQ := Lib.hid hq
  have hs : -9223372036854775808 ≤ s ∧ s ≤ 9223372036854775807 := by
    unfold nameOk inB at hq
    simp only [Bool.and_eq_true, decide_eq_true_eq] at hq
    omega
  obtain ⟨n, hn⟩ : ∃ n, n = cntV l s := ⟨_, rfl⟩
  rw [← hn]
  have HV := Lib.hid (show ∀ W, Mine.Mod none_ W0 W → Calls Tryz.prog 75 #[.slice a len cap] W fun e w' => e = .returned (.bool true) ∧ Mine.Mod none_ W w' from fun W m => by
    have := vmay_any W a len cap l (h.grown (m0.trans m))
    rwa [hv] at this)
  have HC := Lib.hid (show ∀ W, Mine.Mod none_ W0 W → Calls Tryz.prog 77 #[.slice a len cap, .int .i64 s] W fun e w' => e = .returned (.int .i64 n) ∧ Mine.Mod none_ W w' from fun W m => by
    have := vcount_any W a len cap l s (h.grown (m0.trans m)) hs
    rwa [← hn] at this)
  have c0 : W0.cell? ⟨K, 0, none⟩ = some (.int .i64 s) := by rw [k0.cell]; rfl
  have c1 : W0.cell? ⟨K, 1, none⟩ = some (.int .i64 q) := by rw [k0.cell]; rfl
  clear h hv hq hn m0 k0 hs
  go_enter Tryz.func80, Tryz.ntmps80
  go_upto_region 1 with fail
  clear hW0 hK
  refine wp_region_held_drew (S := fun w' => Mine.Mod none_ W0 w' ∧ w'.cell? ⟨K, 0, none⟩ = some (.int .i64 s) ∧ w'.cell? ⟨K, 1, none⟩ = some (.int .i64 q)) (by kernel_rfl) ⟨Mine.Mod.drew (Mine.Mod.refl none_ W0), c0, c1⟩ (fun hS => ?_)
  refine wpAnyH_take (i := 0) (v := .slice a len cap) rfl (by kernel_rfl) (by kernel_rfl) (by kernel_rfl) (fun _ _ _ h => h) (Or.inl ⟨by kernel_rfl, ?_⟩) hS ?_
  · rintro w' ⟨_, q0, q1⟩; go_simp
  try simp only [Act.put, List.setIfInBounds_toArray, List.set_cons_zero, List.set_cons_succ]
  refine wpAnyH_ready (rs := [1]) (by kernel_rfl) (by simp) (AllReadyH.cons rfl (fun K2 hK2 => ?_) <| AllReadyH.nil)
  go_simp
  refine (HV.out _ hS.1).mono ?_
  rintro e w1 ⟨rfl, m1⟩
  refine hK2.out _ _ ⟨hS.1.trans m1, m1.cell (fun e => e) hS.2.1, m1.cell (fun e => e) hS.2.2⟩ (fun hS => ?_)
  clear hK2 K2 m1
  try simp only [Act.put, List.setIfInBounds_toArray, List.set_cons_zero, List.set_cons_succ]
  refine wpAnyH_take (i := 2) (v := .bool true) rfl (by kernel_rfl) (by kernel_rfl) (by kernel_rfl) (fun _ _ _ h => h) (Or.inl ⟨by kernel_rfl, ?_⟩) hS ?_
  · rintro w' ⟨_, q0, q1⟩; go_simp
  try simp only [Act.put, List.setIfInBounds_toArray, List.set_cons_zero, List.set_cons_succ]
  refine wpAnyH_take (i := 3) (v := .agg #[.int .i64 s, .int .i64 q]) rfl (by kernel_rfl) (by kernel_rfl) (by kernel_rfl) (fun _ _ _ h => h) (Or.inl ⟨by kernel_rfl, ?_⟩) hS ?_
  · rintro w' ⟨_, q0, q1⟩; go_simp
  try simp only [Act.put, List.setIfInBounds_toArray, List.set_cons_zero, List.set_cons_succ]
  refine wpAnyH_ready (rs := [4]) (by kernel_rfl) (by simp) (AllReadyH.cons rfl (fun K2 hK2 => ?_) <| AllReadyH.nil)
  rw [if_pos (by kernel_rfl)]
  go_simp
  refine (vname_any s q _).mono ?_
  rintro e w2 ⟨rfl, m2⟩
  rw [HQ.out]
  refine hK2.out _ _ ⟨hS.1.trans m2, m2.cell (fun e => e) hS.2.1, m2.cell (fun e => e) hS.2.2⟩ (fun hS => ?_)
  clear hK2 K2 m2
  try simp only [Act.put, List.setIfInBounds_toArray, List.set_cons_zero, List.set_cons_succ]
  refine wpAnyH_take (i := 5) (v := .bool true) rfl (by kernel_rfl) (by kernel_rfl) (by kernel_rfl) (fun _ _ _ h => h) (Or.inl ⟨by kernel_rfl, ?_⟩) hS ?_
  · rintro w' ⟨_, q0, q1⟩; go_simp
  try simp only [Act.put, List.setIfInBounds_toArray, List.set_cons_zero, List.set_cons_succ]
  refine wpAnyH_take (i := 6) (v := .bool true) rfl (by kernel_rfl) (by kernel_rfl) (by kernel_rfl) (fun _ _ _ h => h) (Or.inl ⟨by kernel_rfl, ?_⟩) hS ?_
  · rintro w' ⟨_, q0, q1⟩; go_simp
  try simp only [Act.put, List.setIfInBounds_toArray, List.set_cons_zero, List.set_cons_succ]
  refine wpAnyH_take (i := 7) (v := .pointer (some ⟨K, 1, none⟩)) rfl (by kernel_rfl) (by kernel_rfl) (by kernel_rfl) (fun _ _ _ h => h) (Or.inl ⟨by kernel_rfl, ?_⟩) hS ?_
  · rintro w' ⟨_, q0, q1⟩; go_simp
  try simp only [Act.put, List.setIfInBounds_toArray, List.set_cons_zero, List.set_cons_succ]
  refine wpAnyH_take (i := 8) (v := .int .i64 q) rfl (by kernel_rfl) (by kernel_rfl) (by kernel_rfl) (fun _ _ _ h => h) (Or.inl ⟨by kernel_rfl, ?_⟩) hS ?_
  · rintro w' ⟨_, q0, q1⟩; go_simp
  try simp only [Act.put, List.setIfInBounds_toArray, List.set_cons_zero, List.set_cons_succ]
  refine wpAnyH_take (i := 9) (v := .slice a len cap) rfl (by kernel_rfl) (by kernel_rfl) (by kernel_rfl) (fun _ _ _ h => h) (Or.inl ⟨by kernel_rfl, ?_⟩) hS ?_
  · rintro w' ⟨_, q0, q1⟩; go_simp
  try simp only [Act.put, List.setIfInBounds_toArray, List.set_cons_zero, List.set_cons_succ]
  refine wpAnyH_take (i := 10) (v := .pointer (some ⟨K, 0, none⟩)) rfl (by kernel_rfl) (by kernel_rfl) (by kernel_rfl) (fun _ _ _ h => h) (Or.inl ⟨by kernel_rfl, ?_⟩) hS ?_
  · rintro w' ⟨_, q0, q1⟩; go_simp
  try simp only [Act.put, List.setIfInBounds_toArray, List.set_cons_zero, List.set_cons_succ]
  refine wpAnyH_take (i := 11) (v := .int .i64 s) rfl (by kernel_rfl) (by kernel_rfl) (by kernel_rfl) (fun _ _ _ h => h) (Or.inl ⟨by kernel_rfl, ?_⟩) hS ?_
  · rintro w' ⟨_, q0, q1⟩; go_simp
  try simp only [Act.put, List.setIfInBounds_toArray, List.set_cons_zero, List.set_cons_succ]
  refine wpAnyH_ready (rs := [12]) (by kernel_rfl) (by simp) (AllReadyH.cons rfl (fun K2 hK2 => ?_) <| AllReadyH.nil)
  rw [if_pos (by kernel_rfl)]
  go_simp
  refine (HC.out _ hS.1).mono ?_
  rintro e w3 ⟨rfl, m3⟩
  refine hK2.out _ _ ⟨hS.1.trans m3, m3.cell (fun e => e) hS.2.1, m3.cell (fun e => e) hS.2.2⟩ (fun hS => ?_)
  clear hK2 K2 m3
  try simp only [Act.put, List.setIfInBounds_toArray, List.set_cons_zero, List.set_cons_succ]
  refine wpAnyH_take (i := 13) (v := .bool (decide (q ≤ n))) rfl (by kernel_rfl) (by kernel_rfl) (by kernel_rfl) (fun _ _ _ h => h) (Or.inl ⟨by kernel_rfl, ?_⟩) hS ?_
  · rintro w' ⟨_, q0, q1⟩; go_simp
  try simp only [Act.put, List.setIfInBounds_toArray, List.set_cons_zero, List.set_cons_succ]
  refine wpAnyH_take (i := 14) (v := .bool (decide (q ≤ n))) rfl (by kernel_rfl) (by kernel_rfl) (by kernel_rfl) (fun _ _ _ h => h) (Or.inl ⟨by kernel_rfl, ?_⟩) hS ?_
  · rintro w' ⟨_, q0, q1⟩; go_simp
  try simp only [Act.put, List.setIfInBounds_toArray, List.set_cons_zero, List.set_cons_succ]
  refine wpAnyH_take (i := 15) (v := .bool (decide (q ≤ n))) rfl (by kernel_rfl) (by kernel_rfl) (by kernel_rfl) (fun _ _ _ h => h) (Or.inl ⟨by kernel_rfl, ?_⟩) hS ?_
  · rintro w' ⟨_, q0, q1⟩; go_simp
  try simp only [Act.put, List.setIfInBounds_toArray, List.set_cons_zero, List.set_cons_succ]
  refine wpAnyH_done (by kernel_rfl) ?_ _
  try simp only [List.getElem_toArray, List.getElem_cons_succ, List.getElem_cons_zero]
  try simp only [Act.put, List.setIfInBounds_toArray, List.set_cons_zero, List.set_cons_succ]
  have MF := Lib.hid (M0.out.trans hS.1)
  clear hS c0 c1
  go_wp2_with fail
  go_ret
  exact ⟨rfl, MF.out⟩
end Go.Proofs.YtlidmajcdjlcnaaGreatDoor

namespace Go.Mine
open Go.RowKit

theorem setRow_mod (w : World) (g : Nat) (cs : Array Value) : Mod (one g) w (w.setRow g cs) :=
  ⟨rfl, rfl, rfl, by rw [setRow_size]; exact Nat.le_refl _, fun k _ hk => setRow_other w g k cs hk⟩
theorem run_copyN {P : Program} {w : World} {T E t : TypeId} {i0 : TypeInfo} {sz : Nat} (hu : P.underlying T = some (.slice E)) (hi : P.info? E = some i0) (hs : i0.size = sz)
    (ty : TypeId) (g o dLen dCap : Nat) (a : Addr) (sLen sCap : Nat) (cur cs : List Value) (hg : Blk w g cur t) (hn : cs.length = Nat.min sLen dLen * sz)
    (hsrc : ∀ j v, cs[j]? = some v → w.cell? (a.add j) = some v) (hfit : o + cs.length ≤ cur.length) (h1 : ∀ v ∈ cs, v.oneCell' = true) :
    ∃ w', (Builtin.copy_ #[T, T] ty #[.slice (some ⟨g, o, none⟩) dLen dCap, .slice (some a) sLen sCap]).run P w = .ok (goInt (Nat.min sLen dLen)) w' ∧ Blk w' g (cur.take o ++ cs ++ cur.drop (o + cs.length)) t ∧ Mod (one g) w w' := by
  have hl := run_loadCells_list (P := P) w a cs hsrc
  have hst := run_storeCells_at P g o t cs 0 cur.toArray w hg (by simpa using hfit) h1
  refine ⟨w.setRow g (cur.toArray.toList.take (o + 0) ++ cs ++ cur.toArray.toList.drop (o + 0 + cs.length)).toArray, ?_, ?_, setRow_mod w g _⟩
  · simp only [Builtin.copy_]
    simp [run_underlying hu, Builtin.lenOf, Builtin.firstCells, sizeOf, typeInfo, hi, hs, ← hn, hl, hst]
  · have := setRow_heap w g cur.toArray (cur.toArray.toList.take (o + 0) ++ cs ++ cur.toArray.toList.drop (o + 0 + cs.length)).toArray t (0, 0) hg
    unfold Blk
    rw [this]; simp
theorem Blk.shape {w : World} {b : Nat} {cs : List Value} {t : TypeId} (h : Blk w b cs t) : w.shape? b = some (t, cs.length) := by
  unfold Blk at h
  simp [World.shape?, h]
theorem Blk.row {w : World} {b : Nat} {cs : List Value} {t : TypeId} (h : Blk w b cs t) (k j : Nat) (v : Value) (hv : (cs.drop k)[j]? = some v) : w.cell? ((⟨b, k, none⟩ : Addr).add j) = some v := by
  rw [Addr.add_lit, h.cell, ← List.getElem?_drop]; exact hv
/-- append, and where its row lies: where it lay, or in new memory. -/
theorem append_fresh {P : Program} {w : World} {base : Nat} {t ty e : TypeId} {i : TypeInfo} {z : Value} {size bytes : Nat} (ht : P.underlying t = some (.slice e)) (hi : P.info? e = some i) (hz : i.zero = some z)
    (hsize : i.size = size) (hby : i.bytes = bytes) (hzs : z.cells.size = size) (hsz : 0 < size)
    {v : Value} {n : Nat} {xs : List Value} (hown : w.ownsRow base e size v n xs)
    (a : Addr) (m c : Nat) (news : List Value) (hl : news.length = m * size) (hnews : ∀ j u, news[j]? = some u → w.cell? (a.add j) = some u) (h1 : ∀ u ∈ news, u.oneCell' = true)
    (h63 : n + m ≤ maxLen) (hbytes : (n + m) * bytes ≤ 140737488355328) (hbase : base ≤ w.heap.size) (hm : 0 < m) :
    ∃ v' w', (Builtin.append_ #[t, t] ty #[v, .slice (some a) m c]).run P w = .ok v' w' ∧ w'.ownsRow base e size v' (n + m) (xs ++ news) ∧ w.grownBy w' v.ownBlock ∧ ∀ g, v'.ownBlock = some g → v.ownBlock = some g ∨ w.heap.size ≤ g := by
  obtain ⟨v', w', hrun, ho, hg, _⟩ := run_append_own (P := P) w base t ty e i z size bytes ht hi hz hsize hby hzs hsz v n xs hown a m c news hl hnews h1 h63 hbytes hbase
  refine ⟨v', w', hrun, ho, hg, ?_⟩
  subst hsize
  have hs : Src P i.size t (.slice (some a) m c) m news w := Src.ofSlice (w := w) ht a m c news hl hnews h1
  unfold maxLen at h63
  rcases ownsRow_blk hown with ⟨rfl, rfl, rfl⟩ | ⟨g, cap, more, rfl, _, hb, hnc, hcm, hln⟩
  · have := run_append_grow_src (P := P) (w := w) t t ty e i z ht hi hz none 0 0 [] (by simpa using run_firstCells_none (P := P) w.drew i.size 0 0 0) _ m news hs (by omega) (by omega) (growslice_fits (by omega) (by rw [hby]; simpa using hbytes))
    rw [this] at hrun
    cases hrun
    intro g hg
    cases hg
    exact .inr (Nat.le_refl _)
  · have hxl := hown.1
    by_cases hroom : n + m ≤ cap
    · have h2 : n * i.size + news.length ≤ cap * i.size := by
        rw [hl, ← Nat.add_mul]; exact Nat.mul_le_mul_right _ hroom
      have := run_append_room (P := P) w t ty e i ht hi g n cap (xs ++ more).toArray hb a m c news hl hnews h1 hroom (by simp; omega)
      rw [this] at hrun
      cases hrun
      intro g' hg'
      exact .inl hg'
    · have hold : (Builtin.firstCells i.size n (.slice (some ⟨g, 0, none⟩) n cap)).run P w.drew = .ok xs.toArray w.drew := run_firstCells_some (P := P) w.drew i.size n ⟨g, 0, none⟩ n cap xs hxl (fun j u hu => by
        rw [Addr.add_lit, Nat.zero_add]
        have := hb.cell j
        rw [List.getElem?_append_left (List.getElem?_eq_some_iff.1 hu).1, hu] at this
        exact this)
      have := run_append_grow_src (P := P) (w := w) t t ty e i z ht hi hz (some ⟨g, 0, none⟩) n cap xs hold _ m news hs (by omega) (by omega) (growslice_fits (by omega) (by rw [hby]; exact hbytes))
      rw [this] at hrun
      cases hrun
      intro g' hg'
      cases hg'
      exact .inr (Nat.le_refl _)
end Go.Mine

namespace Go.Proofs.YtlidmajcdjlcnaaGreatDoor
open Go.RowKit Go.Mine

abbrev intCs (l : List Int) : List Value := l.map fun x => Value.int .i64 x
/-- Nothing is copied. -/
theorem run_copy0 {P : Program} {w : World} {T E : TypeId} {i0 : TypeInfo} (hu : P.underlying T = some (.slice E)) (hi : P.info? E = some i0) (ty : TypeId) (g o dLen dCap : Nat) (a : Option Addr) (sCap : Nat) :
    (Builtin.copy_ #[T, T] ty #[.slice (some ⟨g, o, none⟩) dLen dCap, .slice a 0 sCap]).run P w = .ok (goInt 0) w := by
  cases a with
  | none => simp [Builtin.copy_, run_underlying hu, Builtin.lenOf, Builtin.firstCells, sizeOf, typeInfo, hi, storeCells]
  | some a =>
    have hl := run_loadCells_list (P := P) w a [] (fun j v h => by simp at h)
    rw [List.length_nil] at hl
    simp [Builtin.copy_, run_underlying hu, Builtin.lenOf, Builtin.firstCells, sizeOf, typeInfo, hi, hl, storeCells]

/-- What Raise answers. -/
def raiseE (l : List Int) (s q : Int) : Int := if vecOk l && nameOk s q then (if cntV l s = 1099511627776 then 7 else if q = cntV l s + 1 then 0 else 17) else 1
/-- The vector with one more. -/
def raiseL (l : List Int) (s : Int) : List Int := (l ++ List.replicate (s.toNat - l.length) 0).set (s.toNat - 1) (cntV l s + 1)
theorem raiseL_len (l : List Int) (s : Int) : (raiseL l s).length = max l.length s.toNat := by
  unfold raiseL
  rw [List.length_set, List.length_append, List.length_replicate]
  omega
theorem grown_at {l : List Int} {s : Int} (h : 1 ≤ s) : (l ++ List.replicate (s.toNat - l.length) 0)[s.toNat - 1]? = some (cntV l s) := by
  unfold cntV inB
  by_cases hs : s ≤ (l.length : Int)
  · rw [if_pos (by simpa using ⟨h, hs⟩), List.getElem?_append_left (by omega), show (s - 1).toNat = s.toNat - 1 by omega, List.getElem?_eq_getElem (by omega)]
    rfl
  · rw [if_neg (by simpa using fun _ => by omega), List.getElem?_append_right (by omega), List.getElem?_replicate, if_pos (by omega)]
theorem infoInt : (Tryz.prog.info? 3).map (fun i => (i.zero, i.size, i.bytes)) = some (some (.int .i64 0), 1, 8) := by kernel_rfl

/-- Numbers in new memory. -/
theorem own_vec {w : World} {B n vc : Nat} {va : Option Addr} {l : List Int} (h : w.ownsRow B 3 1 (.slice va n vc) n (intCs l)) (ok : ∀ x ∈ l, -9223372036854775808 ≤ x ∧ x ≤ 9223372036854775807) : IsVec w va n vc l := by
  rcases ownsRow_blk h with ⟨h1, h2, h3⟩ | ⟨g, cap, more, h1, _, hb, hc, hm, _⟩
  · cases h1
    have : l = [] := by simpa using h3
    subst this
    exact ⟨rfl, Nat.le_refl _, Nat.zero_le _, ok, fun i x hx => by simp at hx⟩
  · cases h1
    have hl : l.length = n := by have := h.1; simpa using this
    refine ⟨hl, hc, hm, ok, fun i x hx => ⟨g, 0, rfl, ?_⟩⟩
    have hi := (List.getElem?_eq_some_iff.1 hx).1
    rw [Nat.zero_add, hb.cell, List.getElem?_append_left (by rw [List.length_map]; exact hi), List.getElem?_map, hx]
    rfl

def RaiseTo (w : World) (l : List Int) (s q : Int) (e : Ending) (w' : World) : Prop :=
  ((raiseE l s q ≠ 0 ∧ e = .returned (.tuple #[.slice none 0 0, .int .i64 (raiseE l s q)])) ∨
    (raiseE l s q = 0 ∧ ∃ va n vc, e = .returned (.tuple #[.slice va n vc, .int .i64 0]) ∧ w'.ownsRow w.heap.size 3 1 (.slice va n vc) n (intCs (raiseL l s)))) ∧ Mine.Mod none_ w w'

set_option maxHeartbeats 8000000 in
set_option maxRecDepth 1000000 in
theorem vraise_any (w : World) (a : Option Addr) (len cap : Nat) (l : List Int) (s q : Int) (h : IsVec w a len cap l) (hs : -9223372036854775808 ≤ s ∧ s ≤ 9223372036854775807) :
    Calls Tryz.prog 48 #[.slice a len cap, .agg #[.int .i64 s, .int .i64 q]] w (RaiseTo w l s q) := by
  have hle := h.le
  have hcap := h.big
  unfold maxLen at hcap
  obtain ⟨W0, hW0⟩ : ∃ W0, w.alloc (.cells #[.int .i64 s, .int .i64 q] 28) = W0 := ⟨_, rfl⟩
  obtain ⟨K, hK⟩ : ∃ K, w.heap.size = K := ⟨_, rfl⟩
  have m0 : Mine.Mod none_ w W0 := by rw [← hW0]; exact (Mine.Mod.refl none_ w).alloc _
  have k0 : Blk W0 K [.int .i64 s, .int .i64 q] 28 := by rw [← hW0, ← hK]; exact Blk.new (w := w) (cs := [.int .i64 s, .int .i64 q])
  have M0 := Lib.hid m0
  have K0 := Lib.hid k0
  have HN := Lib.hid h.n
  have H := Lib.hid h
  have HV := Lib.hid (show ∀ W, Mine.Mod none_ w W → Calls Tryz.prog 75 #[.slice a len cap] W fun e w' => e = .returned (.bool (vecOk l)) ∧ Mine.Mod none_ W w' from fun W m => vmay_any W a len cap l (h.grown m))
  have HC := Lib.hid (show ∀ W, Mine.Mod none_ w W → Calls Tryz.prog 77 #[.slice a len cap, .int .i64 s] W fun e w' => e = .returned (.int .i64 (cntV l s)) ∧ Mine.Mod none_ W w' from fun W m => vcount_any W a len cap l s (h.grown m) hs)
  have c0 : W0.cell? ⟨K, 0, none⟩ = some (.int .i64 s) := by rw [k0.cell]; rfl
  have c1 : W0.cell? ⟨K, 1, none⟩ = some (.int .i64 q) := by rw [k0.cell]; rfl
  clear h m0 k0
  go_enter Tryz.func48, Tryz.ntmps48
  go_upto_region 1 with fail
  clear hW0 hK
  cases hv : vecOk l
  · have HE := Lib.hid (show raiseE l s q = 1 by unfold raiseE; rw [hv]; rfl)
    go_wp2_with fail
    refine (HV.out _ M0.out).mono ?_
    rintro e w1 ⟨rfl, m1⟩
    rw [hv]
    have M1 := Lib.hid (M0.out.trans m1)
    clear m1 c0 c1
    go_wp2_with fail
    go_ret2
    exact ⟨.inl ⟨by rw [HE.out]; omega, by rw [HE.out]; rfl⟩, M1.out⟩
  go_wp2_with fail
  refine (HV.out _ M0.out).mono ?_
  rintro e w1 ⟨rfl, m1⟩
  rw [hv]
  have M1 := Lib.hid (M0.out.trans m1)
  have K1 := Lib.hid (K0.out.mod m1 (fun e => e))
  have d0 : w1.cell? ⟨K, 0, none⟩ = some (.int .i64 s) := by rw [K1.out.cell]; rfl
  have d1 : w1.cell? ⟨K, 1, none⟩ = some (.int .i64 q) := by rw [K1.out.cell]; rfl
  clear m1 c0 c1 M0 K0
  go_wp2_with fail
  refine (vname_any s q _).mono ?_
  rintro e w2 ⟨rfl, m2⟩
  have M2 := Lib.hid (M1.out.trans m2)
  have K2 := Lib.hid (K1.out.mod m2 (fun e => e))
  have c0 : w2.cell? ⟨K, 0, none⟩ = some (.int .i64 s) := by rw [K2.out.cell]; rfl
  have c1 : w2.cell? ⟨K, 1, none⟩ = some (.int .i64 q) := by rw [K2.out.cell]; rfl
  clear m2 d0 d1 M1 K1
  cases hq : nameOk s q
  · have HE := Lib.hid (show raiseE l s q = 1 by unfold raiseE; rw [hq, Bool.and_false]; rfl)
    go_wp2_with fail
    go_ret2
    exact ⟨.inl ⟨by rw [HE.out]; omega, by rw [HE.out]; rfl⟩, M2.out⟩
  have hsq : (1 ≤ s ∧ s ≤ 16) ∧ 1 ≤ q ∧ q ≤ 1099511627776 := by
    unfold nameOk inB at hq
    simpa using hq
  have hc := cntV_le hv s
  have HRE := Lib.hid (show raiseE l s q = if cntV l s = 1099511627776 then 7 else if q = cntV l s + 1 then 0 else 17 by unfold raiseE; rw [hv, hq]; rfl)
  have hln : len ≤ 16 := by
    unfold vecOk at hv
    simp only [Bool.and_eq_true, decide_eq_true_eq] at hv
    rw [← HN.out]; exact hv.1.2
  go_wp2_with fail
  refine (HC.out _ M2.out).mono ?_
  rintro e w3 ⟨rfl, m3⟩
  obtain ⟨n, hn⟩ : ∃ n, n = cntV l s := ⟨_, rfl⟩
  rw [← hn] at hc HRE ⊢
  have HNN := Lib.hid hn
  have M3 := Lib.hid (M2.out.trans m3)
  have K3 := Lib.hid (K2.out.mod m3 (fun e => e))
  have d0 : w3.cell? ⟨K, 0, none⟩ = some (.int .i64 s) := by rw [K3.out.cell]; rfl
  have d1 : w3.cell? ⟨K, 1, none⟩ = some (.int .i64 q) := by rw [K3.out.cell]; rfl
  clear m3 c0 c1 M2 K2 hv hq hn HV HC
  by_cases h1 : n = 1099511627776
  · have HE := Lib.hid (show raiseE l s q = 7 by rw [HRE.out, if_pos h1])
    have hb1 : (n == 1099511627776) = true := by simpa using h1
    clear h1
    go_wp2_with fail
    go_ret2
    exact ⟨.inl ⟨by rw [HE.out]; omega, by rw [HE.out]; rfl⟩, M3.out⟩
  have hb1 : (n == 1099511627776) = false := by simpa using h1
  have hw : IntKind.i64.wrap (n + 1) = n + 1 := by rw [IntKind.wrap_i64]; omega
  by_cases h2 : q = n + 1
  · have HE := Lib.hid (show raiseE l s q = 0 by rw [HRE.out, if_neg h1, if_pos h2])
    obtain ⟨S, rfl⟩ : ∃ S : Nat, s = (S : Int) + 1 := ⟨(s - 1).toNat, by omega⟩
    have hS : S < 16 := by omega
    have HQ := Lib.hid h2
    subst h2
    -- the new row
    obtain ⟨T, hT⟩ : ∃ T, T = max len (S + 1) := ⟨_, rfl⟩
    have hTle : T ≤ 16 := by omega
    have hTl : len ≤ T := by omega
    have hTS : S + 1 ≤ T := by omega
    obtain ⟨i0, hi0, hz0, hz1, hz2⟩ := info_parts infoInt
    have hmk := run_make_row' (P := Tryz.prog) 23 3 (.int .i64 0) 8 Tryz.underlying23 infoInt rfl .i64 .i64 T (by omega) (by omega) w3
    have mG := (Mine.Mod.refl none_ w3).alloc (.cells (madeCells #[.int .i64 0] T) 3)
    obtain ⟨G, hG⟩ : ∃ G, G = w3.heap.size := ⟨_, rfl⟩
    have kG : Blk (w3.alloc (.cells (madeCells #[.int .i64 0] T) 3)) G (List.replicate T (.int .i64 0)) 3 := by
      have e : madeCells #[Value.int .i64 0] T = (List.replicate T (Value.int .i64 0)).toArray := by
        rw [← toList_madeCells_one]
      rw [e, hG]
      exact Blk.new
    have hGw : w.heap.size ≤ G := by rw [hG]; exact M3.out.size
    rw [← hG] at hmk
    obtain ⟨w4, hw4⟩ : ∃ w4, w4 = w3.alloc (.cells (madeCells #[.int .i64 0] T) 3) := ⟨_, rfl⟩
    rw [← hw4] at hmk kG mG
    have h4 := H.out.grown (M3.out.trans mG)
    have K4 := Lib.hid (K3.out.mod mG (fun e => e))
    have M4 := Lib.hid (M3.out.trans mG)
    -- the copy
    have hcopy : ∃ w5, (Builtin.copy_ #[23, 23] 3 #[.slice (some ⟨G, 0, none⟩) T T, .slice a len cap]).run Tryz.prog w4 = .ok (goInt len) w5 ∧ Blk w5 G (intCs (l ++ List.replicate (T - len) 0)) 3 ∧ Mine.Mod (one G) w4 w5 := by
      by_cases hl0 : len = 0
      · refine ⟨w4, ?_, ?_, Mine.Mod.refl _ _⟩
        · rw [hl0]; exact run_copy0 Tryz.underlying23 hi0 _ _ _ _ _ _ _
        · have : l = [] := List.eq_nil_of_length_eq_zero (by rw [HN.out]; exact hl0)
          rw [this, hl0, List.nil_append, Nat.sub_zero]
          unfold intCs
          rw [List.map_replicate]
          exact kG
      · obtain ⟨b, off, hab⟩ : ∃ b off, a = some ⟨b, off, none⟩ := by
          obtain ⟨x, hx⟩ : ∃ x, l[0]? = some x := ⟨l[0]'(by rw [HN.out]; omega), by simp⟩
          obtain ⟨b, off, e, _⟩ := h4.cells 0 x hx
          exact ⟨b, off, e⟩
        obtain ⟨w5, hr, hb, hm⟩ := run_copyN (P := Tryz.prog) (w := w4) (sz := 1) Tryz.underlying23 hi0 hz1 3 G 0 T T ⟨b, off, none⟩ len cap _ (intCs l) kG (by rw [List.length_map, HN.out]; simp only [Nat.min_def]; split <;> omega) (fun j v hv => by
          rw [List.getElem?_map] at hv
          obtain ⟨x, hx, rfl⟩ := Option.map_eq_some_iff.1 hv
          obtain ⟨b2, off2, e, hc2⟩ := h4.cells j x hx
          rw [hab] at e
          cases e
          rw [Addr.add_lit]; exact hc2) (by rw [List.length_map, HN.out, List.length_replicate]; omega) (fun v hv => by obtain ⟨z, _, rfl⟩ := List.mem_map.1 hv; rfl)
        refine ⟨w5, ?_, ?_, hm⟩
        · rw [hab, hr, show Nat.min len T = len by simp only [Nat.min_def]; split <;> omega]
        · rw [List.take_zero, List.nil_append, Nat.zero_add, List.length_map, HN.out, List.drop_replicate] at hb
          unfold intCs at hb ⊢
          rw [List.map_append, List.map_replicate]
          exact hb
    obtain ⟨w5, hrun, kG5, m5⟩ := hcopy
    have hTe : T - len = ((S : Int) + 1).toNat - l.length := by rw [HN.out]; omega
    have hat := grown_at (l := l) (s := (S : Int) + 1) (by omega)
    rw [← hTe, ← HNN.out, show ((S : Int) + 1).toNat - 1 = S by omega] at hat
    have e5 : w5.cell? ⟨G, S, none⟩ = some (.int .i64 n) := by
      rw [kG5.cell, List.getElem?_map, hat]; rfl
    have f5 := kG5.frozen S
    have kF := kG5.set S (.int .i64 (n + 1))
    have hRL : (intCs (l ++ List.replicate (T - len) 0)).set S (.int .i64 (n + 1)) = intCs (raiseL l ((S : Int) + 1)) := by
      unfold raiseL
      rw [← hTe, ← HNN.out, show ((S : Int) + 1).toNat - 1 = S by omega]
      unfold intCs
      rw [List.map_set]
    rw [hRL] at kF
    have m5G : Mine.Mod (one G) w4 (w5.setCell ⟨G, S, none⟩ (.int .i64 (n + 1))) := m5.setCell ⟨G, S, none⟩ (fun _ => rfl) _
    have hKG : ¬ K = G := by
      have := K3.out.lt
      omega
    have K5 := K4.out.mod m5 (fun e => hKG e)
    have d05 : w5.cell? ⟨K, 0, none⟩ = some (.int .i64 ((S : Int) + 1)) := by rw [K5.cell]; rfl
    have FIN := Lib.hid (show RaiseTo w l ((S : Int) + 1) (n + 1) (.returned (.tuple #[.slice (some ⟨G, 0, none⟩) T T, .int .i64 0])) (w5.setCell ⟨G, S, none⟩ (.int .i64 (n + 1))) from by
      refine ⟨.inr ⟨HE.out, _, _, _, rfl, ?_⟩, M4.out.transIn m5G (fun b hb e => by have e' : b = G := e; omega)⟩
      have hlen : (raiseL l ((S : Int) + 1)).length = T := by rw [raiseL_len, HN.out, hT]; congr 1
      have h5 := blk_ownsRow (more := []) (n := T) (cap := T) (size := 1) hGw (by rw [List.append_nil]; exact kF) (by rw [List.length_map, hlen]; omega) (Nat.le_refl _) (by unfold maxLen; omega) (by rw [List.length_map, hlen]; simp)
      exact h5)
    have HMK := Lib.hid hmk
    have hwl : IntKind.i64.wrap ((S : Int) + 1 - 1) = (S : Int) := by rw [IntKind.wrap_i64]; omega
    have hmax : max (len : Int) ((S : Int) + 1) = (T : Int) := by rw [hT]; omega
    have hST : S < T := by omega
    clear hat hRL kF kG5 m5 m5G K5 h4 hG hw4 mG kG hTe HRE h1 HNN HQ hi0 hz0 hz1 hz2 hT
    clear HMK
    go_wp2_with fail
    go_ret2
    exact FIN.out
  · have HE := Lib.hid (show raiseE l s q = 17 by rw [HRE.out, if_neg h1, if_neg h2])
    go_wp2_with fail
    go_ret2
    exact ⟨.inl ⟨by rw [HE.out]; omega, by rw [HE.out]; rfl⟩, M3.out⟩
end Go.Proofs.YtlidmajcdjlcnaaGreatDoor

namespace Go.Proofs.YtlidmajcdjlcnaaGreatDoor
open Go.RowKit Go.Shelf Go.Mine
open Classical
attribute [local go_sem] Oper.semAt_some
attribute [local go_sem ↓] app_fold

set_option maxHeartbeats 4000000 in
set_option maxRecDepth 1000000 in
theorem new_any (w : World) (a : Option Addr) (len cap : Nat) (l : List CellV) (h : IsCells w a len cap l) (hlen : len ≤ 1099511627776) :
    Calls Tryz.prog 78 #[.slice a len cap] w fun e w' => Mod none_ w w' ∧ (newE l ≠ 0 → e = .returned (.tuple #[.pointer none, .int .i64 (newE l)])) ∧ (newE l = 0 → ∃ D, e = .returned (.tuple #[.pointer (some ⟨D, 0, none⟩), .int .i64 0]) ∧ DocIs w' w.heap.size D l) := by
  have hle := h.le
  have hbig := h.big
  unfold maxLen at hbig
  have hN := h.n
  have H := Lib.hid h
  obtain ⟨R, hR⟩ : ∃ R, R = newE l := ⟨_, rfl⟩
  rw [← hR]
  have HR := Lib.hid hR
  have hmm := @run_makeMap Tryz.prog
  have C0 := Lib.hid (Counts.made Tryz.prog 149 w)
  have m0 := Lib.hid ((Mod.refl none_ w).alloc (.map #[] 0))
  clear h hR
  refine (callsIn_wide (n := 5)).1 ?_
  refine callsIn_of_wp_marks Tryz.func78 rfl trivial ?_ rfl
  refine wpIn_wide.2 (Code.wp_mono (Q := calmPost _) calmPost.out ?_)
  simp only [Tryz.ntmps78, List.size_toArray, List.length_cons, List.length_nil, Nat.reduceAdd, Nat.reduceSub, Array.replicate_succ, Array.replicate_zero, List.push_toArray, List.append_toArray, List.nil_append, List.cons_append]
  go_wp2_with fail
  generalize w.alloc (.map #[] 0) = w0 at C0 m0 ⊢
  obtain ⟨G, hG⟩ : ∃ G, G = w.heap.size := ⟨_, rfl⟩
  rw [← hG] at C0 ⊢
  have hGw : w.heap.size ≤ G := by omega
  clear hG
  go_loopg [14] len (fun g s14 wx => ∃ k n : Nat, g = len - k ∧ s14 = .int .i64 k ∧ k ≤ len ∧ Mod none_ w wx ∧ Counts Tryz.prog 149 wx G ((l.take k).map CellV.id) n ∧ RowKit.Hid ((l.take k).all cellOk = true))
  case atStart => exact ⟨0, 0, rfl, rfl, Nat.zero_le _, m0.out, C0.out, Lib.hid rfl⟩
  case round =>
    obtain ⟨k, n, rfl, rfl, hk, m1, hc, hall⟩ := hrel
    have M1 := Lib.hid m1
    have CC := Lib.hid hc
    by_cases hlk : k < len
    · obtain ⟨c, hx⟩ : ∃ x, l[k]? = some x := ⟨l[k]'(by omega), by simp⟩
      obtain ⟨b, off, rfl, hr⟩ := H.out.cells k _ hx
      have hcok := H.out.ok _ (List.mem_of_getElem? hx)
      have c0 := m1.cell (fun e => e) (hr 0 _ rfl)
      have c1 := m1.cell (fun e => e) (hr 1 _ rfl)
      have c2 := m1.cell (fun e => e) (hr 2 _ rfl)
      have c3 := m1.cell (fun e => e) (hr 3 _ rfl)
      have c4 := m1.cell (fun e => e) (hr 4 _ rfl)
      rw [Nat.add_zero] at c0
      have hlb := block_lt_of_cell c0
      have htk : l.take (k + 1) = l.take k ++ [c] := by
        obtain ⟨hk', e⟩ := List.getElem?_eq_some_iff.1 hx
        rw [List.take_succ_eq_append_getElem hk', e]
      have HT := Lib.hid htk
      have HX := Lib.hid hx
      have OK := Lib.hid hcok
      clear hx hr hcok htk m1 hc
      have mA := (Mod.refl none_ wr).alloc (.cells #[.int .i64 c.site, .int .i64 c.seq, .int .i64 c.off, .int .i32 c.r, .bool c.gone] 47)
      have kA := Blk.new (w := wr) (cs := [.int .i64 c.site, .int .i64 c.seq, .int .i64 c.off, .int .i32 c.r, .bool c.gone]) (t := 47)
      have MA := Lib.hid (M1.out.trans mA)
      have CA := Lib.hid (CC.out.mod mA (fun e => e))
      have KA := Lib.hid kA
      clear mA kA
      go_upto_region 5 with fail
      generalize wr.alloc (.cells #[.int .i64 c.site, .int .i64 c.seq, .int .i64 c.off, .int .i32 c.r, .bool c.gone] 47) = wA at MA CA KA ⊢
      clear c0 c1 c2 c3 c4
      have e0 : wA.cell? ⟨wr.heap.size, 0, none⟩ = some (.int .i64 c.site) := by rw [KA.out.cell]; rfl
      have e1 : wA.cell? ⟨wr.heap.size, 1, none⟩ = some (.int .i64 c.seq) := by rw [KA.out.cell]; rfl
      have e2 : wA.cell? ⟨wr.heap.size, 2, none⟩ = some (.int .i64 c.off) := by rw [KA.out.cell]; rfl
      have e3 : wA.cell? ⟨wr.heap.size, 3, none⟩ = some (.int .i32 c.r) := by rw [KA.out.cell]; rfl
      have e4 : wA.cell? ⟨wr.heap.size, 4, none⟩ = some (.bool c.gone) := by rw [KA.out.cell]; rfl
      obtain ⟨S, hS⟩ : ∃ S, S = wr.heap.size := ⟨_, rfl⟩
      rw [← hS] at KA e0 e1 e2 e3 e4 ⊢
      clear hS
      go_wp2_with fail
      refine (mayCell_any c _ OK.out).mono ?_
      rintro e w2 ⟨rfl, m2⟩
      have M2 := Lib.hid (MA.out.trans m2)
      have C2 := Lib.hid (CA.out.mod m2 (fun e => e))
      have k2 := KA.out.mod m2 (fun e => e)
      have f0 : w2.cell? ⟨S, 0, none⟩ = some (.int .i64 c.site) := by rw [k2.cell]; rfl
      have f1 : w2.cell? ⟨S, 1, none⟩ = some (.int .i64 c.seq) := by rw [k2.cell]; rfl
      have f2 : w2.cell? ⟨S, 2, none⟩ = some (.int .i64 c.off) := by rw [k2.cell]; rfl
      clear m2 k2 e0 e1 e2 e3 e4
      cases hv : cellOk c
      · have HE := Lib.hid (show R = 1 by
          rw [HR.out]; unfold newE
          rw [if_neg]
          intro h
          rw [List.all_eq_true] at h
          have := h c (List.mem_of_getElem? HX.out)
          rw [hv] at this; cases this)
        clear hv
        go_wp2_with fail
        exact ⟨_, results_tmp2 rfl _ _ _, M2.out, fun _ => by rw [HE.out]; rfl, fun h => by rw [HE.out] at h; cases h⟩
      · have CD : Counts Tryz.prog 149 w2.drew G ((l.take k).map CellV.id) n := C2.out.mod (Mod.drew (Mod.refl none_ w2)) (fun e => e)
        obtain ⟨q, s, w3, w4, hq, h1, h2, h3, h4, M3, M4, C4⟩ := CD.incr kId Tryz.underlying147 zInt (okId OK.out)
        rw [List.length_map, List.length_take] at hq
        have hwq : IntKind.i64.wrap ((q : Int) + 1) = (q : Int) + 1 := by rw [IntKind.wrap_i64]; omega
        have HALL := Lib.hid (show (l.take (k + 1)).all cellOk = true by rw [HT.out, List.all_append, hall.out]; simp [hv])
        have C5 := Lib.hid (show Counts Tryz.prog 149 w4 G ((l.take (k + 1)).map CellV.id) (if c.id ∈ (l.take k).map CellV.id then n else n + 1) by rw [HT.out, List.map_append]; exact C4)
        have M5 := Lib.hid ((Mod.drew M2.out).transIn M4 (fun b hb e => by have e' : b = G := e; omega))
        clear C4 M3 M4 CD hall hv
        go_wp2_with fail
        go_region_law (fail)
        all_goals go_wp2_with fail
        all_goals go_roundg (len - (k + 1))
        all_goals first
          | omega
          | exact ⟨k + 1, _, rfl, by go_num, by omega, M5.out, C5.out, HALL⟩
    · obtain rfl : k = len := by omega
      have e : l.take k = l := List.take_of_length_le (by omega)
      rw [e] at hc hall
      have hnl := hc.le
      have hnall := hc.all
      rw [List.length_map, hN] at hnl hnall
      obtain ⟨m, hm, hrest⟩ := hc.ex
      have hlen2 := fun ty => hm.len Tryz.underlying147 ty
      simp only [goInt] at hlen2
      clear CC hc hm m1 e hrest
      by_cases hd : n < k
      · have HE := Lib.hid (show R = 15 by
          rw [HR.out]; unfold newE
          rw [if_pos hall.out, if_neg (fun h => by have := hnall.2 h; omega)])
        have hdd : decide ((n : Int) < (k : Int)) = true := by simp; omega
        clear hnall
        go_wp2_with fail
        exact ⟨_, results_tmp2 rfl _ _ _, M1.out, fun _ => by rw [HE.out]; rfl, fun h => by rw [HE.out] at h; cases h⟩
      have hdd : decide ((n : Int) < (k : Int)) = false := by simp; omega
      have HND := Lib.hid (hnall.1 (by omega))
      clear hnall
      by_cases hbg : 20000 < k
      · have HE := Lib.hid (show R = 4 by
          rw [HR.out]; unfold newE
          rw [if_pos hall.out, if_pos HND.out, if_neg (by omega)])
        have hdg : decide (20000 < (k : Int)) = true := by simp; omega
        go_wp2_with fail
        exact ⟨_, results_tmp2 rfl _ _ _, M1.out, fun _ => by rw [HE.out]; rfl, fun h => by rw [HE.out] at h; cases h⟩
      have hdg : decide (20000 < (k : Int)) = false := by simp; omega
      have HE := Lib.hid (show R = 0 by
        rw [HR.out]; unfold newE
        rw [if_pos hall.out, if_pos HND.out, if_pos (by omega)])
      have hMe := Lib.hid (IMap.made (P := Tryz.prog) (k := 28) wr)
      go_wp2_with fail
      refine (chunk_any a k cap _).mono ?_
      rintro e w5 ⟨rfl, rfl⟩
      go_wp2_with fail
      obtain ⟨W0, hW0⟩ : ∃ W0, (((((wr.alloc (.map #[] 0)).alloc (.cells #[.slice none 0 0, .map (some wr.heap.size)] 140)).alloc (.cells #[.pointer (some ⟨wr.heap.size + 1, 0, none⟩)] 77)).alloc (.cells #[.slice a k cap] 22)).alloc (.cells #[.int .i64 64] 3)) = W0 := ⟨_, rfl⟩
      have hz : W0.heap.size = wr.heap.size + 5 := by rw [← hW0]; simp
      have kW := M1.out.size
      have hI0 : NewI w a k cap l wr.heap.size (wr.heap.size + 1) (wr.heap.size + 3) (wr.heap.size + 4) 0 W0 := by
        have b0 := Blk.new (w := wr.alloc (.map #[] 0)) (cs := [.slice none 0 0, .map (some wr.heap.size)]) (t := 140)
        have b1 := Blk.new (w := (wr.alloc (.map #[] 0)).alloc (.cells #[.slice none 0 0, .map (some wr.heap.size)] 140)) (cs := [.pointer (some ⟨wr.heap.size + 1, 0, none⟩)]) (t := 77)
        have b2 := Blk.new (w := ((wr.alloc (.map #[] 0)).alloc (.cells #[.slice none 0 0, .map (some wr.heap.size)] 140)).alloc (.cells #[.pointer (some ⟨wr.heap.size + 1, 0, none⟩)] 77)) (cs := [.slice a k cap]) (t := 22)
        have b3 := Blk.new (w := (((wr.alloc (.map #[] 0)).alloc (.cells #[.slice none 0 0, .map (some wr.heap.size)] 140)).alloc (.cells #[.pointer (some ⟨wr.heap.size + 1, 0, none⟩)] 77)).alloc (.cells #[.slice a k cap] 22)) (cs := [.int .i64 64]) (t := 3)
        simp only [World.size_alloc] at b0 b1 b2 b3
        rw [← hW0]
        have g := fun (v : World) (o : Obj) => (Mod.refl none_ v).alloc o
        refine ⟨((((M1.out.alloc _).alloc _).alloc _).alloc _).alloc _, (b1.mod (g _ _) (fun e => e)).mod (g _ _) (fun e => e), b2.mod (g _ _) (fun e => e), b3, (((hMe.out.mod (g _ _) (fun e => e)).mod (g _ _) (fun e => e)).mod (g _ _) (fun e => e)).mod (g _ _) (fun e => e), .slice none 0 0, [], ((b0.mod (g _ _) (fun e => e)).mod (g _ _) (fun e => e)).mod (g _ _) (fun e => e), ⟨World.ownsRow_nil _ _ _ _, fun x hx => by simp at hx⟩, by simp, rfl, List.Pairwise.nil, by simp⟩
      rw [hW0]
      clear hW0 hMe
      refine wpIn_wide.1 (?_ : Code.wpIn Fence.wide 5 _ _ _ _ _)
      obtain ⟨b, off, hab⟩ : ∃ b off, 0 < k → a = some ⟨b, off, none⟩ := by
        by_cases h0 : 0 < k
        · obtain ⟨b, off, e, _⟩ := H.out.cells 0 (l[0]'(by omega)) (by simp)
          exact ⟨b, off, fun _ => e⟩
        · exact ⟨0, 0, fun h => absurd h h0⟩
      refine rangeFunc_upd (fun t x => (t.setIfInBounds 45 (chunkV b off k x)).setIfInBounds 8 (chunkV b off k x)) rfl (by decide) (gf := 122) (lb := #[.pointer (some ⟨wr.heap.size + 1 + 1 + 1, 0, none⟩), .pointer (some ⟨wr.heap.size + 1 + 1 + 1 + 1, 0, none⟩)]) rfl trivial (enters_of Tryz.func122 (by kernel_rfl) rfl)
        (fun x : Nat => #[chunkV b off k x]) (fun _ => rfl) (NewI w a k cap l wr.heap.size (wr.heap.size + 1) (wr.heap.size + 3) (wr.heap.size + 4)) (fun _ _ _ => False) (fun st _ => st + 64) (fun st x => x = st ∧ x < k) (fun st => k ≤ st ∧ st % 64 = 0 ∧ st < k + 64) 0 ?hI ?hIx hI0 ?hiter ?assign ?body ?done ?stop
      case hI => exact NewI.stable (by omega) (by omega)
      case hIx => intro _ _ _ _ h _; exact h.elim
      case hiter =>
        intro l' J Jx W hJI hJ hY h0
        exact chunk1_any Fence.wide rfl (5 - 1) a b off k cap _ _ hab hle (by omega) hlen _ (fun i W h => ⟨h.2.2.1, h.2.2.2.1⟩) (fun i W h => by
          obtain ⟨m0, k1, k2, k3, im, v, bl, kd, ⟨ho, hb⟩, e, e2, hap⟩ := h
          exact ⟨m0.drew, k1, k2, k3, im, v, bl, kd, ⟨ho, fun x hx => (hb x hx).grown (Mod.drew (Mod.refl none_ W))⟩, e, e2, hap⟩) l' J Jx W hJI hJ hY h0
      case assign =>
        intro l' x W K hK
        gi_wp2
        exact hK
      case stop =>
        rintro D c s W h
        exact h.elim
      case body =>
        rintro l' st x W hI ⟨rfl, hx⟩
        obtain ⟨m0, kb, ks, kn, im, v, bl, kd, ⟨ho, hbl⟩, hfl, hbn, hap⟩ := hI
        obtain rfl := hab (by omega)
        rw [chunkV_eq]
        obtain ⟨m, hm⟩ : ∃ m, m = min 64 (k - x) := ⟨_, rfl⟩
        rw [← hm]
        have hm1 : 1 ≤ m ∧ m ≤ 64 ∧ x + m ≤ k := by omega
        have HM := Lib.hid hm
        obtain ⟨va, vc, rfl⟩ : ∃ va vc, v = .slice va bl.length vc := by
          rcases ownsRow_blk ho with ⟨rfl, h0, _⟩ | ⟨g, c', _, rfl, _⟩
          · exact ⟨none, 0, by rw [h0]⟩
          · exact ⟨_, c', rfl⟩
        have c0 : W.drew.cell? ⟨wr.heap.size + 1 + 1, 0, none⟩ = some (.pointer (some ⟨wr.heap.size + 1, 0, none⟩)) := by
          have := kb.cell 0
          exact this
        have c1 : W.drew.cell? ⟨wr.heap.size + 1, 0, none⟩ = some (.slice va bl.length vc) := by
          have := kd.cell 0
          exact this
        have f1 : W.drew.frozen? ⟨wr.heap.size + 1, 0, none⟩ = false := kd.frozen 0
        have HC := Lib.hid ((H.out.grown m0).sub x m hm1.2.2)
        obtain ⟨i0, hi0, hz0, hz1, hz2⟩ := info_parts infoPtr
        have hnb : bl.length ≤ 1099511627776 := by omega
        have KB := Lib.hid kb
        have KD := Lib.hid kd
        have HO := Lib.hid ho
        have WM := Lib.hid m0
        have KS := Lib.hid ks
        have KN := Lib.hid kn
        have IM := Lib.hid im
        have HBL := Lib.hid hbl
        have HFL := Lib.hid hfl
        have HAP := Lib.hid hap
        clear hap
        clear hm kb kd ho m0 hab ks kn im hbl hfl hi0 hz0 hz1 hz2 i0
        simp only [List.setIfInBounds_toArray, List.set_cons_zero, List.set_cons_succ]
        gi_wp2_with fail
        refine round_held (S := fun w' => w'.cell? ⟨wr.heap.size + 1 + 1, 0, none⟩ = some (.pointer (some ⟨wr.heap.size + 1, 0, none⟩))) (by kernel_rfl) (by kernel_rfl) (fun ⟨_, _, h⟩ => h) c0 (fun hS => ?_)
        refine wpAnyH_take (i := 0) (v := .pointer (some ⟨wr.heap.size + 1, 0, none⟩)) rfl (by kernel_rfl) (by kernel_rfl) (by kernel_rfl) (fun _ _ _ h => h) (Or.inl ⟨by rfl, ?_⟩) hS ?_
        · intro w' hw'; go_simp
        simp only [Act.put, List.setIfInBounds_toArray]
        refine wpAnyH_take (i := 1) (v := .pointer (some ⟨wr.heap.size + 1, 0, none⟩)) rfl (by kernel_rfl) (by kernel_rfl) (by kernel_rfl) (fun _ _ _ h => h) (Or.inl ⟨by rfl, ?_⟩) hS ?_
        · intro w' hw'; go_simp
        simp only [Act.put]
        refine wpAnyH_take (i := 2) (v := .pointer (some ⟨wr.heap.size + 1, 0, none⟩)) rfl (by kernel_rfl) (by kernel_rfl) (by kernel_rfl) (fun _ _ _ h => h) (Or.inl ⟨by rfl, ?_⟩) hS ?_
        · intro w' hw'; go_simp
        simp only [Act.put]
        refine wpAnyH_take (i := 3) (v := .pointer (some ⟨wr.heap.size + 1, 0, none⟩)) rfl (by kernel_rfl) (by kernel_rfl) (by kernel_rfl) (fun _ _ _ h => h) (Or.inl ⟨by rfl, ?_⟩) hS ?_
        · intro w' hw'; go_simp
        simp only [Act.put]
        refine wpAnyH_take (i := 5) (v := .slice (some ⟨b, off + x * 5, none⟩) m m) rfl (by kernel_rfl) (by kernel_rfl) (by kernel_rfl) (fun _ _ _ h => h) (Or.inl ⟨by rfl, ?_⟩) hS ?_
        · intro w' hw'; go_simp
        simp only [Act.put]
        refine wpAnyH_ready (rs := [4, 6]) (by kernel_rfl) (by simp) (AllReadyH.cons rfl (fun K hK => ?_) <| AllReadyH.cons rfl (fun K hK => ?_) <| AllReadyH.nil)
        · go_simp
          refine hK.out _ _ hS (fun hS => ?_)
          clear hK K
          try simp only [Act.put, List.setIfInBounds_toArray, List.set_cons_zero, List.set_cons_succ]
          refine wpAnyH_ready (rs := [6]) (by kernel_rfl) (by simp) (AllReadyH.cons rfl (fun K hK => ?_) <| AllReadyH.nil)
          go_simp
          refine (newBlock_any _ b (off + x * 5) m m _ (HC.out.grown (Mod.drew (Mod.refl none_ W))) (by omega)).mono ?_
          rintro e w3 ⟨p, rfl, hB, m3⟩
          obtain ⟨va', vc', w4, hrun, hown, hmg, hd4, hb4⟩ := bodyArm (p := p) HO.out hnb WM.out.size m3 KD.out KB.out
          have d0 := m3.cell (p := ⟨wr.heap.size + 1 + 1, 0, none⟩) (fun e => e) c0
          have e1 := m3.cell (p := ⟨wr.heap.size + 1, 0, none⟩) (fun e => e) c1
          have s1 := block_lt_of_cell e1
          have d0a := ((Mod.refl none_ w3).alloc (.cells #[.pointer (some ⟨p, 0, none⟩)] 141)).cell (p := ⟨wr.heap.size + 1 + 1, 0, none⟩) (fun e => e) d0
          have d1 : w4.cell? ⟨wr.heap.size + 1, 0, none⟩ = some (.slice va bl.length vc) := hd4.cell 0
          have d2 := hd4.frozen 0
          have d4 : w4.cell? ⟨wr.heap.size + 1 + 1, 0, none⟩ = some (.pointer (some ⟨wr.heap.size + 1, 0, none⟩)) := hb4.cell 0
          have d5 : (w4.setCell ⟨wr.heap.size + 1, 0, none⟩ (.slice va' (bl.length + 1) vc')).cell? ⟨wr.heap.size + 1 + 1, 0, none⟩ = some (.pointer (some ⟨wr.heap.size + 1, 0, none⟩)) := ((Mod.refl (one (wr.heap.size + 1)) w4).setCell ⟨wr.heap.size + 1, 0, none⟩ (fun _ => rfl) _).cell (p := ⟨wr.heap.size + 1 + 1, 0, none⟩) (fun e => by have e' : wr.heap.size + 1 + 1 = wr.heap.size + 1 := e; omega) d4
          have END := Lib.hid (bodyEnd (by omega) H.out.n WM.out KB.out KS.out KN.out IM.out HO.out HBL.out HFL.out hbn HAP.out hx rfl m3 (by rw [← HM.out]; exact hB) hown hmg hd4)
          clear hB m3 hown hmg hd4 hb4
          dsimp only
          refine hK.out _ _ d0 (fun hS => ?_)
          clear hK K
          try simp only [Act.put, List.setIfInBounds_toArray, List.set_cons_zero, List.set_cons_succ]
          refine wpAnyH_ready (rs := [7]) (by kernel_rfl) (by simp) (AllReadyH.cons rfl (fun K hK => ?_) <| AllReadyH.nil)
          go_simp
          refine hK.out _ _ d0a (fun hS => ?_)
          clear hK K
          try simp only [Act.put, List.setIfInBounds_toArray, List.set_cons_zero, List.set_cons_succ]
          refine wpAnyH_ready (rs := [8]) (by kernel_rfl) (by simp) (AllReadyH.cons rfl (fun K hK => ?_) <| AllReadyH.nil)
          go_simp
          refine hK.out _ _ d4 (fun hS => ?_)
          clear hK K
          try simp only [Act.put, List.setIfInBounds_toArray, List.set_cons_zero, List.set_cons_succ]
          refine wpAnyH_take (i := 9) (v := .pointer (some ⟨wr.heap.size + 1, 0, none⟩)) rfl (by kernel_rfl) (by kernel_rfl) (by kernel_rfl) (fun _ _ _ h => h) (Or.inl ⟨by rfl, ?_⟩) hS ?_
          · intro w' hw'; go_simp
          simp only [Act.put, List.setIfInBounds_toArray]
          refine wpAnyH_take (i := 10) (v := .pointer (some ⟨wr.heap.size + 1, 0, none⟩)) rfl (by kernel_rfl) (by kernel_rfl) (by kernel_rfl) (fun _ _ _ h => h) (Or.inl ⟨by rfl, ?_⟩) hS ?_
          · intro w' hw'; go_simp
          simp only [Act.put]
          refine wpAnyH_ready (rs := [11]) (by kernel_rfl) (by simp) (AllReadyH.cons rfl (fun K hK => ?_) <| AllReadyH.nil)
          go_simp
          refine hK.out _ _ d5 (fun hS => ?_)
          clear hK K
          try simp only [Act.put, List.setIfInBounds_toArray, List.set_cons_zero, List.set_cons_succ]
          refine wpAnyH_done (by kernel_rfl) ?_ _
          exact END.out
        · go_simp
          refine (newBlock_any _ b (off + x * 5) m m _ (HC.out.grown (Mod.drew (Mod.refl none_ W))) (by omega)).mono ?_
          rintro e w3 ⟨p, rfl, hB, m3⟩
          obtain ⟨va', vc', w4, hrun, hown, hmg, hd4, hb4⟩ := bodyArm (p := p) HO.out hnb WM.out.size m3 KD.out KB.out
          have d0 := m3.cell (p := ⟨wr.heap.size + 1 + 1, 0, none⟩) (fun e => e) c0
          have e1 := m3.cell (p := ⟨wr.heap.size + 1, 0, none⟩) (fun e => e) c1
          have s1 := block_lt_of_cell e1
          have d0a := ((Mod.refl none_ w3).alloc (.cells #[.pointer (some ⟨p, 0, none⟩)] 141)).cell (p := ⟨wr.heap.size + 1 + 1, 0, none⟩) (fun e => e) d0
          have d1 : w4.cell? ⟨wr.heap.size + 1, 0, none⟩ = some (.slice va bl.length vc) := hd4.cell 0
          have d2 := hd4.frozen 0
          have d4 : w4.cell? ⟨wr.heap.size + 1 + 1, 0, none⟩ = some (.pointer (some ⟨wr.heap.size + 1, 0, none⟩)) := hb4.cell 0
          have d5 : (w4.setCell ⟨wr.heap.size + 1, 0, none⟩ (.slice va' (bl.length + 1) vc')).cell? ⟨wr.heap.size + 1 + 1, 0, none⟩ = some (.pointer (some ⟨wr.heap.size + 1, 0, none⟩)) := ((Mod.refl (one (wr.heap.size + 1)) w4).setCell ⟨wr.heap.size + 1, 0, none⟩ (fun _ => rfl) _).cell (p := ⟨wr.heap.size + 1 + 1, 0, none⟩) (fun e => by have e' : wr.heap.size + 1 + 1 = wr.heap.size + 1 := e; omega) d4
          have END := Lib.hid (bodyEnd (by omega) H.out.n WM.out KB.out KS.out KN.out IM.out HO.out HBL.out HFL.out hbn HAP.out hx rfl m3 (by rw [← HM.out]; exact hB) hown hmg hd4)
          clear hB m3 hown hmg hd4 hb4
          dsimp only
          refine hK.out _ _ d0 (fun hS => ?_)
          clear hK K
          try simp only [Act.put, List.setIfInBounds_toArray, List.set_cons_zero, List.set_cons_succ]
          refine wpAnyH_ready (rs := [4, 7]) (by kernel_rfl) (by simp) (AllReadyH.cons rfl (fun K hK => ?_) <| AllReadyH.cons rfl (fun K hK => ?_) <| AllReadyH.nil)
          · go_simp
            refine hK.out _ _ hS (fun hS => ?_)
            clear hK K
            try simp only [Act.put, List.setIfInBounds_toArray, List.set_cons_zero, List.set_cons_succ]
            refine wpAnyH_ready (rs := [7]) (by kernel_rfl) (by simp) (AllReadyH.cons rfl (fun K hK => ?_) <| AllReadyH.nil)
            go_simp
            refine hK.out _ _ d0a (fun hS => ?_)
            clear hK K
            try simp only [Act.put, List.setIfInBounds_toArray, List.set_cons_zero, List.set_cons_succ]
            refine wpAnyH_ready (rs := [8]) (by kernel_rfl) (by simp) (AllReadyH.cons rfl (fun K hK => ?_) <| AllReadyH.nil)
            go_simp
            refine hK.out _ _ d4 (fun hS => ?_)
            clear hK K
            try simp only [Act.put, List.setIfInBounds_toArray, List.set_cons_zero, List.set_cons_succ]
            refine wpAnyH_take (i := 9) (v := .pointer (some ⟨wr.heap.size + 1, 0, none⟩)) rfl (by kernel_rfl) (by kernel_rfl) (by kernel_rfl) (fun _ _ _ h => h) (Or.inl ⟨by rfl, ?_⟩) hS ?_
            · intro w' hw'; go_simp
            simp only [Act.put, List.setIfInBounds_toArray]
            refine wpAnyH_take (i := 10) (v := .pointer (some ⟨wr.heap.size + 1, 0, none⟩)) rfl (by kernel_rfl) (by kernel_rfl) (by kernel_rfl) (fun _ _ _ h => h) (Or.inl ⟨by rfl, ?_⟩) hS ?_
            · intro w' hw'; go_simp
            simp only [Act.put]
            refine wpAnyH_ready (rs := [11]) (by kernel_rfl) (by simp) (AllReadyH.cons rfl (fun K hK => ?_) <| AllReadyH.nil)
            go_simp
            refine hK.out _ _ d5 (fun hS => ?_)
            clear hK K
            try simp only [Act.put, List.setIfInBounds_toArray, List.set_cons_zero, List.set_cons_succ]
            refine wpAnyH_done (by kernel_rfl) ?_ _
            exact END.out
          · go_simp
            refine hK.out _ _ d0a (fun hS => ?_)
            clear hK K
            try simp only [Act.put, List.setIfInBounds_toArray, List.set_cons_zero, List.set_cons_succ]
            refine wpAnyH_ready (rs := [4]) (by kernel_rfl) (by simp) (AllReadyH.cons rfl (fun K hK => ?_) <| AllReadyH.nil)
            go_simp
            refine hK.out _ _ hS (fun hS => ?_)
            clear hK K
            try simp only [Act.put, List.setIfInBounds_toArray, List.set_cons_zero, List.set_cons_succ]
            refine wpAnyH_ready (rs := [8]) (by kernel_rfl) (by simp) (AllReadyH.cons rfl (fun K hK => ?_) <| AllReadyH.nil)
            go_simp
            refine hK.out _ _ d4 (fun hS => ?_)
            clear hK K
            try simp only [Act.put, List.setIfInBounds_toArray, List.set_cons_zero, List.set_cons_succ]
            refine wpAnyH_take (i := 9) (v := .pointer (some ⟨wr.heap.size + 1, 0, none⟩)) rfl (by kernel_rfl) (by kernel_rfl) (by kernel_rfl) (fun _ _ _ h => h) (Or.inl ⟨by rfl, ?_⟩) hS ?_
            · intro w' hw'; go_simp
            simp only [Act.put, List.setIfInBounds_toArray]
            refine wpAnyH_take (i := 10) (v := .pointer (some ⟨wr.heap.size + 1, 0, none⟩)) rfl (by kernel_rfl) (by kernel_rfl) (by kernel_rfl) (fun _ _ _ h => h) (Or.inl ⟨by rfl, ?_⟩) hS ?_
            · intro w' hw'; go_simp
            simp only [Act.put]
            refine wpAnyH_ready (rs := [11]) (by kernel_rfl) (by simp) (AllReadyH.cons rfl (fun K hK => ?_) <| AllReadyH.nil)
            go_simp
            refine hK.out _ _ d5 (fun hS => ?_)
            clear hK K
            try simp only [Act.put, List.setIfInBounds_toArray, List.set_cons_zero, List.set_cons_succ]
            refine wpAnyH_done (by kernel_rfl) ?_ _
            exact END.out
      case done =>
        rintro Df st W ⟨hs1, hs2, hs3⟩ ⟨m0, kb, ks, kn, im, v, bl, kd, hdb, hfl, hbn, hap⟩ hDf hlt
        have hflk : bl.flatMap Prod.snd = l := by rw [hfl]; exact List.take_of_length_le (by omega)
        obtain ⟨MB, hMB⟩ : ∃ MB, MB = wr.heap.size := ⟨_, rfl⟩
        obtain ⟨DD, hDD⟩ : ∃ DD, DD = wr.heap.size + 1 := ⟨_, rfl⟩
        obtain ⟨DB, hDB⟩ : ∃ DB, DB = wr.heap.size + 1 + 1 := ⟨_, rfl⟩
        rw [← hDB] at kb ⊢
        rw [← hDD] at kb kd ⊢
        rw [← hMB] at im kd
        have hord : MB < DD ∧ DD < DB ∧ DB < W0.heap.size ∧ w.heap.size ≤ MB := by omega
        clear hMB hDD hDB
        have hnm : ∀ cs t, ¬ Blk W MB cs t := fun cs t hb => imap_blk im hb
        have hnf : MB ≠ Df := fun e => by
          subst e
          obtain ⟨es, clock, hh, _⟩ := im
          rw [hh] at hDf; cases hDf
        have CN := Lib.hid (counts_nil im)
        have M0 := Lib.hid m0
        have KB := Lib.hid kb
        have KD := Lib.hid kd
        have HDB := Lib.hid hdb
        have HFL := Lib.hid hflk
        have HAP := Lib.hid (show Apart W bl ∧ ∀ y ∈ bl, y.2 ≠ [] from hap)
        clear hap
        have HDF := Lib.hid hDf
        clear m0 kb ks kn im kd hdb hfl hflk hDf
        have hl2 := H.out.n
        go_wp2_with fail
        go_loopg [59] k (fun g s59 wx => ∃ i n' : Nat, g = k - i ∧ s59 = .int .i64 i ∧ i ≤ k ∧ Mod (one MB) W wx ∧ Counts Tryz.prog 28 wx MB ((l.take i).map CellV.name) n')
        case atStart => exact ⟨0, 0, rfl, rfl, Nat.zero_le _, Mod.refl _ _, CN.out⟩
        case round =>
          obtain ⟨i, n', rfl, rfl, hi, m1, hc⟩ := hrel
          have M1 := Lib.hid m1
          have CC := Lib.hid hc
          have kbx := KB.out.mod m1 (fun e => by have e' : DB = MB := e; omega)
          have kdx := KD.out.mod m1 (fun e => by have e' : DD = MB := e; omega)
          by_cases hik : i < k
          · obtain ⟨c, hx⟩ : ∃ x, l[i]? = some x := ⟨l[i]'(by omega), by simp⟩
            obtain ⟨b, off, rfl, hr⟩ := H.out.cells i _ hx
            have hcok := H.out.ok _ (List.mem_of_getElem? hx)
            have far : ∀ {p : Addr} {v : Value}, w.cell? p = some v → wr.cell? p = some v := fun h => m1.cell (fun e => by have := block_lt_of_cell h; have e' : _ = MB := e; omega) (M0.out.cell (fun e => e) h)
            have c0 := far (hr 0 _ rfl)
            have c1 := far (hr 1 _ rfl)
            have c2 := far (hr 2 _ rfl)
            have c3 := far (hr 3 _ rfl)
            have c4 := far (hr 4 _ rfl)
            rw [Nat.add_zero] at c0
            have htk : l.take (i + 1) = l.take i ++ [c] := by
              obtain ⟨hk', e⟩ := List.getElem?_eq_some_iff.1 hx
              rw [List.take_succ_eq_append_getElem hk', e]
            have HT := Lib.hid htk
            have OK := Lib.hid hcok
            have hlb := block_lt_of_cell c0
            have mA := (Mod.refl none_ wr).alloc (.cells #[.int .i64 c.site, .int .i64 c.seq, .int .i64 c.off, .int .i32 c.r, .bool c.gone] 47)
            have kA := Blk.new (w := wr) (cs := [.int .i64 c.site, .int .i64 c.seq, .int .i64 c.off, .int .i32 c.r, .bool c.gone]) (t := 47)
            have MA := Lib.hid (m1.trans (mA.mono (T := one MB) (fun _ _ e => e.elim)))
            have CA := Lib.hid (CC.out.mod mA (fun e => e))
            have KA := Lib.hid kA
            have KBA := Lib.hid (kbx.mod mA (fun e => e))
            have KDA := Lib.hid (kdx.mod mA (fun e => e))
            clear mA kA kbx kdx hx hr hcok htk m1 hc far
            go_upto_region 20 with fail
            generalize wr.alloc (.cells #[.int .i64 c.site, .int .i64 c.seq, .int .i64 c.off, .int .i32 c.r, .bool c.gone] 47) = wA at MA CA KA KBA KDA ⊢
            clear c0 c1 c2 c3 c4
            have e0 : wA.cell? ⟨wr.heap.size, 0, none⟩ = some (.int .i64 c.site) := by rw [KA.out.cell]; rfl
            have e1 : wA.cell? ⟨wr.heap.size, 1, none⟩ = some (.int .i64 c.seq) := by rw [KA.out.cell]; rfl
            have q0 : wA.cell? ⟨DB, 0, none⟩ = some (.pointer (some ⟨DD, 0, none⟩)) := KBA.out.cell 0
            have q1 : wA.cell? ⟨DD, 1, none⟩ = some (.map (some MB)) := KDA.out.cell 1
            obtain ⟨S, hS⟩ : ∃ S, S = wr.heap.size := ⟨_, rfl⟩
            rw [← hS] at KA e0 e1 ⊢
            clear hS
            have CD : Counts Tryz.prog 28 wA.drew MB ((l.take i).map CellV.name) n' := CA.out.mod (Mod.drew (Mod.refl none_ wA)) (fun e => e)
            obtain ⟨q, s, w3, w4, hq, h1, h2, h3, h4, M3, M4, C4⟩ := CD.incr kName Tryz.underlying138 zInt (okName OK.out)
            rw [List.length_map, List.length_take] at hq
            have hwq : IntKind.i64.wrap ((q : Int) + 1) = (q : Int) + 1 := by rw [IntKind.wrap_i64]; omega
            have C5 := Lib.hid (show Counts Tryz.prog 28 w4 MB ((l.take (i + 1)).map CellV.name) (if c.name ∈ (l.take i).map CellV.name then n' else n' + 1) by rw [HT.out, List.map_append]; exact C4)
            have M5 := Lib.hid ((Mod.drew MA.out).trans M4)
            clear C4 M3 M4 CD
            go_wp2_with fail
            go_region_law (fail)
            all_goals go_wp2_with fail
            all_goals go_roundg (k - (i + 1))
            all_goals first
              | omega
              | exact ⟨i + 1, _, rfl, by go_num, by omega, M5.out, C5.out⟩
          · obtain rfl : i = k := by omega
            have e : l.take i = l := List.take_of_length_le (by omega)
            rw [e] at hc
            have hdf : wr.heap[Df]? = some (.deferred (some [])) := m1.blk (fun e => hnf e.symm) HDF.out
            have q0 : wr.cell? ⟨DB, 0, none⟩ = some (.pointer (some ⟨DD, 0, none⟩)) := kbx.cell 0
            have mP := loopOwn_put (B := W0.heap.size) (.deferred none) hlt hdf rfl
            have hle2 : w.heap.size ≤ W0.heap.size := by omega
            have FIN : Mod none_ w (wr.putObj Df (.deferred none)) ∧ DocIs (wr.putObj Df (.deferred none)) w.heap.size DD l := by
              refine ⟨(M0.out.transIn m1 (fun b hb e => by have e' : b = MB := e; omega)).transOwn mP hle2, ⟨v, MB, bl, n', kdx.own mP, (HDB.out.map m1 hnm).own mP, HFL.out, (hc.mod mP (fun s => by have := s.1; omega)).names, (HAP.out.1.mod HDB.out.2 m1 (fun k cs hk e => by have e' : k = MB := e; subst e'; exact hnm _ _ hk)).mod (HDB.out.map m1 hnm).2 mP (fun k cs hk s => by have := s.2 _ hk; cases this), HAP.out.2, by omega⟩, by omega⟩
            have FIN := Lib.hid FIN
            clear CC hc m1 kbx kdx mP e
            go_wp2_with fail
            refine ⟨by simp, .inl ⟨_, _, rfl, run_takeDeferred hdf, ?_⟩⟩
            refine ⟨_, results_tmp2 rfl _ _ _, FIN.out.1, fun h => absurd HE.out h, fun _ => ⟨DD, rfl, FIN.out.2⟩⟩

end Go.Proofs.YtlidmajcdjlcnaaGreatDoor

namespace Go.Proofs.YtlidmajcdjlcnaaGreatDoor
open Go.RowKit Go.Mine

theorem blk_range {w : World} {g : Nat} {cs : List Value} {t : TypeId} (h : Blk w g cs t) : w.rangeAt g 0 cs := fun j v hv => by rw [Nat.zero_add, h.cell]; exact hv
end Go.Proofs.YtlidmajcdjlcnaaGreatDoor
