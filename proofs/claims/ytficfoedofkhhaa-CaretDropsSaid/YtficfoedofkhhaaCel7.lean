/-
  Layer 12 (cells): New: its world, and what a round does to it.
-/
import Derived.Test.YtficfoedofkhhaaCel6
import Derived.Test.YtficfoedofkhhaaRound_
namespace Go.Proofs.Ytficfoedofkhhaa
open Go.RowKit Go.Shelf Go.Mine
open Classical
attribute [local go_sem] Oper.semAt_some

theorem zInt (w : World) : (zeroValue 3).run Try.prog w = .ok (.int .i64 0) w := by kernel_rfl
theorem okId {c : CellV} (h : c.ok) : isKey Try.prog 58 c.id := key_id h.i1 h.i2 h.i3
theorem okName {c : CellV} (h : c.ok) : isKey Try.prog 39 c.name := key_name h.i1 h.i2

/-- New's error. -/
noncomputable def newE (l : List CellV) : Int := if l.all cellOk = true then (if (l.map CellV.id).Nodup then (if l.length ≤ 20000 then 0 else 4) else 15) else 1

/-- The document's blocks: where they lie, and what cells they hold. -/
def DocBs (W : World) (B : Nat) (v : Value) (bl : List (Nat × List CellV)) : Prop :=
  W.ownsRow B 66 1 v bl.length (bl.map fun x => .pointer (some ⟨x.1, 0, none⟩)) ∧ ∀ x ∈ bl, BlkIs W B x.1 x.2
/-- New's own, behind i cells that lie in blocks. -/
def NewI (w : World) (a : Option Addr) (len cap : Nat) (l : List CellV) (MB D bs bn : Nat) (i : Nat) (W : World) : Prop :=
  Mod none_ w W ∧ Blk W (D + 1) [.pointer (some ⟨D, 0, none⟩)] 42 ∧ Blk W bs [.slice a len cap] 36 ∧ Blk W bn [.int .i64 64] 3 ∧
    IMap Try.prog 39 W MB (fun _ => none) 0 ∧ ∃ v bl, Blk W D [v, .map (some MB)] 62 ∧ DocBs W w.heap.size v bl ∧ bl.flatMap Prod.snd = l.take i ∧ bl.length * 64 = i

/-- Blocks of two types differ. -/
theorem Blk.apart {W : World} {p q : Nat} {cs ds : List Value} {t u : TypeId} (h : Blk W p cs t) (k : Blk W q ds u) (htu : t ≠ u) : p ≠ q := by
  intro e
  subst e
  unfold Blk at h k
  rw [h] at k
  cases k
  exact htu rfl
theorem ownsRow_type {W : World} {B n size : Nat} {v : Value} {t : TypeId} {xs : List Value} (h : W.ownsRow B t size v n xs) {k : Nat} (hk : v.ownBlock = some k) : ∃ cs, Blk W k cs t := by
  rcases ownsRow_blk h with ⟨rfl, _, _⟩ | ⟨g, cap, more, rfl, _, hb, _⟩
  · cases hk
  · cases hk; exact ⟨_, hb⟩
theorem BlkIs.mod {W W' : World} {B p : Nat} {c : List CellV} {S : Nat → Prop} (h : BlkIs W B p c) (m : Mod S W W') (hs : ∀ k cs t, Blk W k cs t → (t = 92 ∨ t = 41) → ¬ S k) : BlkIs W' B p c := by
  obtain ⟨⟨v, k, o, n⟩, lo⟩ := h
  refine ⟨⟨v, k.mod m (hs _ _ _ k (.inl rfl)), ownsRow_mod o m (fun j hj => ?_), n⟩, lo⟩
  obtain ⟨cs, hb⟩ := ownsRow_type o hj
  exact hs _ _ _ hb (.inr rfl)
theorem NewI.stable {w : World} {a : Option Addr} {len cap : Nat} {l : List CellV} {MB D bs bn B : Nat} (hB : w.heap.size ≤ B) (hMB : MB < B) (i : Nat) (W W' : World) (h : NewI w a len cap l MB D bs bn i W) (m : Mod (loopOwn B W) W W') : NewI w a len cap l MB D bs bn i W' := by
  obtain ⟨m0, k1, k2, k3, im, v, bl, kd, ⟨ho, hb⟩, e, e2⟩ := h
  refine ⟨m0.transOwn m hB, k1.own m, k2.own m, k3.own m, im.mod m (fun s => by have := s.1; omega), v, bl, kd.own m, ⟨ownsRow_mod ho m (fun j hj s => ?_), fun x hx => (hb x hx).mod m (fun k cs t hk _ s => ?_)⟩, e, e2⟩
  · obtain ⟨cs, hk⟩ := ownsRow_type ho hj
    have := s.2 _ hk; cases this
  · have := s.2 _ hk; cases this

/-- The law of ranges over functions, the frame behind the assignment told by what it changes in the frame ahead. -/
theorem rangeFunc_upd {F : Fence} {n : Nat} {P : Program} {σ α : Type} {g : Operand} {ps : Array Tmp} {assign body : Code} {Q : Exit → Act → World → Prop} {a : Act} {w : World}
    (upd : Array Value → α → Array Value) (hro : F.round = none) (h1 : 1 ≤ n) {gf : Nat} {lb : Array Value} (hg : a.eval g = .func (.func gf) #[] lb) (hFg : F.fn gf) (eg : ∀ args w, (callFunc gf args).run P w = .ok (.enter gf args) w)
    (encs : α → Array Value) (hps : ∀ x, (encs x).size = ps.size) (I : σ → World → Prop) (Ix : Code → σ → World → Prop) (step : σ → α → σ) (G : σ → α → Prop) (S : σ → Prop) (s0 : σ)
    (hI : ∀ s W W', I s W → Mod (loopOwn w.heap.size W) W W' → I s W') (hIx : ∀ c s W W', Ix c s W → Mod (loopOwn w.heap.size W) W W' → Ix c s W') (h0 : I s0 w)
    (hiter : ∀ (l : Nat) (J : σ → World → Prop) (Jx : Code → σ → World → Prop) (W : World), (∀ s W, J s W → I s W) → (∀ s s' W W', J s W → I s' W' → KeepsOthers W W' → J s' W') →
      (∀ s x W1, J s W1 → G s x → YieldAt F (n - 1 - 1) P l (encs x) W1 fun e W' => (e = .returned (.bool true) ∧ J (step s x) W') ∨ (e = .returned (.bool false) ∧ ∃ c, Jx c (step s x) W')) → J s0 W →
      CallsIn F (n - 1) P gf (#[.func (.yield l) #[] #[]] ++ lb) W fun e W' => (∃ v, e = .returned v) ∧ ((∃ s, S s ∧ J s W') ∨ (∃ c s, Jx c s W')))
    (hassign : ∀ (l : Nat) (x : α) (W : World) (K : Act → World → Prop), K ⟨upd a.tmps x, []⟩ W →
      assign.wpIn (F.inRound l) (n - 1 - 1) P (Exit.then K (fun _ _ _ => False)) { tmps := (ps.zip (encs x)).foldl (fun t (p, v) => t.setIfInBounds p v) a.tmps, defers := [] } W)
    (hbody : ∀ (l : Nat) (s : σ) (x : α) (W : World), I s W → G s x → body.wpIn (F.inRound l) (n - 1 - 1) P (myPost I Ix (step s x) W) ⟨upd a.tmps x, []⟩ W)
    (hdone : ∀ (D : Nat) (s : σ) (W : World), S s → I s W → W.heap[D]? = some (.deferred (some [])) → w.heap.size ≤ D → Q .normal { a with defers := { target := .collected D, args := #[] } :: a.defers } W)
    (hstop : ∀ (D : Nat) (c : Code) (s : σ) (W : World), Ix c s W → W.heap[D]? = some (.deferred (some [])) → w.heap.size ≤ D → c.wpIn F n P Q { a with defers := { target := .collected D, args := #[] } :: a.defers } W) :
    (Code.rangeFunc g ps assign body).wpIn F n P Q a w :=
  rangeFunc_law hro h1 hg hFg eg encs hps I Ix step G S s0 hI hIx h0 (fun x => ⟨upd a.tmps x, []⟩) hiter hassign hbody hdone hstop

theorem IsCells.sub {w : World} {b off len cap : Nat} {l : List CellV} (h : IsCells w (some ⟨b, off, none⟩) len cap l) (x m : Nat) (hx : x + m ≤ len) : IsCells w (some ⟨b, off + x * 5, none⟩) m m ((l.drop x).take m) := by
  have hN := h.n
  have hle := h.le
  have hbig := h.big
  refine ⟨by rw [List.length_take, List.length_drop]; omega, Nat.le_refl _, by omega, fun c hc => h.ok c (List.mem_of_mem_drop (List.mem_of_mem_take hc)), fun i c hc => ?_⟩
  have hi : i < m := by have := (List.getElem?_eq_some_iff.1 hc).1; rw [List.length_take] at this; omega
  rw [List.getElem?_take_of_lt hi, List.getElem?_drop] at hc
  obtain ⟨b', off', e, hr⟩ := h.cells (x + i) c hc
  cases e
  exact ⟨b, off + x * 5, rfl, by rw [show off + x * 5 + i * 5 = off + (x + i) * 5 by omega]; exact hr⟩
theorem infoPtr : (Try.prog.info? 66).map (fun i => (i.zero, i.size, i.bytes)) = some (some (.pointer none), 1, 8) := by kernel_rfl

/-- append, kept shut. -/
def appSem (tys : Array TypeId) (ty : TypeId) (args : Array Value) : Sem Value := Builtin.append_ tys ty args
theorem app_fold (tys : Array TypeId) (ty : TypeId) (args : Array Value) : Builtin.append_ tys ty args = appSem tys ty args := rfl

/-- A block more at the list's end. -/
theorem appPtr {X : World} {B nb p vc : Nat} {va : Option Addr} {ptrs : List Value} (ho : X.ownsRow B 66 1 (.slice va nb vc) nb ptrs) (hnb : nb ≤ 1099511627776) (hB : B ≤ X.heap.size) :
    ∃ va' vc' w4, (appSem #[60, 60] 60 #[.slice va nb vc, .slice (some ⟨X.heap.size, 0, none⟩) 1 1]).run Try.prog (X.alloc (.cells #[.pointer (some ⟨p, 0, none⟩)] 66)) = .ok (.slice va' (nb + 1) vc') w4 ∧
      w4.ownsRow B 66 1 (.slice va' (nb + 1) vc') (nb + 1) (ptrs ++ [.pointer (some ⟨p, 0, none⟩)]) ∧ (X.alloc (.cells #[.pointer (some ⟨p, 0, none⟩)] 66)).grownBy w4 (Value.slice va nb vc).ownBlock := by
  obtain ⟨i0, hi0, hz0, hz1, hz2⟩ := info_parts infoPtr
  obtain ⟨v', w4, hrun, hown, hgrow, _⟩ := run_append_own (P := Try.prog) (X.alloc (.cells #[.pointer (some ⟨p, 0, none⟩)] 66)) B 60 60 66 i0 (.pointer none) 1 8 Try.underlying60 hi0 hz0 hz1 hz2 rfl (by decide) (.slice va nb vc) nb ptrs (ho.alloc _) ⟨X.heap.size, 0, none⟩ 1 1 [.pointer (some ⟨p, 0, none⟩)] rfl (World.news_of_block (heap_alloc_new X _)) (fun u hu => by rw [List.mem_singleton.1 hu]; rfl) (by unfold maxLen; omega) (by omega) (by simp; omega)
  rcases ownsRow_blk hown with ⟨_, h0, _⟩ | ⟨g, c', _, rfl, _⟩
  · omega
  · exact ⟨_, c', w4, hrun, hown, hgrow⟩

/-- What append and newBlock leave behind them. -/
theorem bodyArm {w W w3 : World} {D p nb vc : Nat} {va : Option Addr} {ptrs : List Value} {MBv : Value} (ho : W.ownsRow w.heap.size 66 1 (.slice va nb vc) nb ptrs) (hnb : nb ≤ 1099511627776) (hB : w.heap.size ≤ W.heap.size) (m3 : Mod none_ W.drew w3)
    (kd : Blk W D [.slice va nb vc, MBv] 62) {DB : Nat} {dv : Value} (kb : Blk W DB [dv] 42) :
    ∃ va' vc' w4, (appSem #[60, 60] 60 #[.slice va nb vc, .slice (some ⟨w3.heap.size, 0, none⟩) 1 1]).run Try.prog (w3.alloc (.cells #[.pointer (some ⟨p, 0, none⟩)] 66)) = .ok (.slice va' (nb + 1) vc') w4 ∧
      w4.ownsRow w.heap.size 66 1 (.slice va' (nb + 1) vc') (nb + 1) (ptrs ++ [.pointer (some ⟨p, 0, none⟩)]) ∧ Mod (fun k => (Value.slice va nb vc).ownBlock = some k) w3 w4 ∧ Blk w4 D [.slice va nb vc, MBv] 62 ∧ Blk w4 DB [dv] 42 := by
  have hsz : W.heap.size ≤ w3.heap.size := m3.size
  obtain ⟨va', vc', w4, hrun, hown, hgrow⟩ := appPtr (p := p) (ownsRow_mod ho ((Mod.drew (Mod.refl none_ W)).trans m3) (fun _ _ e => e)) hnb (by omega)
  have mg : Mod (fun k => (Value.slice va nb vc).ownBlock = some k) w3 w4 := ((Mod.refl _ w3).alloc (.cells #[.pointer (some ⟨p, 0, none⟩)] 66)).grown hgrow (fun k e _ => e)
  refine ⟨va', vc', w4, hrun, hown, mg, (kd.drew.mod m3 (fun e => e)).mod mg (fun e => ?_), (kb.drew.mod m3 (fun e => e)).mod mg (fun e => ?_)⟩
  · obtain ⟨cs, hk⟩ := ownsRow_type ho e
    exact Blk.apart kd hk (by decide) rfl
  · obtain ⟨cs, hk⟩ := ownsRow_type ho e
    exact Blk.apart kb hk (by decide) rfl

/-- A post that lets no panic by. -/
def calmPost (Q : Exit → Act → World → Prop) : Exit → Act → World → Prop
  | .panic _, _, _ => False
  | e, a, w => Q e a w
theorem calmPost.out {Q : Exit → Act → World → Prop} : ∀ (e : Exit) (a : Act) (w : World), calmPost Q e a w → Q e a w
  | .panic _, _, _, h => h.elim
  | .normal, _, _, h => h
  | .ret, _, _, h => h
  | .exit _, _, _, h => h
  | .goto _, _, _, h => h
  | .outgrown, _, _, h => h

theorem _root_.Go.Mine.ownsRow_base {w : World} {B B' e size n : Nat} {v : Value} {xs : List Value} (h : w.ownsRow B e size v n xs) (hB : B' ≤ B) : w.ownsRow B' e size v n xs := by
  obtain ⟨h1, h2⟩ := h
  refine ⟨h1, ?_⟩
  rcases h2 with h2 | ⟨g, cap, cur, hv, hg, r⟩
  · exact .inl h2
  · exact .inr ⟨g, cap, cur, hv, Nat.le_trans hB hg, r⟩
theorem BlkIs.base {w : World} {B B' p : Nat} {l : List CellV} (h : BlkIs w B p l) (hB : B' ≤ B) : BlkIs w B' p l := by
  obtain ⟨⟨v, k, o, n⟩, lo⟩ := h
  exact ⟨⟨v, k, ownsRow_base o hB, n⟩, Nat.le_trans hB lo⟩
theorem imap_blk {w : World} {k : TypeId} {b n : Nat} {m : Value → Option Value} {cs : List Value} {t : TypeId} (h : IMap Try.prog k w b m n) (hb : Blk w b cs t) : False := by
  obtain ⟨es, clock, hh, _⟩ := h
  unfold Blk at hb
  rw [hh] at hb
  cases hb

/-- The names' map, as it is made. -/
theorem counts_nil {w : World} {k : TypeId} {b : Nat} (h : IMap Try.prog k w b (fun _ => none) 0) : Counts Try.prog k w b [] 0 :=
  ⟨⟨_, h, fun x => by simp, fun x v h => by cases h⟩, Nat.le_refl _, by simp⟩
/-- A document: its cells lie in blocks, all of it at or above B. -/
structure DocIs (w : World) (B D : Nat) (l : List CellV) : Prop where
  ex : ∃ v MB bl n, Blk w D [v, .map (some MB)] 62 ∧ DocBs w B v bl ∧ bl.flatMap Prod.snd = l ∧ Counts Try.prog 39 w MB (l.map CellV.name) n
  lo : B ≤ D
theorem DocBs.grown {w w' : World} {B : Nat} {v : Value} {bl : List (Nat × List CellV)} (h : DocBs w B v bl) (m : Mod none_ w w') : DocBs w' B v bl :=
  ⟨ownsRow_mod h.1 m (fun _ _ e => e), fun x hx => (h.2 x hx).grown m⟩
theorem DocIs.grown {w w' : World} {B D : Nat} {l : List CellV} (h : DocIs w B D l) (m : Mod none_ w w') : DocIs w' B D l := by
  obtain ⟨⟨v, MB, bl, n, k, b, f, c⟩, lo⟩ := h
  exact ⟨⟨v, MB, bl, n, k.mod m (fun e => e), b.grown m, f, c.mod m (fun e => e)⟩, lo⟩
theorem DocBs.map {w w' : World} {B MB : Nat} {v : Value} {bl : List (Nat × List CellV)} (h : DocBs w B v bl) (m : Mod (one MB) w w') (hm : ∀ cs t, ¬ Blk w MB cs t) : DocBs w' B v bl :=
  ⟨ownsRow_mod h.1 m (fun k hk e => by have e' : k = MB := e; subst e'; obtain ⟨cs, hb⟩ := ownsRow_type h.1 hk; exact hm _ _ hb), fun x hx => (h.2 x hx).mod m (fun k cs t hk _ e => by have e' : k = MB := e; subst e'; exact hm _ _ hk)⟩
theorem DocBs.own {W W' : World} {B B' : Nat} {v : Value} {bl : List (Nat × List CellV)} (h : DocBs W B v bl) (m : Mod (loopOwn B' W) W W') : DocBs W' B v bl :=
  ⟨ownsRow_mod h.1 m (fun k hk s => by obtain ⟨cs, hb⟩ := ownsRow_type h.1 hk; have := s.2 _ hb; cases this), fun x hx => (h.2 x hx).mod m (fun k cs t hk _ s => by have := s.2 _ hk; cases this)⟩

/-- A round of New's second loop. -/
theorem bodyEnd {w W w3 w4 : World} {a : Option Addr} {len cap MB D bs bn x p nb vc vc' : Nat} {va va' : Option Addr} {l : List CellV} {bl : List (Nat × List CellV)} (hD : w.heap.size ≤ D) (hN : l.length = len)
    (m0 : Mod none_ w W) (kb : Blk W (D + 1) [.pointer (some ⟨D, 0, none⟩)] 42) (ks : Blk W bs [.slice a len cap] 36) (kn : Blk W bn [.int .i64 64] 3) (im : IMap Try.prog 39 W MB (fun _ => none) 0)
    (ho : W.ownsRow w.heap.size 66 1 (.slice va nb vc) nb (bl.map fun x => .pointer (some ⟨x.1, 0, none⟩))) (hbl : ∀ x ∈ bl, BlkIs W w.heap.size x.1 x.2) (hfl : bl.flatMap Prod.snd = l.take x) (hbn : bl.length * 64 = x) (hnb : nb = bl.length)
    (m3 : Mod none_ W.drew w3) (hB : BlkIs w3 W.drew.heap.size p ((l.drop x).take (min 64 (len - x)))) (hown : w4.ownsRow w.heap.size 66 1 (.slice va' (nb + 1) vc') (nb + 1) ((bl.map fun x => .pointer (some ⟨x.1, 0, none⟩)) ++ [.pointer (some ⟨p, 0, none⟩)]))
    (mg : Mod (fun k => (Value.slice va nb vc).ownBlock = some k) w3 w4) (k4 : Blk w4 D [.slice va nb vc, .map (some MB)] 62) :
    KeepsOthers W (w4.setCell ⟨D, 0, none⟩ (.slice va' (nb + 1) vc')) ∧ NewI w a len cap l MB D bs bn (x + 64) (w4.setCell ⟨D, 0, none⟩ (.slice va' (nb + 1) vc')) := by
  have ht : ∀ {k : Nat}, (Value.slice va nb vc).ownBlock = some k → ∃ cs, Blk W k cs 66 := fun e => ownsRow_type ho e
  have m4 : Mod (fun k => (Value.slice va nb vc).ownBlock = some k) W w4 := ((Mod.drew (Mod.refl none_ W)).trans m3).mono (T := fun k => (Value.slice va nb vc).ownBlock = some k) (fun _ _ e => e.elim) |>.trans mg
  have hge : ∀ k, (Value.slice va nb vc).ownBlock = some k → w.heap.size ≤ k := fun k hk => (ho.lt k hk).1
  have ms : Mod (one D) w4 (w4.setCell ⟨D, 0, none⟩ (.slice va' (nb + 1) vc')) := (Mod.refl (one D) w4).setCell ⟨D, 0, none⟩ (fun _ => rfl) _
  have k5 := k4.set 0 (.slice va' (nb + 1) vc')
  have far : ∀ {b : Nat} {cs : List Value} {t : TypeId}, Blk W b cs t → t ≠ 66 → b ≠ D → Blk (w4.setCell ⟨D, 0, none⟩ (.slice va' (nb + 1) vc')) b cs t := fun hb h1 h2 =>
    (hb.mod m4 (fun e => by obtain ⟨cs, hk⟩ := ht e; exact Blk.apart hb hk h1 rfl)).mod ms h2
  have ne : ∀ {b : Nat} {cs : List Value} {t : TypeId}, Blk W b cs t → t ≠ 66 → t ≠ 62 → b ≠ D := fun hb h0 h1 e => by
    subst e
    exact Blk.apart (hb.mod m4 (fun e => by obtain ⟨cs, hk⟩ := ht e; exact Blk.apart hb hk h0 rfl)) k4 h1 rfl
  refine ⟨(keeps_of_mod m4 (fun k hk o ho' => ?_)).trans (KeepsOthers.setCell _ _ _), ?_, far kb (by decide) (by omega), far ks (by decide) (ne ks (by decide) (by decide)), far kn (by decide) (ne kn (by decide) (by decide)), ?_, .slice va' (nb + 1) vc', bl ++ [(p, (l.drop x).take (min 64 (len - x)))], k5, ⟨?_, ?_⟩, ?_, ?_⟩
  · obtain ⟨cs, hb⟩ := ht hk
    unfold Blk at hb
    rw [hb] at ho'
    cases ho'
    rfl
  · exact (m0.transIn m4 (fun k hk e => absurd (hge k e) (by omega))).transIn ms (fun k hk e => by have e' : k = D := e; omega)
  · refine (im.mod m4 (fun e => ?_)).mod ms (fun e => ?_)
    · obtain ⟨cs, hb⟩ := ht e
      exact imap_blk im hb
    · have e' : MB = D := e
      subst e'
      refine imap_blk (im.mod m4 (fun e => ?_)) k4
      obtain ⟨cs, hb⟩ := ht e
      exact imap_blk im hb
  · have e1 : (bl ++ [(p, (l.drop x).take (min 64 (len - x)))]).length = nb + 1 := by simp [hnb]
    rw [e1, List.map_append]
    refine ownsRow_mod hown ms (fun k hk e => ?_)
    have e' : k = D := e
    subst e'
    obtain ⟨cs, hb⟩ := ownsRow_type hown hk
    exact Blk.apart hb k4 (by decide) rfl
  · intro y hy
    rcases List.mem_append.1 hy with hy | hy
    · refine ((hbl y hy).mod m4 (fun k cs t hk ht' e => ?_)).mod ms (fun k cs t hk ht' e => ?_)
      · obtain ⟨cs', hb⟩ := ht e
        exact Blk.apart hk hb (by rcases ht' with rfl | rfl <;> decide) rfl
      · have e' : k = D := e
        subst e'
        exact Blk.apart hk k4 (by rcases ht' with rfl | rfl <;> decide) rfl
    · rw [List.mem_singleton.1 hy]
      have hsz := m0.size
      refine ((hB.base (B' := w.heap.size) hsz).mod mg (fun k cs t hk ht' e => ?_)).mod ms (fun k cs t hk ht' e => ?_)
      · obtain ⟨cs', hb⟩ := ht e
        exact Blk.apart hk ((hb.drew).mod m3 (fun e => e)) (by rcases ht' with rfl | rfl <;> decide) rfl
      · have e' : k = D := e
        subst e'
        exact Blk.apart hk k4 (by rcases ht' with rfl | rfl <;> decide) rfl
  · rw [List.flatMap_append, hfl]
    simp only [List.flatMap_cons, List.flatMap_nil, List.append_nil]
    rw [List.take_add, List.append_cancel_left_eq, List.take_eq_take_iff, List.length_drop]
    omega
  · rw [List.length_append, List.length_singleton]
    omega

end Go.Proofs.Ytficfoedofkhhaa
