/-
  Layer 1 (runes): steps, Len: how many runes a text has.
-/
import Derived.Test.YtficfoedofkhhaaUtf
import Derived.Test.YtficfoedofkhhaaRange_
namespace Go.Proofs.Ytficfoedofkhhaa
open Go.RowKit Go.Shelf Go.Mine
attribute [local go_sem] Oper.semAt_some

theorem keeps_of_mod {S : Nat → Prop} {w w' : World} (m : Mod S w w') (h : ∀ k, S k → ∀ o, w.heap[k]? = some o → o.isCells = true) : KeepsOthers w w' :=
  ⟨m.size, fun k o hk ho => m.blk (fun s => by rw [h k s o hk] at ho; cases ho) hk⟩
theorem keeps_none {w w' : World} (m : Mod none_ w w') : KeepsOthers w w' := keeps_of_mod m (fun _ e => e.elim)

theorem _root_.Go.Mine.Mod.transOwn {w W W' : World} {B : Nat} (m : Mod none_ w W) (h : Mod (loopOwn B W) W W') (hB : w.heap.size ≤ B) : Mod none_ w W' :=
  ⟨h.os.trans m.os, h.tape.trans m.tape, h.output.trans m.output, Nat.le_trans m.size h.size, fun k hk hs => (h.block k (Nat.lt_of_lt_of_le hk m.size) (fun e => by have := e.1; omega)).trans (m.block k hk hs)⟩
theorem _root_.Go.Mine.Blk.own {W W' : World} {B b : Nat} {cs : List Value} {t : TypeId} (k : Blk W b cs t) (m : Mod (loopOwn B W) W W') : Blk W' b cs t := k.mod m (fun s => by have := s.2 _ k; cases this)

theorem steps_any (s : ByteArray) (w : World) : Calls Try.prog 73 #[.string s] w fun e w' => e = .returned (.func (.func 74) #[] #[.pointer (some ⟨w.heap.size, 0, none⟩)]) ∧ w' = w.alloc (.cells #[.string s] 9) := by
  go_enter Try.func73, Try.ntmps73
  go_wp2
  go_ret
  exact ⟨rfl, rfl⟩

/-- What is behind the first c runes of s is t. -/
def lenRel (s t : ByteArray) (c : Nat) : Prop := (∃ pre, runesOf s = (runesOf t).map (pre ++ ·) ∧ pre.length = c) ∧ c + t.size ≤ s.size
theorem lenRel.start (s : ByteArray) : lenRel s s 0 := ⟨⟨[], by simp, rfl⟩, by omega⟩
theorem lenRel.step {s t : ByteArray} {c : Nat} (h : lenRel s t c) (h0 : t.size ≠ 0) (hb : ¬ bad1 t) : lenRel s (tl t (Lib.decodeGo t).2) (c + 1) := by
  obtain ⟨⟨pre, hp, hl⟩, hs⟩ := h
  have hd := decodeGo_pos h0
  refine ⟨⟨pre ++ [(Lib.decodeGo t).1], ?_, by simp [hl]⟩, by rw [tl_size]; omega⟩
  rw [hp, runesOf_step h0 hb]
  cases runesOf (tl t (Lib.decodeGo t).2) <;> simp
theorem lenRel.bad {s t : ByteArray} {c : Nat} (h : lenRel s t c) (h0 : t.size ≠ 0) (hb : bad1 t) : runesOf s = none := by
  obtain ⟨⟨pre, hp, hl⟩, hs⟩ := h
  rw [hp, runesOf_bad h0 hb]; rfl
theorem lenRel.done {s t : ByteArray} {c : Nat} (h : lenRel s t c) (h0 : t.size = 0) : ulen s = c := by
  obtain ⟨⟨pre, hp, hl⟩, hs⟩ := h
  unfold ulen
  rw [hp, runesOf_nil h0]
  simp [hl]

/-- Len's own cells: the result, the count, the text that is left. -/
def lenI (w : World) : Option (ByteArray × Nat) → World → Prop
  | none, _ => False
  | some (t, c), W => Mod none_ w W ∧ Blk W w.heap.size [.int .i64 0] 3 ∧ Blk W (w.heap.size + 1) [.int .i64 (c : Int)] 3 ∧ Blk W (w.heap.size + 2) [.string t] 9
def lenStep : Option (ByteArray × Nat) → Int × Int → Option (ByteArray × Nat)
  | none, _ => none
  | some (t, c), x => if x.1 < 0 then none else some (t, c + 1)
def lenG (s : ByteArray) : Option (ByteArray × Nat) → Int × Int → Prop
  | none, _ => False
  | some (_, c), x => (0 ≤ x.1 ∧ c < s.size) ∨ (x.1 < 0 ∧ runesOf s = none)

set_option maxHeartbeats 1000000 in
set_option maxRecDepth 1000000 in
theorem steps1_any (F : Fence) (hF : F = Fence.wide) (n : Nat) (s : ByteArray) (w : World) (ht : txtOk w s) (hsz : s.size < 4611686018427387904) (l : Nat) (J : Option (ByteArray × Nat) → World → Prop) (Jx : Code → Option (ByteArray × Nat) → World → Prop) (W : World)
    (hJI : ∀ s W, J s W → lenI w s W) (hJ : ∀ s s' W W', J s W → lenI w s' W' → KeepsOthers W W' → J s' W')
    (hY : ∀ st x W1, J st W1 → lenG s st x → YieldAt F (n - 1) Try.prog l #[.int .i32 x.1, .int .i64 x.2] W1 fun e W' => (e = .returned (.bool true) ∧ J (lenStep st x) W') ∨ (e = .returned (.bool false) ∧ ∃ c, Jx c (lenStep st x) W'))
    (h0 : J (some (s, 0)) W) :
    CallsIn F n Try.prog 74 (#[.func (.yield l) #[] #[]] ++ #[.pointer (some ⟨w.heap.size + 2, 0, none⟩)]) W fun e W' => (∃ v, e = .returned v) ∧ ((∃ st, (∃ t c, st = some (t, c) ∧ lenRel s t c ∧ t.size = 0) ∧ J st W') ∨ (∃ c st, Jx c st W')) := by
  subst hF
  refine callsIn_of_wp Try.func74 rfl trivial ?_ rfl
  simp only [Try.ntmps74, List.size_toArray, List.length_cons, List.length_nil, Nat.reduceAdd, Nat.reduceSub, Array.replicate_succ, Array.replicate_zero, List.push_toArray, List.append_toArray, List.nil_append, List.cons_append]
  gi_wp2
  gi_loopw [] (fun wr => ∃ t c, lenRel s t c ∧ txtOk w t ∧ J (some (t, c)) wr) (fun wr => match wr.cell? ⟨w.heap.size + 2, 0, none⟩ with | some (.string t) => t.size | _ => 0)
  case atStart => exact ⟨s, 0, .start s, ht, h0⟩
  case round =>
    obtain ⟨t, c, hrl, htt, hJ0⟩ := hrel
    obtain ⟨m0, k0, k1, k2⟩ := hJI _ _ hJ0
    have hc2 : wr.cell? ⟨w.heap.size + 2, 0, none⟩ = some (.string t) := by rw [k2.cell]; rfl
    by_cases h0 : t.size = 0
    · have hd : decide (0 < (t.size : Int)) = false := by simp [h0]
      gi_wp2
      go_end0
      exact ⟨⟨_, rfl⟩, .inl ⟨some (t, c), ⟨t, c, rfl, hrl, h0⟩, hJ0⟩⟩
    · have hd : decide (0 < (t.size : Int)) = true := by simp; omega
      gi_wp2_with fail
      refine ⟨trivial, fun h => (by cases h), ?_⟩
      refine (callsIn_wide.2 (decode_any t wr h0 (htt.grown m0))).mono ?_
      rintro e W1 ⟨rfl, m1⟩
      have hJ1 := hJ _ (some (t, c)) _ _ hJ0 ⟨m0.trans m1, k0.mod m1 (fun e => e), k1.mod m1 (fun e => e), k2.mod m1 (fun e => e)⟩ (keeps_none m1)
      have hc3 : W1.cell? ⟨w.heap.size + 2, 0, none⟩ = some (.string t) := by rw [(k2.mod m1 (fun e => e)).cell]; rfl
      have hpos := decodeGo_pos h0
      have hcs : c < s.size := by have := hrl.2; omega
      by_cases hb : bad1 t
      · obtain ⟨fn, tmps, assign, body, hy, hR⟩ := hY (some (t, c)) (-1, 0) W1 hJ1 (.inr ⟨by decide, hrl.bad h0 hb⟩)
        have hb' : (Lib.decodeGo t).1 = 65533 ∧ (Lib.decodeGo t).2 < 2 := hb
        obtain ⟨r, hr⟩ : ∃ r, r = (Lib.decodeGo t).1 := ⟨_, rfl⟩
        obtain ⟨q, hq⟩ : ∃ q, q = (Lib.decodeGo t).2 := ⟨_, rfl⟩
        rw [← hr, ← hq] at hb' ⊢
        obtain ⟨rfl, hq2⟩ := hb'
        have hqd : decide ((q : Int) < 2) = true := by simp; omega
        clear hr hq hpos hb
        gi_wp2_with fail
        refine ⟨fun h => (by cases h), ?_⟩
        refine hR.mono ?_
        rintro e W' (⟨rfl, hj⟩ | ⟨rfl, cc, hj⟩)
        · exact (hJI _ _ hj).elim
        · gi_wp2
          refine bodyPost_ret (results_none rfl _ _ _) rfl ?_
          exact ⟨⟨_, rfl⟩, .inr ⟨cc, _, hj⟩⟩
      · obtain ⟨r, hr⟩ : ∃ r, r = (Lib.decodeGo t).1 := ⟨_, rfl⟩
        obtain ⟨q, hq⟩ : ∃ q, q = (Lib.decodeGo t).2 := ⟨_, rfl⟩
        have hst := hrl.step h0 hb
        have hb' : ¬ ((Lib.decodeGo t).1 = 65533 ∧ (Lib.decodeGo t).2 < 2) := hb
        rw [← hr, ← hq] at hb' ⊢
        rw [← hq] at hpos hst
        obtain ⟨fn, tmps, assign, body, hy, hR⟩ := hY (some (t, c)) ((r : Int), (q : Int)) W1 hJ1 (.inl ⟨by simp, hcs⟩)
        have hstep : lenStep (some (t, c)) ((r : Int), (q : Int)) = some (t, c + 1) := by
          show (if (r : Int) < 0 then none else some (t, c + 1)) = _
          rw [if_neg (by omega)]
        rw [hstep] at hR
        dsimp only at hy
        have hr0 : 0 ≤ (r : Int) := by omega
        by_cases h65 : r = 65533
        · have h66 : ((r : Int) == 65533) = true := by simp; omega
          have hq2 : 2 ≤ q := by omega
          have hq3 : decide ((q : Int) < 2) = false := by simp; omega
          clear hr hq hb hb' h65
          gi_wp2_with fail
          refine ⟨fun h => (by cases h), ?_⟩
          refine hR.mono ?_
          rintro e W' (⟨rfl, hj⟩ | ⟨rfl, cc, hj⟩)
          · obtain ⟨m4, k4, k5, k6⟩ := hJI _ _ hj
            have hc4 : W'.cell? ⟨w.heap.size + 2, 0, none⟩ = some (.string t) := by rw [k6.cell]; rfl
            have hf4 := k6.frozen 0
            have hql : q ≤ t.size := hpos.2.2
            have k7 := k6.set 0 (.string (tl t q))
            have hne : ∀ k, one (w.heap.size + 2) k → k = w.heap.size + 2 := fun _ e => e
            have M7 := (Mod.refl (one (w.heap.size + 2)) W').setCell ⟨w.heap.size + 2, 0, none⟩ (fun _ => rfl) (.string (tl t q))
            have e1 : (W'.setCell ⟨w.heap.size + 2, 0, none⟩ (.string (t.extract q t.size))).cell? ⟨w.heap.size + 2, 0, none⟩ = some (.string (tl t q)) := by
              have := k7.cell 0
              exact this
            gi_wp2
            refine ⟨⟨tl t q, c + 1, hst, htt.tl q, hJ _ _ _ _ hj ⟨m4.setCell _ (fun h => absurd h (by simp)) _, k4.mod M7 (fun e => by have := hne _ e; omega), k5.mod M7 (fun e => by have := hne _ e; omega), k7⟩ (KeepsOthers.setCell _ _ _)⟩, ?_⟩
            rw [e1, hc2]
            show (tl t q).size < t.size
            rw [tl_size]; omega
          · gi_wp2
            refine bodyPost_ret (results_none rfl _ _ _) rfl ?_
            exact ⟨⟨_, rfl⟩, .inr ⟨cc, _, hj⟩⟩
        · have h66 : ((r : Int) == 65533) = false := by simp; omega
          have h67 : ¬ (r : Int) = 65533 := by omega
          have h68 : decide ((r : Int) = 65533) = false := by simp; omega
          clear hr hq hb hb'
          gi_wp2_with fail
          refine ⟨fun h => (by cases h), ?_⟩
          refine hR.mono ?_
          rintro e W' (⟨rfl, hj⟩ | ⟨rfl, cc, hj⟩)
          · obtain ⟨m4, k4, k5, k6⟩ := hJI _ _ hj
            have hc4 : W'.cell? ⟨w.heap.size + 2, 0, none⟩ = some (.string t) := by rw [k6.cell]; rfl
            have hf4 := k6.frozen 0
            have hql : q ≤ t.size := hpos.2.2
            have k7 := k6.set 0 (.string (tl t q))
            have hne : ∀ k, one (w.heap.size + 2) k → k = w.heap.size + 2 := fun _ e => e
            have M7 := (Mod.refl (one (w.heap.size + 2)) W').setCell ⟨w.heap.size + 2, 0, none⟩ (fun _ => rfl) (.string (tl t q))
            have e1 : (W'.setCell ⟨w.heap.size + 2, 0, none⟩ (.string (t.extract q t.size))).cell? ⟨w.heap.size + 2, 0, none⟩ = some (.string (tl t q)) := by
              have := k7.cell 0
              exact this
            gi_wp2
            refine ⟨⟨tl t q, c + 1, hst, htt.tl q, hJ _ _ _ _ hj ⟨m4.setCell _ (fun h => absurd h (by simp)) _, k4.mod M7 (fun e => by have := hne _ e; omega), k5.mod M7 (fun e => by have := hne _ e; omega), k7⟩ (KeepsOthers.setCell _ _ _)⟩, ?_⟩
            rw [e1, hc2]
            show (tl t q).size < t.size
            rw [tl_size]; omega
          · gi_wp2
            refine bodyPost_ret (results_none rfl _ _ _) rfl ?_
            exact ⟨⟨_, rfl⟩, .inr ⟨cc, _, hj⟩⟩

set_option maxHeartbeats 1000000 in
set_option maxRecDepth 1000000 in
theorem len_any (s : ByteArray) (w : World) (ht : txtOk w s) (hsz : s.size < 4611686018427387904) : Calls Try.prog 71 #[.string s] w fun e w' => e = .returned (.int .i64 (ulen s)) ∧ Mod none_ w w' := by
  refine (callsIn_wide (n := 5)).1 ?_
  refine callsIn_of_wp_marks Try.func71 rfl trivial ?_ rfl
  simp only [Try.ntmps71, List.size_toArray, List.length_cons, List.length_nil, Nat.reduceAdd, Nat.reduceSub, Array.replicate_succ, Array.replicate_zero, List.push_toArray, List.append_toArray, List.nil_append, List.cons_append]
  gi_wp2_with fail
  refine ⟨trivial, ?_⟩
  refine (callsIn_wide.2 (steps_any s _)).mono ?_
  rintro e w2 ⟨rfl, rfl⟩
  gi_wp2_with fail
  obtain ⟨W0, hW0⟩ : ∃ W0, (((w.alloc (.cells #[.int .i64 0] 3)).alloc (.cells #[.int .i64 0] 3)).alloc (.cells #[.string s] 9)) = W0 := ⟨_, rfl⟩
  have hz : W0.heap.size = w.heap.size + 3 := by rw [← hW0]; simp
  have hI0 : lenI w (some (s, 0)) W0 := by
    rw [← hW0]
    have m := (((Mod.refl none_ w).alloc (.cells #[.int .i64 0] 3)).alloc (.cells #[.int .i64 0] 3)).alloc (.cells #[.string s] 9)
    have b0 := Blk.new (w := w) (cs := [.int .i64 0]) (t := 3)
    have b1 := Blk.new (w := w.alloc (.cells #[.int .i64 0] 3)) (cs := [.int .i64 0]) (t := 3)
    have b2 := Blk.new (w := (w.alloc (.cells #[.int .i64 0] 3)).alloc (.cells #[.int .i64 0] 3)) (cs := [.string s]) (t := 9)
    rw [World.size_alloc] at b1
    rw [World.size_alloc, World.size_alloc] at b2
    exact ⟨m, (b0.mod ((Mod.refl none_ _).alloc _) (fun e => e)).mod ((Mod.refl none_ _).alloc _) (fun e => e), b1.mod ((Mod.refl none_ _).alloc _) (fun e => e), b2⟩
  have hlb : (w.heap.size + 1 + 1 : Nat) = w.heap.size + 2 := rfl
  rw [hW0]
  refine rangeFunc_law (w := W0) rfl (by decide) (gf := 74) (lb := #[.pointer (some ⟨w.heap.size + 1 + 1, 0, none⟩)]) rfl trivial (enters_of Try.func74 (by kernel_rfl) rfl)
    (fun x : Int × Int => #[.int .i32 x.1, .int .i64 x.2]) (fun _ => rfl) (lenI w) (fun c st W => c = .ret ∧ runesOf s = none ∧ Mod none_ w W ∧ Blk W w.heap.size [.int .i64 (-1)] 3) lenStep (lenG s) (fun st => ∃ t c, st = some (t, c) ∧ lenRel s t c ∧ t.size = 0) (some (s, 0)) ?hI ?hIx hI0
    (fun x => { tmps := #[.string s, undef, .pointer (some ⟨w.heap.size, 0, none⟩), .pointer (some ⟨w.heap.size + 1, 0, none⟩), .int .i32 x.1, .string s, .func (.func 74) #[] #[.pointer (some ⟨w.heap.size + 1 + 1, 0, none⟩)], .int .i32 x.1, .int .i64 x.2, undef, undef, undef, undef, undef], defers := [] }) ?hiter ?assign ?body ?done ?stop
  case hI =>
    rintro (_ | ⟨t, c⟩) W W' h m
    · exact h.elim
    · obtain ⟨m0, k0, k1, k2⟩ := h
      exact ⟨m0.transOwn m (by omega), k0.own m, k1.own m, k2.own m⟩
  case hIx =>
    rintro c st W W' ⟨h1, h2, m0, k0⟩ m
    exact ⟨h1, h2, m0.transOwn m (by omega), k0.own m⟩
  case hiter =>
    intro l J Jx W hJI hJ hY h0
    exact steps1_any Fence.wide rfl (5 - 1) s w ht hsz l J Jx W hJI hJ hY h0
  case assign =>
    intro l x W K hK
    gi_wp2
    exact hK
  case body =>
    rintro l (_ | ⟨t, c⟩) x W hI hG
    · exact hI.elim
    · obtain ⟨m0, k0, k1, k2⟩ := hI
      have c0 : W.cell? ⟨w.heap.size, 0, none⟩ = some (.int .i64 0) := by rw [k0.cell]; rfl
      have f0 := k0.frozen 0
      have c1 : W.cell? ⟨w.heap.size + 1, 0, none⟩ = some (.int .i64 (c : Int)) := by rw [k1.cell]; rfl
      have f1 := k1.frozen 0
      have hne : ∀ b k, one b k → k = b := fun _ _ e => e
      rcases hG with ⟨hx, hc⟩ | ⟨hx, hs⟩
      · have hd : decide (x.1 < 0) = false := by simp; omega
        have hst : lenStep (some (t, c)) x = some (t, c + 1) := by
          show (if x.1 < 0 then none else some (t, c + 1)) = _
          rw [if_neg (by omega)]
        rw [hst]
        have k7 := k1.set 0 (.int .i64 ((c : Int) + 1))
        have M7 := (Mod.refl (one (w.heap.size + 1)) W).setCell ⟨w.heap.size + 1, 0, none⟩ (fun _ => rfl) (.int .i64 ((c : Int) + 1))
        gi_wp2
        exact ⟨KeepsOthers.setCell _ _ _, m0.setCell _ (fun h => absurd h (by simp)) _, k0.mod M7 (fun e => by have := hne _ _ e; omega), k7, k2.mod M7 (fun e => by have := hne _ _ e; omega)⟩
      · have hd : decide (x.1 < 0) = true := by simp; omega
        have k7 := k0.set 0 (.int .i64 (-1))
        have HS := Lib.hid hs
        clear hs
        gi_wp2
        exact ⟨KeepsOthers.setCell _ _ _, rfl, HS.out, m0.setCell _ (fun h => absurd h (by simp)) _, k7⟩
  case done =>
    rintro D st W ⟨t, c, rfl, hrel, h0⟩ ⟨m0, k0, k1, k2⟩ hD hlt
    have c0 : W.cell? ⟨w.heap.size, 0, none⟩ = some (.int .i64 0) := by rw [k0.cell]; rfl
    have f0 := k0.frozen 0
    have c1 : W.cell? ⟨w.heap.size + 1, 0, none⟩ = some (.int .i64 (c : Int)) := by rw [k1.cell]; rfl
    have k7 := k0.set 0 (.int .i64 (c : Int))
    have hK' := (KeepsOthers.setCell W ⟨w.heap.size, 0, none⟩ (.int .i64 (c : Int))).same D _ hD rfl
    have mP := loopOwn_put (B := W0.heap.size) (.deferred none) hlt hK' rfl
    have hc5 : ((W.setCell ⟨w.heap.size, 0, none⟩ (.int .i64 (c : Int))).putObj D (.deferred none)).cell? ⟨w.heap.size, 0, none⟩ = some (.int .i64 (c : Int)) := (k7.own mP).cell 0
    gi_wp2
    refine ⟨by simp, .inl ⟨_, _, rfl, run_takeDeferred hK', ?_⟩⟩
    refine ⟨.int .i64 (c : Int), ?_, by rw [hrel.done h0], (m0.setCell _ (fun h => absurd h (by simp)) _).transOwn mP (by omega)⟩
    simp [results, Try.f71, go_sem, hc5]
  case stop =>
    rintro D c st W ⟨rfl, hs, m0, k0⟩ hD hlt
    have mP := loopOwn_put (B := W0.heap.size) (.deferred none) hlt hD rfl
    have hc5 : (W.putObj D (.deferred none)).cell? ⟨w.heap.size, 0, none⟩ = some (.int .i64 (-1)) := (k0.own mP).cell 0
    have hu : ulen s = -1 := by unfold ulen; rw [hs]
    clear hs
    gi_wp2
    refine ⟨by simp, .inl ⟨_, _, rfl, run_takeDeferred hD, ?_⟩⟩
    refine ⟨.int .i64 (-1), ?_, rfl, m0.transOwn mP (by omega)⟩
    simp [results, Try.f71, go_sem, hc5]

end Go.Proofs.Ytficfoedofkhhaa
