/-
  Texts on which the claim rests, one behind the other: Cel3 Cel5 Cel6 Round_ Cel7 Cel4 Car1 Cel8 Cel9 Doc1 Siz1 Mk1 Fnd1 Mrk1 Mrk2 Par1 Ins0 Rep1 Ins1.
-/
import Derived.Test.YtjgjjlolhdlofaaGreatDoorPs1
import Derived.Outline
import Derived.Deep.LoopGhost
import Derived.Deep.CutBlock
import Derived.Deep.CutRange
import Derived.Laws.CopyRow
import Derived.Shelf.Spec.SlicesInsert
import Derived.Lib.AppendZerosOnto
import Derived.Lib.Overlaps

set_option linter.unusedSimpArgs false
set_option linter.unusedVariables false

namespace Go.Proofs.YtjgjjlolhdlofaaGreatDoor
open Go.RowKit Go.Mine
open Classical

/-- Cells in memory. -/
structure IsCells (w : World) (a : Option Addr) (len cap : Nat) (l : List CellV) : Prop where
  n : l.length = len
  le : len ≤ cap
  big : cap ≤ maxLen
  ok : ∀ c ∈ l, c.ok
  cells : ∀ (i : Nat) (c : CellV), l[i]? = some c → ∃ b off, a = some ⟨b, off, none⟩ ∧ w.rangeAt b (off + i * 5) c.cs
theorem IsCells.grown {w w' : World} {a : Option Addr} {len cap : Nat} {l : List CellV} (h : IsCells w a len cap l) (m : Mod none_ w w') : IsCells w' a len cap l :=
  ⟨h.n, h.le, h.big, h.ok, fun i c hc => by
    obtain ⟨b, off, e, hr⟩ := h.cells i c hc
    exact ⟨b, off, e, fun j v hv => m.cell (fun e => e) (hr j v hv)⟩⟩

abbrev CellV.id (c : CellV) : Value := .agg #[.int .i64 c.site, .int .i64 c.seq, .int .i64 c.off]
abbrev CellV.name (c : CellV) : Value := .agg #[.int .i64 c.site, .int .i64 c.seq]

/-- How often a key stands in a list. -/
noncomputable def cnt (ks : List Value) (x : Value) : Nat := (ks.filter fun y => decide (y = x)).length
theorem cnt_le (ks : List Value) (x : Value) : cnt ks x ≤ ks.length := List.length_filter_le _ _
theorem cnt_append (a b : List Value) (x : Value) : cnt (a ++ b) x = cnt a x + cnt b x := by unfold cnt; rw [List.filter_append, List.length_append]
theorem cnt_one (x y : Value) : cnt [y] x = if y = x then 1 else 0 := by
  unfold cnt
  by_cases h : y = x <;> simp [h]
theorem cnt_zero {ks : List Value} {x : Value} : cnt ks x = 0 ↔ x ∉ ks := by
  unfold cnt
  rw [List.length_eq_zero_iff, List.filter_eq_nil_iff]
  exact ⟨fun h hx => h x hx (by simp), fun h y hy e => h (by simp at e; rw [← e]; exact hy)⟩
/-- A map that counts keys: those of ks, as many as n of them differ. -/
structure Counts (P : Program) (k : TypeId) (w : World) (b : Nat) (ks : List Value) (n : Nat) : Prop where
  ex : ∃ m, IMap P k w b m n ∧ (∀ x, m x ≠ none ↔ x ∈ ks) ∧ ∀ x v, m x = some v → v = .int .i64 (cnt ks x : Int)
  le : n ≤ ks.length
  all : n = ks.length ↔ ks.Nodup
theorem Counts.made (P : Program) (k : TypeId) (w : World) : Counts P k (w.alloc (.map #[] 0)) w.heap.size [] 0 :=
  ⟨⟨_, IMap.made w, fun x => by simp, fun x v h => by cases h⟩, Nat.le_refl _, by simp⟩
theorem Counts.mod {P : Program} {k : TypeId} {S : Nat → Prop} {w w' : World} {b n : Nat} {ks : List Value} (h : Counts P k w b ks n) (M : Mod S w w') (hs : ¬ S b) : Counts P k w' b ks n := by
  obtain ⟨⟨m, hm, r⟩, l, a⟩ := h
  exact ⟨⟨m, hm.mod M hs, r⟩, l, a⟩
/-- A map that counts names (how many keys it has is left open). -/
def Names (P : Program) (k : TypeId) (w : World) (b : Nat) (ks : List Value) : Prop :=
  ∃ m n, IMap P k w b m n ∧ (∀ x, m x ≠ none ↔ x ∈ ks) ∧ ∀ x v, m x = some v → v = .int .i64 (cnt ks x : Int)
theorem Counts.names {P : Program} {k : TypeId} {w : World} {b n : Nat} {ks : List Value} (h : Counts P k w b ks n) : Names P k w b ks := by
  obtain ⟨⟨m, r⟩, _, _⟩ := h
  exact ⟨m, n, r⟩
theorem Names.mod {P : Program} {k : TypeId} {S : Nat → Prop} {w w' : World} {b : Nat} {ks : List Value} (h : Names P k w b ks) (M : Mod S w w') (hs : ¬ S b) : Names P k w' b ks := by
  obtain ⟨m, n, hm, r⟩ := h
  exact ⟨m, n, hm.mod M hs, r⟩
theorem Names.lt {P : Program} {k : TypeId} {w : World} {b : Nat} {ks : List Value} (h : Names P k w b ks) : b < w.heap.size := by
  obtain ⟨m, n, hm, _⟩ := h
  exact hm.lt
theorem cnt_perm {a b : List Value} (h : a.Perm b) (x : Value) : cnt a x = cnt b x := (h.filter _).length_eq
theorem Names.perm {P : Program} {k : TypeId} {w : World} {b : Nat} {ks ks' : List Value} (h : Names P k w b ks) (e : ks.Perm ks') : Names P k w b ks' := by
  obtain ⟨m, n, hm, h1, h2⟩ := h
  exact ⟨m, n, hm, fun x => by rw [h1 x, e.mem_iff], fun x v hv => by rw [h2 x v hv, cnt_perm e]⟩
theorem Counts.step {ks : List Value} {x : Value} {n : Nat} (_hx : x ∈ ks → n ≤ ks.length) (hle : n ≤ ks.length) (hall : n = ks.length ↔ ks.Nodup) :
    (if x ∈ ks then n else n + 1) ≤ (ks ++ [x]).length ∧ ((if x ∈ ks then n else n + 1) = (ks ++ [x]).length ↔ (ks ++ [x]).Nodup) := by
  rw [List.length_append, List.length_singleton]
  by_cases h : x ∈ ks
  · rw [if_pos h]
    refine ⟨by omega, ⟨fun e => by omega, fun e => ?_⟩⟩
    rw [List.nodup_append] at e
    exact absurd rfl (e.2.2 x h x (by simp))
  · rw [if_neg h]
    refine ⟨by omega, ⟨fun e => ?_, fun e => ?_⟩⟩
    · rw [List.nodup_append]
      refine ⟨hall.1 (by omega), by simp, fun a ha b hb => ?_⟩
      rw [List.mem_singleton.1 hb]
      intro e2; rw [e2] at ha; exact h ha
    · rw [List.nodup_append] at e
      rw [hall.2 e.1]

/-- 'm[k]++', as the region that draws asks: what each operation answers, in either order. -/
theorem Counts.incr {P : Program} {k t e : TypeId} {w : World} {b n : Nat} {ks : List Value} (h : Counts P k w b ks n) (K : Maps.Keyed P k) (ht : P.underlying t = some (.map k e)) (hz : ∀ w, (zeroValue e).run P w = .ok (.int .i64 0) w) {x : Value} (hx : isKey P k x) :
    ∃ (q s : Nat) (w1 w2 : World), q ≤ ks.length ∧ (Instr.lookup t (.map (some b)) x false).run P w = .ok (.int .i64 (q : Int)) w ∧ (Instr.mapEntry t (.map (some b)) x).run P w = .ok (.tuple #[.int .i64 (q : Int), .int .i64 (s : Int)]) w1 ∧
      (Instr.lookup t (.map (some b)) x false).run P w1 = .ok (.int .i64 (q : Int)) w1 ∧ (Instr.entryStore t (.map (some b)) (.int .i64 (s : Int)) (.int .i64 ((q : Int) + 1))).run P w1 = .ok () w2 ∧
      Mod (one b) w w1 ∧ Mod (one b) w w2 ∧ Counts P k w2 b (ks ++ [x]) (if x ∈ ks then n else n + 1) := by
  obtain ⟨⟨m, hm, hmem, hval⟩, hle, hall⟩ := h
  obtain ⟨q, hq, hqe⟩ : ∃ q : Nat, (m x).getD (.int .i64 0) = .int .i64 (q : Int) ∧ q = cnt ks x := by
    cases hmx : m x with
    | none => exact ⟨0, rfl, (cnt_zero.2 (fun h => (hmem x).2 h hmx)).symm⟩
    | some v =>
      obtain rfl := hval x v hmx
      exact ⟨_, rfl, rfl⟩
  have hql : q ≤ ks.length := by rw [hqe]; exact cnt_le _ _
  have h1 := hm.lookup K ht (hz w) hx false
  obtain ⟨s, w1, h2, hm1, M1, E1⟩ := hm.entry K ht (hz w) hx
  have h3 := hm1.lookup K ht (hz w1) hx false
  obtain ⟨w2, h4, hm2, M2⟩ := hm1.store (t := t) E1 (.int .i64 ((q : Int) + 1))
  rw [hq] at h1 h2
  have hp : (putM m x ((m x).getD (.int .i64 0))) x = some (.int .i64 (q : Int)) := by rw [putM_same, hq]
  rw [hp] at h3
  have hne : (m x = none) ↔ ¬ x ∈ ks := by
    rw [← hmem x]; exact ⟨fun e h => h e, fun h => Classical.byContradiction h⟩
  have hn : (if m x = none then n + 1 else n) = (if x ∈ ks then n else n + 1) := by
    by_cases hk : x ∈ ks
    · rw [if_pos hk, if_neg (fun e => hne.1 e hk)]
    · rw [if_neg hk, if_pos (hne.2 hk)]
  rw [hn] at hm2
  obtain ⟨l2, a2⟩ := Counts.step (x := x) (fun _ => hle) hle hall
  refine ⟨q, s, w1, w2, hql, h1, h2, h3, h4, M1, M1.trans M2, ⟨⟨_, hm2, fun y => ?_, fun y v hy => ?_⟩, l2, a2⟩⟩
  · by_cases hyx : y = x
    · subst hyx
      rw [putM_same]
      simp
    · rw [putM_other hyx, putM_other hyx, hmem y, List.mem_append, List.mem_singleton]
      exact ⟨.inl, fun h => h.elim id (fun e => absurd e hyx)⟩
  · rw [cnt_append, cnt_one]
    by_cases hyx : y = x
    · subst hyx
      rw [putM_same] at hy
      cases hy
      rw [if_pos rfl, ← hqe]; simp
    · rw [putM_other hyx, putM_other hyx] at hy
      rw [if_neg (fun e => hyx e.symm), Nat.add_zero]
      exact hval y v hy

end Go.Proofs.YtjgjjlolhdlofaaGreatDoor

namespace Go.Proofs.YtjgjjlolhdlofaaGreatDoor
open Go.RowKit Go.Mine

theorem infoCell : (Tryz.prog.info? 53).map (fun i => (i.zero, i.size, i.bytes)) = some (some (.agg #[.int .i64 0, .int .i64 0, .int .i64 0, .int .i32 0, .bool false]), 5, 32) := by kernel_rfl
theorem CellV.len (c : CellV) : c.cs.length = 5 := rfl
theorem CellV.ones (c : CellV) : ∀ v ∈ c.cs, v.oneCell' = true := by
  intro v hv
  simp [CellV.cs] at hv
  rcases hv with rfl | rfl | rfl | rfl | rfl <;> rfl
theorem flat_ones (l : List CellV) : ∀ v ∈ flat CellV.cs l, v.oneCell' = true := by
  intro v hv
  unfold flat at hv
  obtain ⟨c, _, hc⟩ := List.mem_flatMap.1 hv
  exact c.ones v hc
/-- The cells in memory, as one row. -/
theorem IsCells.row {w : World} {b off len cap : Nat} {l : List CellV} (h : IsCells w (some ⟨b, off, none⟩) len cap l) : w.rangeAt b off (flat CellV.cs l) := by
  intro j v hv
  have hj : j < l.length * 5 := by
    have := (List.getElem?_eq_some_iff.1 hv).1
    rw [flat_length CellV.len] at this; exact this
  have hi : j / 5 < l.length := by omega
  have hx : l[j / 5]? = some (l[j / 5]'hi) := List.getElem?_eq_getElem _
  obtain ⟨b', off', e, hr⟩ := h.cells (j / 5) _ hx
  cases e
  have hg := flat_get CellV.len l (j / 5) (j % 5) _ hx (Nat.mod_lt _ (by decide))
  rw [show j / 5 * 5 + j % 5 = j by omega, hv] at hg
  have := hr (j % 5) v hg.symm
  rw [show off + j / 5 * 5 + j % 5 = off + j by omega] at this
  exact this

set_option maxHeartbeats 2000000 in
set_option maxRecDepth 1000000 in
theorem clone_any (w : World) (b off len cap : Nat) (l : List CellV) (h : IsCells w (some ⟨b, off, none⟩) len cap l) (hlen : len ≤ 1099511627776) :
    Calls Tryz.prog 122 #[.slice (some ⟨b, off, none⟩) len cap] w fun e w' => ∃ v, e = .returned v ∧ w'.ownsRow w.heap.size 53 5 v len (flat CellV.cs l) ∧ Mod none_ w w' := by
  obtain ⟨i0, hi0, hz0, hz1, hz2⟩ := info_parts infoCell
  have hN := h.n
  have qT : ∀ (w : World) (a : Option Addr) (n c n' c' : Nat), (binOp .eql 22 (.slice a n c) (.slice none n' c')).run Tryz.prog w = .ok (.bool a.isNone) w := fun w a n c n' c' => Lib.run_eql_slice_nil w _ _ a n c n' c' Tryz.underlying22
  have O0 := World.ownsRow_made (base := w.heap.size) (e := 53) (size := 5) w #[] 0 (Nat.le_refl _) (by unfold maxLen; omega) rfl
  have mA := (Mod.refl none_ w).alloc (.cells #[] 53)
  have RW := Lib.hid (h.grown mA).row
  have hfl : (flat CellV.cs l).length = len * 5 := by rw [flat_length CellV.len, hN]
  have MA := Lib.hid mA
  have OO := Lib.hid O0
  have HF := Lib.hid hfl
  clear h mA O0 hfl
  go_enter Tryz.func122, Tryz.ntmps122
  go_wp2_with (at_builtin; refine wpList_append_own _ rfl (.tmp 5) (.tmp 6) 22 rfl w.heap.size 53 i0 _ 5 32 Tryz.underlying22 hi0 hz0 hz1 hz2 rfl (by decide) _ 0 [] rfl (by exact OO.out) ⟨b, off, none⟩ len cap (flat CellV.cs l) rfl (by exact HF.out) (fun j u hu => by rw [Addr.add_lit]; exact RW.out j u hu) (flat_ones l) (by unfold maxLen; omega) (by omega) (by simp) ?_; intro v' w1 ho hg _; have OV := Lib.hid ho; have MV := Lib.hid (MA.out.grown hg (fun k e hk => by have := (OO.out.lt k e).1; omega)); clear ho hg)
  go_ret
  refine ⟨v', rfl, ?_, MV.out⟩
  have := OV.out
  rw [Nat.zero_add, List.nil_append] at this
  exact this

/-- How many cells are live. -/
def liveN (l : List CellV) : Nat := (l.filter fun c => !c.gone).length
theorem liveN_snoc (l : List CellV) (c : CellV) : liveN (l ++ [c]) = liveN l + if c.gone then 0 else 1 := by
  unfold liveN
  rw [List.filter_append, List.length_append]
  cases h : c.gone <;> simp [h]
theorem liveN_le (l : List CellV) : liveN l ≤ l.length := List.length_filter_le _ _

set_option maxHeartbeats 2000000 in
set_option maxRecDepth 1000000 in
theorem count_any (w : World) (b B : Nat) (x y : Int) (v : Value) (n : Nat) (l : List CellV) (kb : Blk w b [.int .i64 x, .int .i64 y, v] 145) (hv : w.ownsRow B 53 5 v n (flat CellV.cs l)) (hne : v.ownBlock ≠ some b) (hn : l.length = n) (hlen : n ≤ 1099511627776) :
    Calls Tryz.prog 117 #[.pointer (some ⟨b, 0, none⟩)] w fun e w' => e = .returned (.tuple #[]) ∧ Blk w' b [.int .i64 (n : Int), .int .i64 (liveN l : Int), v] 145 ∧ Mod (one b) w w' := by
  have c0 : w.cell? ⟨b, 0, none⟩ = some (.int .i64 x) := by rw [kb.cell]; rfl
  have c1 : w.cell? ⟨b, 1, none⟩ = some (.int .i64 y) := by rw [kb.cell]; rfl
  have c2 : w.cell? ⟨b, 2, none⟩ = some v := by rw [kb.cell]; rfl
  have f0 := kb.frozen 0
  have f1 := kb.frozen 1
  have k1 := (kb.set 0 (.int .i64 (n : Int))).set 1 (.int .i64 0)
  have m1 := ((Mod.refl (one b) w).setCell ⟨b, 0, none⟩ (fun _ => rfl) (.int .i64 (n : Int))).setCell ⟨b, 1, none⟩ (fun _ => rfl) (.int .i64 0)
  have c3 : ((w.setCell ⟨b, 0, none⟩ (.int .i64 (n : Int))).setCell ⟨b, 1, none⟩ (.int .i64 0)).cell? ⟨b, 2, none⟩ = some v := by rw [k1.cell]; rfl
  have K1 := Lib.hid (show Blk ((w.setCell ⟨b, 0, none⟩ (.int .i64 (n : Int))).setCell ⟨b, 1, none⟩ (.int .i64 0)) b [.int .i64 (n : Int), .int .i64 0, v] 145 from k1)
  have M1 := Lib.hid m1
  rcases ownsRow_blk hv with ⟨rfl, rfl, _⟩ | ⟨g, cap, more, rfl, _, kg, hnc, hcm, _⟩
  · obtain rfl : l = [] := List.eq_nil_of_length_eq_zero hn
    clear kb hv k1 m1
    go_enter Tryz.func117, Tryz.ntmps117
    go_wp2_with fail
    go_loopg [18] 0 (fun g s18 wx => s18 = .int .i64 0 ∧ wx = ((w.setCell ⟨b, 0, none⟩ (.int .i64 0)).setCell ⟨b, 1, none⟩ (.int .i64 0)))
    case atStart => exact ⟨rfl, rfl⟩
    case round =>
      obtain ⟨rfl, rfl⟩ := hrel
      go_wp2_with fail
      go_end0
      exact ⟨rfl, K1.out, M1.out⟩
  · have hgb : g ≠ b := fun e => hne (by rw [e]; rfl)
    unfold maxLen at hcm
    have KG := Lib.hid (kg.mod m1 (fun e => hgb e))
    have HN := Lib.hid hn
    clear kb hv k1 m1 kg
    go_enter Tryz.func117, Tryz.ntmps117
    go_wp2_with fail
    generalize (w.setCell ⟨b, 0, none⟩ (.int .i64 (n : Int))).setCell ⟨b, 1, none⟩ (.int .i64 0) = w1 at K1 M1 KG c3 ⊢
    go_loopg [18] n (fun g' s18 wx => ∃ k : Nat, g' = n - k ∧ s18 = .int .i64 k ∧ k ≤ n ∧ Mod (one b) w1 wx ∧ Blk wx b [.int .i64 (n : Int), .int .i64 (liveN (l.take k) : Int), .slice (some ⟨g, 0, none⟩) n cap] 145)
    case atStart => exact ⟨0, rfl, rfl, Nat.zero_le _, Mod.refl _ _, K1.out⟩
    case round =>
      obtain ⟨k, rfl, rfl, hk, mx, kx⟩ := hrel
      have MX := Lib.hid mx
      have KX := Lib.hid kx
      by_cases hlk : k < n
      · obtain ⟨c, hx⟩ : ∃ x, l[k]? = some x := ⟨l[k]'(by rw [HN.out]; omega), by simp⟩
        have kgx := KG.out.mod mx (fun e => hgb e)
        have q0 := Blk.elem CellV.len kgx k 0 c hx (by decide)
        have q1 := Blk.elem CellV.len kgx k 1 c hx (by decide)
        have q2 := Blk.elem CellV.len kgx k 2 c hx (by decide)
        have q3 := Blk.elem CellV.len kgx k 3 c hx (by decide)
        have q4 := Blk.elem CellV.len kgx k 4 c hx (by decide)
        simp only [CellV.cs, Nat.add_zero, List.getElem?_cons_zero, List.getElem?_cons_succ] at q0 q1 q2 q3 q4
        have htk : l.take (k + 1) = l.take k ++ [c] := by
          obtain ⟨hk', e⟩ := List.getElem?_eq_some_iff.1 hx
          rw [List.take_succ_eq_append_getElem hk', e]
        have HT := Lib.hid htk
        have hlv := liveN_le (l.take k)
        rw [List.length_take] at hlv
        have hgl := kgx.lt
        have hbl := kx.lt
        have x1 : wr.cell? ⟨b, 1, none⟩ = some (.int .i64 (liveN (l.take k) : Int)) := by rw [kx.cell]; rfl
        have y1 := kx.frozen 1
        clear hx kgx htk mx kx
        cases hgone : c.gone
        · rw [hgone] at q4
          have E2 := Lib.hid (show ((liveN (l.take (k + 1)) : Nat) : Int) = (liveN (l.take k) : Int) + 1 by rw [HT.out, liveN_snoc, hgone]; simp)
          go_wp2_with fail
          go_roundg (n - (k + 1))
          case measure => omega
          case rel => exact ⟨k + 1, rfl, by go_num, by omega, (MX.out.setCell ⟨b, 1, none⟩ (fun _ => rfl) _).alloc _, by rw [E2.out]; exact (KX.out.set 1 (.int .i64 ((liveN (l.take k) : Int) + 1))).mod ((Mod.refl none_ _).alloc _) (fun e => e)⟩
        · rw [hgone] at q4
          have E2 := Lib.hid (show ((liveN (l.take (k + 1)) : Nat) : Int) = (liveN (l.take k) : Int) by rw [HT.out, liveN_snoc, hgone]; simp)
          go_wp2_with fail
          go_roundg (n - (k + 1))
          case measure => omega
          case rel => exact ⟨k + 1, rfl, by go_num, by omega, MX.out.alloc _, by rw [E2.out]; exact KX.out.mod ((Mod.refl none_ _).alloc _) (fun e => e)⟩
      · obtain rfl : k = n := by omega
        have e : l.take k = l := List.take_of_length_le (by rw [HN.out]; omega)
        rw [e] at kx
        have KE := Lib.hid kx
        clear mx kx
        go_wp2_with fail
        go_end0
        exact ⟨rfl, KE.out, M1.out.trans MX.out⟩

/-- A block of cells, all of it at or above B. -/
structure BlkIs (w : World) (B p : Nat) (l : List CellV) : Prop where
  ex : ∃ v, Blk w p [.int .i64 (l.length : Int), .int .i64 (liveN l : Int), v] 145 ∧ w.ownsRow B 53 5 v l.length (flat CellV.cs l) ∧ v.ownBlock ≠ some p
  lo : B ≤ p
theorem BlkIs.grown {w w' : World} {B p : Nat} {l : List CellV} (h : BlkIs w B p l) (m : Mod none_ w w') : BlkIs w' B p l := by
  obtain ⟨⟨v, k, o, n⟩, lo⟩ := h
  exact ⟨⟨v, k.mod m (fun e => e), ownsRow_mod o m (fun _ _ e => e), n⟩, lo⟩

set_option maxHeartbeats 2000000 in
set_option maxRecDepth 1000000 in
theorem newBlock_any (w : World) (b off len cap : Nat) (l : List CellV) (h : IsCells w (some ⟨b, off, none⟩) len cap l) (hlen : len ≤ 1099511627776) :
    Calls Tryz.prog 101 #[.slice (some ⟨b, off, none⟩) len cap] w fun e w' => ∃ p, e = .returned (.pointer (some ⟨p, 0, none⟩)) ∧ BlkIs w' w.heap.size p l ∧ Mod none_ w w' := by
  have hN := h.n
  have H := Lib.hid h
  clear h
  go_enter Tryz.func101, Tryz.ntmps101
  go_wp2_with fail
  refine (clone_any w b off len cap l H.out hlen).mono ?_
  rintro e w1 ⟨v, rfl, ho, m1⟩
  obtain ⟨va, vc, rfl⟩ : ∃ va vc, v = .slice va len vc := by
    rcases ownsRow_blk ho with ⟨rfl, rfl, _⟩ | ⟨g, c', _, rfl, _⟩
    · exact ⟨none, 0, rfl⟩
    · exact ⟨_, c', rfl⟩
  have m2 := m1.alloc (.cells #[.int .i64 0, .int .i64 0, .slice va len vc] 145)
  have k2 := Blk.new (w := w1) (cs := [.int .i64 0, .int .i64 0, .slice va len vc]) (t := 145)
  have o2 := ownsRow_mod ho ((Mod.refl none_ w1).alloc (.cells #[.int .i64 0, .int .i64 0, .slice va len vc] 145)) (fun _ _ e => e)
  have hne : (Value.slice va len vc).ownBlock ≠ some w1.heap.size := fun e => by have := (ho.lt _ e).2; omega
  have hsz := m1.size
  have K2 := Lib.hid k2
  have O2 := Lib.hid o2
  have M2 := Lib.hid m2
  have NE := Lib.hid hne
  clear ho m1 m2 k2 o2 hne
  go_wp2_with fail
  refine (count_any _ w1.heap.size w.heap.size 0 0 (.slice va len vc) len l K2.out O2.out NE.out hN hlen).mono ?_
  rintro e w3 ⟨rfl, k3, m3⟩
  have B3 : BlkIs w3 w.heap.size w1.heap.size l := ⟨⟨.slice va len vc, by rw [hN]; exact k3, by rw [hN]; exact ownsRow_mod O2.out m3 (fun k hk e => NE.out (by have e' : k = w1.heap.size := e; rw [← e']; exact hk)), NE.out⟩, hsz⟩
  have BB := Lib.hid B3
  have M3 := Lib.hid (M2.out.transIn m3 (fun b hb e => by have e' : b = w1.heap.size := e; omega))
  clear k3 m3 B3
  go_wp2_with fail
  go_ret
  exact ⟨_, rfl, BB.out, M3.out⟩

end Go.Proofs.YtjgjjlolhdlofaaGreatDoor

namespace Go.Proofs.YtjgjjlolhdlofaaGreatDoor
open Go.RowKit Go.Shelf Go.Mine
attribute [local go_sem] Oper.semAt_some

theorem chunk_any (a : Option Addr) (len cap : Nat) (w : World) : Calls Tryz.prog 100 #[.slice a len cap, .int .i64 64] w fun e w' =>
    e = .returned (.func (.func 121) #[] #[.pointer (some ⟨w.heap.size, 0, none⟩), .pointer (some ⟨w.heap.size + 1, 0, none⟩)]) ∧ w' = (w.alloc (.cells #[.slice a len cap] 22)).alloc (.cells #[.int .i64 64] 3) := by
  go_enter Tryz.func100, Tryz.ntmps100
  go_wp2
  go_ret
  exact ⟨rfl, rfl⟩

/-- A chunk: where it begins; as long as min 64 of what is left. -/
def chunkV (b off len i : Nat) : Value := .slice (some ⟨b, off + i * 5, none⟩) (((i : Int) + min 64 ((len - i : Nat) : Int)).toNat - i) (((i : Int) + min 64 ((len - i : Nat) : Int)).toNat - i)
theorem chunkV_eq (b off len i : Nat) : chunkV b off len i = .slice (some ⟨b, off + i * 5, none⟩) (min 64 (len - i)) (min 64 (len - i)) := by
  unfold chunkV
  rw [show ((i : Int) + min 64 ((len - i : Nat) : Int)).toNat - i = min 64 (len - i) by omega]

set_option maxHeartbeats 2000000 in
set_option maxRecDepth 1000000 in
theorem chunk1_any (F : Fence) (hF : F = Fence.wide) (n : Nat) (a : Option Addr) (b off len cap bs bn : Nat) (hab : 0 < len → a = some ⟨b, off, none⟩) (hle : len ≤ cap) (_hcap : cap ≤ 9223372036854775807) (hlen : len ≤ 1099511627776) (I : Nat → World → Prop)
    (hIs : ∀ i W, I i W → Blk W bs [.slice a len cap] 22 ∧ Blk W bn [.int .i64 64] 3) (hId : ∀ i W, I i W → I i W.drew)
    (l : Nat) (J : Nat → World → Prop) (Jx : Code → Nat → World → Prop) (W : World) (hJI : ∀ s W, J s W → I s W) (hJ : ∀ s s' W W', J s W → I s' W' → KeepsOthers W W' → J s' W')
    (hY : ∀ st (x : Nat) W1, J st W1 → (x = st ∧ x < len) → YieldAt F (n - 1) Tryz.prog l #[chunkV b off len x] W1 fun e W' => (e = .returned (.bool true) ∧ J (st + 64) W') ∨ (e = .returned (.bool false) ∧ ∃ c, Jx c (st + 64) W'))
    (h0 : J 0 W) :
    CallsIn F n Tryz.prog 121 (#[.func (.yield l) #[] #[]] ++ #[.pointer (some ⟨bs, 0, none⟩), .pointer (some ⟨bn, 0, none⟩)]) W fun e W' => (∃ v, e = .returned v) ∧ ((∃ st, (len ≤ st ∧ st % 64 = 0 ∧ st < len + 64) ∧ J st W') ∨ (∃ c st, Jx c st W')) := by
  subst hF
  refine callsIn_of_wp Tryz.func121 rfl trivial ?_ rfl
  simp only [Tryz.ntmps121, List.size_toArray, List.length_cons, List.length_nil, Nat.reduceAdd, Nat.reduceSub, Array.replicate_succ, Array.replicate_zero, List.push_toArray, List.append_toArray, List.nil_append, List.cons_append]
  gi_wp2
  gi_loopw [4] (fun s4 wr => ∃ i : Nat, s4 = .int .i64 i ∧ i % 64 = 0 ∧ i < len + 64 ∧ J i wr) (fun s4 wr => len + 64 - (intOf s4).toNat)
  case atStart => exact ⟨0, rfl, rfl, by omega, h0⟩
  case round =>
    obtain ⟨i, rfl, hi, hil, hJ0⟩ := hrel
    obtain ⟨ks, kn⟩ := hIs _ _ (hJI _ _ hJ0)
    have c0 : wr.cell? ⟨bs, 0, none⟩ = some (.slice a len cap) := by rw [ks.cell]; rfl
    have c1 : wr.cell? ⟨bn, 0, none⟩ = some (.int .i64 64) := by rw [kn.cell]; rfl
    by_cases hlt : i < len
    · obtain rfl := hab (by omega)
      have hJd := hJ _ _ _ _ hJ0 (hId _ _ (hJI _ _ hJ0)) (KeepsOthers.drew wr)
      have d0 : wr.drew.cell? ⟨bs, 0, none⟩ = some (.slice (some ⟨b, off, none⟩) len cap) := c0
      have d1 : wr.drew.cell? ⟨bn, 0, none⟩ = some (.int .i64 64) := c1
      gi_wp2_with fail
      obtain ⟨fn, tmps, assign, body, hy, hR⟩ := hY i i wr.drew hJd ⟨rfl, hlt⟩
      unfold chunkV at hy
      gi_region
      all_goals gi_wp2_with fail
      all_goals refine ⟨fun h => (by cases h), ?_⟩
      all_goals refine hR.mono ?_
      all_goals
        rintro e W' (⟨rfl, hj⟩ | ⟨rfl, cc, hj⟩)
        · obtain ⟨ks', kn'⟩ := hIs _ _ (hJI _ _ hj)
          have x0 : W'.cell? ⟨bs, 0, none⟩ = some (.slice (some ⟨b, off, none⟩) len cap) := by rw [ks'.cell]; rfl
          have x1 : W'.cell? ⟨bn, 0, none⟩ = some (.int .i64 64) := by rw [kn'.cell]; rfl
          have hw : wrap64 ((i : Int) + 64) = (i : Int) + 64 := by unfold wrap64; omega
          gi_wp2
          refine ⟨⟨i + 64, by rw [Int.natCast_add]; rfl, by omega, by omega, hj⟩, by simp [intOf]; omega⟩
        · gi_wp2
          refine bodyPost_ret (results_none rfl _ _ _) rfl ?_
          exact ⟨⟨_, rfl⟩, .inr ⟨cc, _, hj⟩⟩
    · gi_wp2
      go_end0
      exact ⟨⟨_, rfl⟩, .inl ⟨i, ⟨by omega, hi, hil⟩, hJ0⟩⟩

end Go.Proofs.YtjgjjlolhdlofaaGreatDoor

namespace Go.Mine
open Go.RowKit

def notDefer (o : Oper) : Bool := match o.op with | .defer _ => false | _ => true

variable {P : Program} {ops : Array Oper} {Q : Exit → Act → World → Prop} {md : Region.Mode} {S : World → Prop} {l n : Nat}

theorem wpIn_of_wp {o : Oper} {K : Act → World → Prop} {a : Act} {w : World} (hd : notDefer o = true) (h : o.wp P a w K Q) : o.wpIn (Fence.wide.inRound l) n P a w K Q := by
  refine ⟨fun _ _ => trivial, ?_⟩
  rw [Oper.semAt_eq _ _ _ (fun c e => by unfold notDefer at hd; rw [e] at hd; cases hd)]
  unfold Oper.wp at h
  generalize (execOp a.eval o).run P w = r at *
  cases r with
  | ok x w' =>
    cases x <;> simp only [Oper.upon, Oper.uponIn] at h ⊢
    case value v => exact h
    case skip => exact h
    case defer d => exact h
    case enter f args => exact ⟨fun e => (by cases e), CallsIn.inRound l (callsIn_wide.2 h)⟩
    case row row args =>
      refine ⟨fun e => (by cases e), fun c cs _ => ?_⟩
      obtain ⟨v, w2, r, s⟩ := h c cs
      exact ⟨v, w2, r, stepsIn_wide.2 s⟩
  | halt x w' =>
    cases x <;> simp only [Oper.upon, Oper.uponIn] at h ⊢
    case panic v => exact h

theorem wpOpIn_of_wpOp {i : Nat} {K K' : Act → World → Prop} {a : Act} {w : World} (hd : ops.all notDefer = true) (hL : ¬ LetsOut Q) (hK : ∀ a w, K a w → K' a w) (h : wpOp P ops Q i K a w) : wpOpIn (Fence.wide.inRound l) n P ops Q i K' a w := by
  refine wpOpIn_mono hK ?_
  unfold wpOp at h
  unfold wpOpIn
  cases ho : ops[i]? with
  | none => simpa [ho] using h
  | some o =>
    have hd' : notDefer o = true := by
      obtain ⟨hi, e⟩ := Array.getElem?_eq_some_iff.1 ho
      rw [← e]
      exact (Array.all_eq_true.1 hd) i hi
    simp only [ho] at h ⊢
    split
    · rename_i hw
      rw [if_pos hw] at h
      rcases h with h | ⟨_, h⟩
      · exact wpIn_of_wp hd' h
      · exact (hL h).elim
    · rename_i hw
      rw [if_neg hw] at h
      exact ⟨fun _ _ => trivial, h⟩

theorem wpAnyIn_of_held (hd : ops.all notDefer = true) (hL : ¬ LetsOut Q) : ∀ (fuel : Nat) (listed : Array Bool) (a : Act) (w : World), wpAnyH P md ops Q S fuel listed a w → wpAnyIn (Fence.wide.inRound l) n P md ops Q fuel listed a w
  | 0, _, _, _, h => h
  | fuel + 1, _, _, _, h => ⟨h.1, fun i hi => wpOpIn_of_wpOp hd hL (fun a' w' h' => wpAnyIn_of_held hd hL fuel _ a' w' h'.2) (h.2 i hi)⟩

theorem round_held {id : Nat} {a : Act} {w : World} (S : World → Prop) (hm : P.follows .mixedOrders = true) (hd : ops.all notDefer = true) (hL : ¬ LetsOut Q) (hS : S w.drew)
    (h : S w.drew → wpAnyH P .any ops Q S ops.size (Array.replicate ops.size false) a w.drew) : (Code.region id ops true).wpIn (Fence.wide.inRound l) n P Q a w :=
  wpIn_region_any hm (wpAnyIn_of_held hd hL _ _ _ _ (h hS))

end Go.Mine

namespace Go.Proofs.YtjgjjlolhdlofaaGreatDoor
open Go.RowKit Go.Shelf Go.Mine
open Classical
attribute [local go_sem] Oper.semAt_some

theorem zInt (w : World) : (zeroValue 3).run Tryz.prog w = .ok (.int .i64 0) w := by kernel_rfl
theorem okId {c : CellV} (h : c.ok) : isKey Tryz.prog 165 c.id := key_id h.i1 h.i2 h.i3
theorem okName {c : CellV} (h : c.ok) : isKey Tryz.prog 42 c.name := key_name h.i1 h.i2

/-- New's error. -/
noncomputable def newE (l : List CellV) : Int := if l.all cellOk = true then (if (l.map CellV.id).Nodup then (if l.length ≤ 20000 then 0 else 4) else 15) else 1

/-- The document's blocks: where they lie, and what cells they hold. -/
def DocBs (W : World) (B : Nat) (v : Value) (bl : List (Nat × List CellV)) : Prop :=
  W.ownsRow B 141 1 v bl.length (bl.map fun x => .pointer (some ⟨x.1, 0, none⟩)) ∧ ∀ x ∈ bl, BlkIs W B x.1 x.2
/-- Where a block's cells lie. -/
def Arr (W : World) (p g : Nat) : Prop := ∃ a b v, Blk W p [a, b, v] 145 ∧ v.ownBlock = some g
/-- No two blocks share anything. -/
def Apart (W : World) (bl : List (Nat × List CellV)) : Prop := bl.Pairwise fun x y => x.1 ≠ y.1 ∧ ∀ g, Arr W x.1 g → ¬ Arr W y.1 g
theorem Arr.of_heap {W W' : World} {p g : Nat} (e : W'.heap[p]? = W.heap[p]?) (h : Arr W' p g) : Arr W p g := by
  obtain ⟨a, b, v, k, o⟩ := h
  exact ⟨a, b, v, by unfold Blk at k ⊢; rw [← e]; exact k, o⟩
theorem Apart.of_heap {W W' : World} {bl : List (Nat × List CellV)} (e : ∀ x ∈ bl, W'.heap[x.1]? = W.heap[x.1]?) (h : Apart W bl) : Apart W' bl :=
  List.Pairwise.imp_of_mem (fun hx hy hxy => ⟨hxy.1, fun g h1 h2 => hxy.2 g (h1.of_heap (e _ hx)) (h2.of_heap (e _ hy))⟩) h
theorem BlkIs.lt {W : World} {B p : Nat} {c : List CellV} (h : BlkIs W B p c) : p < W.heap.size := by obtain ⟨⟨v, k, _⟩, _⟩ := h; exact k.lt
theorem BlkIs.arr {W : World} {B p g : Nat} {c : List CellV} (h : BlkIs W B p c) (k : Arr W p g) : B ≤ g ∧ g < W.heap.size := by
  obtain ⟨⟨v, hk, o, _⟩, _⟩ := h
  obtain ⟨a, b, v', k', e⟩ := k
  unfold Blk at hk k'
  rw [hk] at k'
  simp at k'
  obtain ⟨_, _, rfl⟩ := k'
  have := o.lt g e
  omega
theorem Apart.mod {W W' : World} {B : Nat} {bl : List (Nat × List CellV)} {S : Nat → Prop} (h : Apart W bl) (hb : ∀ x ∈ bl, BlkIs W B x.1 x.2) (m : Mod S W W') (hs : ∀ k cs, Blk W k cs 145 → ¬ S k) : Apart W' bl :=
  h.of_heap (fun x hx => by obtain ⟨⟨v, k, _⟩, _⟩ := hb x hx; exact m.block _ k.lt (hs _ _ k))
/-- New's own, behind i cells that lie in blocks. -/
def NewI (w : World) (a : Option Addr) (len cap : Nat) (l : List CellV) (MB D bs bn : Nat) (i : Nat) (W : World) : Prop :=
  Mod none_ w W ∧ Blk W (D + 1) [.pointer (some ⟨D, 0, none⟩)] 65 ∧ Blk W bs [.slice a len cap] 22 ∧ Blk W bn [.int .i64 64] 3 ∧
    IMap Tryz.prog 42 W MB (fun _ => none) 0 ∧ ∃ v bl, Blk W D [v, .map (some MB)] 140 ∧ DocBs W w.heap.size v bl ∧ bl.flatMap Prod.snd = l.take i ∧ bl.length * 64 = i ∧ Apart W bl ∧ ∀ y ∈ bl, y.2 ≠ []

/-- Blocks of two types differ. -/
theorem Blk.apart {W : World} {p q : Nat} {cs ds : List Value} {t u : TypeId} (h : Blk W p cs t) (k : Blk W q ds u) (htu : t ≠ u) : p ≠ q := by
  intro e
  subst e
  unfold Blk at h k
  rw [h] at k
  cases k
  exact htu rfl
theorem ownsRow_type {W : World} {B n size : Nat} {v : Value} {t : TypeId} {xs : List Value} (h : W.ownsRow B t size v n xs) {k : Nat} (hk : v.ownBlock = some k) : ∃ cs, Blk W k cs t := by
  rcases ownsRow_blk h with ⟨rfl, _, _⟩ | ⟨g, cap, more, rfl, _, hb, _⟩
  · cases hk
  · cases hk; exact ⟨_, hb⟩
theorem BlkIs.mod {W W' : World} {B p : Nat} {c : List CellV} {S : Nat → Prop} (h : BlkIs W B p c) (m : Mod S W W') (hs : ∀ k cs t, Blk W k cs t → (t = 145 ∨ t = 53) → ¬ S k) : BlkIs W' B p c := by
  obtain ⟨⟨v, k, o, n⟩, lo⟩ := h
  refine ⟨⟨v, k.mod m (hs _ _ _ k (.inl rfl)), ownsRow_mod o m (fun j hj => ?_), n⟩, lo⟩
  obtain ⟨cs, hb⟩ := ownsRow_type o hj
  exact hs _ _ _ hb (.inr rfl)
theorem NewI.stable {w : World} {a : Option Addr} {len cap : Nat} {l : List CellV} {MB D bs bn B : Nat} (hB : w.heap.size ≤ B) (hMB : MB < B) (i : Nat) (W W' : World) (h : NewI w a len cap l MB D bs bn i W) (m : Mod (loopOwn B W) W W') : NewI w a len cap l MB D bs bn i W' := by
  obtain ⟨m0, k1, k2, k3, im, v, bl, kd, ⟨ho, hb⟩, e, e2, hap⟩ := h
  refine ⟨m0.transOwn m hB, k1.own m, k2.own m, k3.own m, im.mod m (fun s => by have := s.1; omega), v, bl, kd.own m, ⟨ownsRow_mod ho m (fun j hj s => ?_), fun x hx => (hb x hx).mod m (fun k cs t hk _ s => ?_)⟩, e, e2, hap.1.mod hb m (fun k cs hk s => by have := s.2 _ hk; cases this), hap.2⟩
  · obtain ⟨cs, hk⟩ := ownsRow_type ho hj
    have := s.2 _ hk; cases this
  · have := s.2 _ hk; cases this

/-- The law of ranges over functions, the frame behind the assignment told by what it changes in the frame ahead. -/
theorem rangeFunc_upd {F : Fence} {n : Nat} {P : Program} {σ α : Type} {g : Operand} {ps : Array Tmp} {assign body : Code} {Q : Exit → Act → World → Prop} {a : Act} {w : World}
    (upd : Array Value → α → Array Value) (hro : F.round = none) (h1 : 1 ≤ n) {gf : Nat} {lb : Array Value} (hg : a.eval g = .func (.func gf) #[] lb) (hFg : F.fn gf) (eg : ∀ args w, (callFunc gf args).run P w = .ok (.enter gf args) w)
    (encs : α → Array Value) (hps : ∀ x, (encs x).size = ps.size) (I : σ → World → Prop) (Ix : Code → σ → World → Prop) (step : σ → α → σ) (G : σ → α → Prop) (S : σ → Prop) (s0 : σ)
    (hI : ∀ s W W', I s W → Mod (loopOwn w.heap.size W) W W' → I s W') (hIx : ∀ c s W W', Ix c s W → Mod (loopOwn w.heap.size W) W W' → Ix c s W') (h0 : I s0 w)
    (hiter : ∀ (l : Nat) (J : σ → World → Prop) (Jx : Code → σ → World → Prop) (W : World), (∀ s W, J s W → I s W) → (∀ s s' W W', J s W → I s' W' → KeepsOthers W W' → J s' W') →
      (∀ s x W1, J s W1 → G s x → YieldAt F (n - 1 - 1) P l (encs x) W1 fun e W' => (e = .returned (.bool true) ∧ J (step s x) W') ∨ (e = .returned (.bool false) ∧ ∃ c, Jx c (step s x) W')) → J s0 W →
      CallsIn F (n - 1) P gf (#[.func (.yield l) #[] #[]] ++ lb) W fun e W' => (∃ v, e = .returned v) ∧ ((∃ s, S s ∧ J s W') ∨ (∃ c s, Jx c s W')))
    (hassign : ∀ (l : Nat) (x : α) (W : World) (K : Act → World → Prop), K ⟨upd a.tmps x, []⟩ W →
      assign.wpIn (F.inRound l) (n - 1 - 1) P (Exit.then K (fun _ _ _ => False)) { tmps := (ps.zip (encs x)).foldl (fun t (p, v) => t.setIfInBounds p v) a.tmps, defers := [] } W)
    (hbody : ∀ (l : Nat) (s : σ) (x : α) (W : World), I s W → G s x → body.wpIn (F.inRound l) (n - 1 - 1) P (myPost I Ix (step s x) W) ⟨upd a.tmps x, []⟩ W)
    (hdone : ∀ (D : Nat) (s : σ) (W : World), S s → I s W → W.heap[D]? = some (.deferred (some [])) → w.heap.size ≤ D → Q .normal { a with defers := { target := .collected D, args := #[] } :: a.defers } W)
    (hstop : ∀ (D : Nat) (c : Code) (s : σ) (W : World), Ix c s W → W.heap[D]? = some (.deferred (some [])) → w.heap.size ≤ D → c.wpIn F n P Q { a with defers := { target := .collected D, args := #[] } :: a.defers } W) :
    (Code.rangeFunc g ps assign body).wpIn F n P Q a w :=
  rangeFunc_law hro h1 hg hFg eg encs hps I Ix step G S s0 hI hIx h0 (fun x => ⟨upd a.tmps x, []⟩) hiter hassign hbody hdone hstop

theorem IsCells.sub {w : World} {b off len cap : Nat} {l : List CellV} (h : IsCells w (some ⟨b, off, none⟩) len cap l) (x m : Nat) (hx : x + m ≤ len) : IsCells w (some ⟨b, off + x * 5, none⟩) m m ((l.drop x).take m) := by
  have hN := h.n
  have hle := h.le
  have hbig := h.big
  refine ⟨by rw [List.length_take, List.length_drop]; omega, Nat.le_refl _, by omega, fun c hc => h.ok c (List.mem_of_mem_drop (List.mem_of_mem_take hc)), fun i c hc => ?_⟩
  have hi : i < m := by have := (List.getElem?_eq_some_iff.1 hc).1; rw [List.length_take] at this; omega
  rw [List.getElem?_take_of_lt hi, List.getElem?_drop] at hc
  obtain ⟨b', off', e, hr⟩ := h.cells (x + i) c hc
  cases e
  exact ⟨b, off + x * 5, rfl, by rw [show off + x * 5 + i * 5 = off + (x + i) * 5 by omega]; exact hr⟩
theorem infoPtr : (Tryz.prog.info? 141).map (fun i => (i.zero, i.size, i.bytes)) = some (some (.pointer none), 1, 8) := by kernel_rfl

/-- append, kept shut. -/
def appSem (tys : Array TypeId) (ty : TypeId) (args : Array Value) : Sem Value := Builtin.append_ tys ty args
theorem app_fold (tys : Array TypeId) (ty : TypeId) (args : Array Value) : Builtin.append_ tys ty args = appSem tys ty args := rfl

/-- A block more at the list's end. -/
theorem appPtr {X : World} {B nb p vc : Nat} {va : Option Addr} {ptrs : List Value} (ho : X.ownsRow B 141 1 (.slice va nb vc) nb ptrs) (hnb : nb ≤ 1099511627776) (hB : B ≤ X.heap.size) :
    ∃ va' vc' w4, (appSem #[137, 137] 137 #[.slice va nb vc, .slice (some ⟨X.heap.size, 0, none⟩) 1 1]).run Tryz.prog (X.alloc (.cells #[.pointer (some ⟨p, 0, none⟩)] 141)) = .ok (.slice va' (nb + 1) vc') w4 ∧
      w4.ownsRow B 141 1 (.slice va' (nb + 1) vc') (nb + 1) (ptrs ++ [.pointer (some ⟨p, 0, none⟩)]) ∧ (X.alloc (.cells #[.pointer (some ⟨p, 0, none⟩)] 141)).grownBy w4 (Value.slice va nb vc).ownBlock := by
  obtain ⟨i0, hi0, hz0, hz1, hz2⟩ := info_parts infoPtr
  obtain ⟨v', w4, hrun, hown, hgrow, _⟩ := run_append_own (P := Tryz.prog) (X.alloc (.cells #[.pointer (some ⟨p, 0, none⟩)] 141)) B 137 137 141 i0 (.pointer none) 1 8 Tryz.underlying137 hi0 hz0 hz1 hz2 rfl (by decide) (.slice va nb vc) nb ptrs (ho.alloc _) ⟨X.heap.size, 0, none⟩ 1 1 [.pointer (some ⟨p, 0, none⟩)] rfl (World.news_of_block (heap_alloc_new X _)) (fun u hu => by rw [List.mem_singleton.1 hu]; rfl) (by unfold maxLen; omega) (by omega) (by simp; omega)
  rcases ownsRow_blk hown with ⟨_, h0, _⟩ | ⟨g, c', _, rfl, _⟩
  · omega
  · exact ⟨_, c', w4, hrun, hown, hgrow⟩

/-- What append and newBlock leave behind them. -/
theorem bodyArm {w W w3 : World} {D p nb vc : Nat} {va : Option Addr} {ptrs : List Value} {MBv : Value} (ho : W.ownsRow w.heap.size 141 1 (.slice va nb vc) nb ptrs) (hnb : nb ≤ 1099511627776) (hB : w.heap.size ≤ W.heap.size) (m3 : Mod none_ W.drew w3)
    (kd : Blk W D [.slice va nb vc, MBv] 140) {DB : Nat} {dv : Value} (kb : Blk W DB [dv] 65) :
    ∃ va' vc' w4, (appSem #[137, 137] 137 #[.slice va nb vc, .slice (some ⟨w3.heap.size, 0, none⟩) 1 1]).run Tryz.prog (w3.alloc (.cells #[.pointer (some ⟨p, 0, none⟩)] 141)) = .ok (.slice va' (nb + 1) vc') w4 ∧
      w4.ownsRow w.heap.size 141 1 (.slice va' (nb + 1) vc') (nb + 1) (ptrs ++ [.pointer (some ⟨p, 0, none⟩)]) ∧ Mod (fun k => (Value.slice va nb vc).ownBlock = some k) w3 w4 ∧ Blk w4 D [.slice va nb vc, MBv] 140 ∧ Blk w4 DB [dv] 65 := by
  have hsz : W.heap.size ≤ w3.heap.size := m3.size
  obtain ⟨va', vc', w4, hrun, hown, hgrow⟩ := appPtr (p := p) (ownsRow_mod ho ((Mod.drew (Mod.refl none_ W)).trans m3) (fun _ _ e => e)) hnb (by omega)
  have mg : Mod (fun k => (Value.slice va nb vc).ownBlock = some k) w3 w4 := ((Mod.refl _ w3).alloc (.cells #[.pointer (some ⟨p, 0, none⟩)] 141)).grown hgrow (fun k e _ => e)
  refine ⟨va', vc', w4, hrun, hown, mg, (kd.drew.mod m3 (fun e => e)).mod mg (fun e => ?_), (kb.drew.mod m3 (fun e => e)).mod mg (fun e => ?_)⟩
  · obtain ⟨cs, hk⟩ := ownsRow_type ho e
    exact Blk.apart kd hk (by decide) rfl
  · obtain ⟨cs, hk⟩ := ownsRow_type ho e
    exact Blk.apart kb hk (by decide) rfl

/-- A post that lets no panic by. -/
def calmPost (Q : Exit → Act → World → Prop) : Exit → Act → World → Prop
  | .panic _, _, _ => False
  | e, a, w => Q e a w
theorem calmPost.out {Q : Exit → Act → World → Prop} : ∀ (e : Exit) (a : Act) (w : World), calmPost Q e a w → Q e a w
  | .panic _, _, _, h => h.elim
  | .normal, _, _, h => h
  | .ret, _, _, h => h
  | .exit _, _, _, h => h
  | .goto _, _, _, h => h
  | .outgrown, _, _, h => h

theorem _root_.Go.Mine.ownsRow_base {w : World} {B B' e size n : Nat} {v : Value} {xs : List Value} (h : w.ownsRow B e size v n xs) (hB : B' ≤ B) : w.ownsRow B' e size v n xs := by
  obtain ⟨h1, h2⟩ := h
  refine ⟨h1, ?_⟩
  rcases h2 with h2 | ⟨g, cap, cur, hv, hg, r⟩
  · exact .inl h2
  · exact .inr ⟨g, cap, cur, hv, Nat.le_trans hB hg, r⟩
theorem BlkIs.base {w : World} {B B' p : Nat} {l : List CellV} (h : BlkIs w B p l) (hB : B' ≤ B) : BlkIs w B' p l := by
  obtain ⟨⟨v, k, o, n⟩, lo⟩ := h
  exact ⟨⟨v, k, ownsRow_base o hB, n⟩, Nat.le_trans hB lo⟩
theorem imap_blk {w : World} {k : TypeId} {b n : Nat} {m : Value → Option Value} {cs : List Value} {t : TypeId} (h : IMap Tryz.prog k w b m n) (hb : Blk w b cs t) : False := by
  obtain ⟨es, clock, hh, _⟩ := h
  unfold Blk at hb
  rw [hh] at hb
  cases hb

/-- The names' map, as it is made. -/
theorem counts_nil {w : World} {k : TypeId} {b : Nat} (h : IMap Tryz.prog k w b (fun _ => none) 0) : Counts Tryz.prog k w b [] 0 :=
  ⟨⟨_, h, fun x => by simp, fun x v h => by cases h⟩, Nat.le_refl _, by simp⟩
/-- A document: its cells lie in blocks, all of it at or above B. -/
structure DocIs (w : World) (B D : Nat) (l : List CellV) : Prop where
  ex : ∃ v MB bl, ∃ _n : Nat, Blk w D [v, .map (some MB)] 140 ∧ DocBs w B v bl ∧ bl.flatMap Prod.snd = l ∧ Names Tryz.prog 42 w MB (l.map CellV.name) ∧ Apart w bl ∧ (∀ y ∈ bl, y.2 ≠ []) ∧ B ≤ MB
  lo : B ≤ D
theorem DocBs.grown {w w' : World} {B : Nat} {v : Value} {bl : List (Nat × List CellV)} (h : DocBs w B v bl) (m : Mod none_ w w') : DocBs w' B v bl :=
  ⟨ownsRow_mod h.1 m (fun _ _ e => e), fun x hx => (h.2 x hx).grown m⟩
theorem DocIs.grown {w w' : World} {B D : Nat} {l : List CellV} (h : DocIs w B D l) (m : Mod none_ w w') : DocIs w' B D l := by
  obtain ⟨⟨v, MB, bl, n, k, b, f, c⟩, lo⟩ := h
  exact ⟨⟨v, MB, bl, n, k.mod m (fun e => e), b.grown m, f, c.1.mod m (fun e => e), c.2.1.mod b.2 m (fun _ _ _ e => e), c.2.2⟩, lo⟩
theorem DocBs.map {w w' : World} {B MB : Nat} {v : Value} {bl : List (Nat × List CellV)} (h : DocBs w B v bl) (m : Mod (one MB) w w') (hm : ∀ cs t, ¬ Blk w MB cs t) : DocBs w' B v bl :=
  ⟨ownsRow_mod h.1 m (fun k hk e => by have e' : k = MB := e; subst e'; obtain ⟨cs, hb⟩ := ownsRow_type h.1 hk; exact hm _ _ hb), fun x hx => (h.2 x hx).mod m (fun k cs t hk _ e => by have e' : k = MB := e; subst e'; exact hm _ _ hk)⟩
theorem DocBs.own {W W' : World} {B B' : Nat} {v : Value} {bl : List (Nat × List CellV)} (h : DocBs W B v bl) (m : Mod (loopOwn B' W) W W') : DocBs W' B v bl :=
  ⟨ownsRow_mod h.1 m (fun k hk s => by obtain ⟨cs, hb⟩ := ownsRow_type h.1 hk; have := s.2 _ hb; cases this), fun x hx => (h.2 x hx).mod m (fun k cs t hk _ s => by have := s.2 _ hk; cases this)⟩

/-- A round of New's second loop. -/
theorem bodyEnd {w W w3 w4 : World} {a : Option Addr} {len cap MB D bs bn x p nb vc vc' : Nat} {va va' : Option Addr} {l : List CellV} {bl : List (Nat × List CellV)} (hD : w.heap.size ≤ D) (hN : l.length = len)
    (m0 : Mod none_ w W) (kb : Blk W (D + 1) [.pointer (some ⟨D, 0, none⟩)] 65) (ks : Blk W bs [.slice a len cap] 22) (kn : Blk W bn [.int .i64 64] 3) (im : IMap Tryz.prog 42 W MB (fun _ => none) 0)
    (ho : W.ownsRow w.heap.size 141 1 (.slice va nb vc) nb (bl.map fun x => .pointer (some ⟨x.1, 0, none⟩))) (hbl : ∀ x ∈ bl, BlkIs W w.heap.size x.1 x.2) (hfl : bl.flatMap Prod.snd = l.take x) (hbn : bl.length * 64 = x) (hap : Apart W bl ∧ ∀ y ∈ bl, y.2 ≠ []) (hxl : x < len) (hnb : nb = bl.length)
    (m3 : Mod none_ W.drew w3) (hB : BlkIs w3 W.drew.heap.size p ((l.drop x).take (min 64 (len - x)))) (hown : w4.ownsRow w.heap.size 141 1 (.slice va' (nb + 1) vc') (nb + 1) ((bl.map fun x => .pointer (some ⟨x.1, 0, none⟩)) ++ [.pointer (some ⟨p, 0, none⟩)]))
    (mg : Mod (fun k => (Value.slice va nb vc).ownBlock = some k) w3 w4) (k4 : Blk w4 D [.slice va nb vc, .map (some MB)] 140) :
    KeepsOthers W (w4.setCell ⟨D, 0, none⟩ (.slice va' (nb + 1) vc')) ∧ NewI w a len cap l MB D bs bn (x + 64) (w4.setCell ⟨D, 0, none⟩ (.slice va' (nb + 1) vc')) := by
  have ht : ∀ {k : Nat}, (Value.slice va nb vc).ownBlock = some k → ∃ cs, Blk W k cs 141 := fun e => ownsRow_type ho e
  have m4 : Mod (fun k => (Value.slice va nb vc).ownBlock = some k) W w4 := ((Mod.drew (Mod.refl none_ W)).trans m3).mono (T := fun k => (Value.slice va nb vc).ownBlock = some k) (fun _ _ e => e.elim) |>.trans mg
  have hge : ∀ k, (Value.slice va nb vc).ownBlock = some k → w.heap.size ≤ k := fun k hk => (ho.lt k hk).1
  have ms : Mod (one D) w4 (w4.setCell ⟨D, 0, none⟩ (.slice va' (nb + 1) vc')) := (Mod.refl (one D) w4).setCell ⟨D, 0, none⟩ (fun _ => rfl) _
  have k5 := k4.set 0 (.slice va' (nb + 1) vc')
  have far : ∀ {b : Nat} {cs : List Value} {t : TypeId}, Blk W b cs t → t ≠ 141 → b ≠ D → Blk (w4.setCell ⟨D, 0, none⟩ (.slice va' (nb + 1) vc')) b cs t := fun hb h1 h2 =>
    (hb.mod m4 (fun e => by obtain ⟨cs, hk⟩ := ht e; exact Blk.apart hb hk h1 rfl)).mod ms h2
  have ne : ∀ {b : Nat} {cs : List Value} {t : TypeId}, Blk W b cs t → t ≠ 141 → t ≠ 140 → b ≠ D := fun hb h0 h1 e => by
    subst e
    exact Blk.apart (hb.mod m4 (fun e => by obtain ⟨cs, hk⟩ := ht e; exact Blk.apart hb hk h0 rfl)) k4 h1 rfl
  refine ⟨(keeps_of_mod m4 (fun k hk o ho' => ?_)).trans (KeepsOthers.setCell _ _ _), ?_, far kb (by decide) (by omega), far ks (by decide) (ne ks (by decide) (by decide)), far kn (by decide) (ne kn (by decide) (by decide)), ?_, .slice va' (nb + 1) vc', bl ++ [(p, (l.drop x).take (min 64 (len - x)))], k5, ⟨?_, ?_⟩, ?_, ?_, ?_, ?_⟩
  · obtain ⟨cs, hb⟩ := ht hk
    unfold Blk at hb
    rw [hb] at ho'
    cases ho'
    rfl
  · exact (m0.transIn m4 (fun k hk e => absurd (hge k e) (by omega))).transIn ms (fun k hk e => by have e' : k = D := e; omega)
  · refine (im.mod m4 (fun e => ?_)).mod ms (fun e => ?_)
    · obtain ⟨cs, hb⟩ := ht e
      exact imap_blk im hb
    · have e' : MB = D := e
      subst e'
      refine imap_blk (im.mod m4 (fun e => ?_)) k4
      obtain ⟨cs, hb⟩ := ht e
      exact imap_blk im hb
  · have e1 : (bl ++ [(p, (l.drop x).take (min 64 (len - x)))]).length = nb + 1 := by simp [hnb]
    rw [e1, List.map_append]
    refine ownsRow_mod hown ms (fun k hk e => ?_)
    have e' : k = D := e
    subst e'
    obtain ⟨cs, hb⟩ := ownsRow_type hown hk
    exact Blk.apart hb k4 (by decide) rfl
  · intro y hy
    rcases List.mem_append.1 hy with hy | hy
    · refine ((hbl y hy).mod m4 (fun k cs t hk ht' e => ?_)).mod ms (fun k cs t hk ht' e => ?_)
      · obtain ⟨cs', hb⟩ := ht e
        exact Blk.apart hk hb (by rcases ht' with rfl | rfl <;> decide) rfl
      · have e' : k = D := e
        subst e'
        exact Blk.apart hk k4 (by rcases ht' with rfl | rfl <;> decide) rfl
    · rw [List.mem_singleton.1 hy]
      have hsz := m0.size
      refine ((hB.base (B' := w.heap.size) hsz).mod mg (fun k cs t hk ht' e => ?_)).mod ms (fun k cs t hk ht' e => ?_)
      · obtain ⟨cs', hb⟩ := ht e
        exact Blk.apart hk ((hb.drew).mod m3 (fun e => e)) (by rcases ht' with rfl | rfl <;> decide) rfl
      · have e' : k = D := e
        subst e'
        exact Blk.apart hk k4 (by rcases ht' with rfl | rfl <;> decide) rfl
  · rw [List.flatMap_append, hfl]
    simp only [List.flatMap_cons, List.flatMap_nil, List.append_nil]
    rw [List.take_add, List.append_cancel_left_eq, List.take_eq_take_iff, List.length_drop]
    omega
  · rw [List.length_append, List.length_singleton]
    omega
  · have keep : ∀ {q : Nat} {cs : List Value}, Blk w3 q cs 145 → (w4.setCell ⟨D, 0, none⟩ (.slice va' (nb + 1) vc')).heap[q]? = w3.heap[q]? := fun {q cs} hq => by
      rw [ms.block q (Nat.lt_of_lt_of_le hq.lt mg.size) (fun e => ?_), mg.block q hq.lt (fun e => ?_)]
      · obtain ⟨cs', hb⟩ := ht e
        exact Blk.apart hq ((hb.drew).mod m3 (fun e => e)) (by decide) rfl
      · have e' : q = D := e
        subst e'
        exact Blk.apart (hq.mod mg (fun e => by obtain ⟨cs', hb⟩ := ht e; exact Blk.apart hq ((hb.drew).mod m3 (fun e => e)) (by decide) rfl)) k4 (by decide) rfl
    have ap3 : Apart w3 bl := Apart.of_heap (W := W) (fun y hy => by obtain ⟨⟨v, k, _⟩, _⟩ := hbl y hy; exact ((Mod.drew (Mod.refl none_ W)).trans m3).block _ k.lt (fun e => e)) hap.1
    have hb3 : ∀ y ∈ bl, BlkIs w3 w.heap.size y.1 y.2 := fun y hy => (hbl y hy).grown ((Mod.drew (Mod.refl none_ W)).trans m3)
    refine List.pairwise_append.2 ⟨Apart.of_heap (W := w3) (fun y hy => by obtain ⟨⟨v, k, _⟩, _⟩ := hb3 y hy; exact keep k) ap3, List.pairwise_singleton _ _, fun y hy z hz => ?_⟩
    rw [List.mem_singleton.1 hz]
    have hlo : W.heap.size ≤ p := hB.lo
    have hy1 := (hbl y hy).lt
    refine ⟨by show y.1 ≠ p; omega, fun g h1 h2 => ?_⟩
    obtain ⟨⟨v1, k1, _⟩, _⟩ := hb3 y hy
    obtain ⟨⟨v2, k2, _⟩, _⟩ := id hB
    have a1 := h1.of_heap (keep k1)
    have a2 := hB.arr (h2.of_heap (keep k2))
    have a3 := (hbl y hy).arr (a1.of_heap (((Mod.drew (Mod.refl none_ W)).trans m3).block _ hy1 (fun e => e)))
    have : W.drew.heap.size = W.heap.size := rfl
    omega
  · intro y hy
    rcases List.mem_append.1 hy with hy | hy
    · exact hap.2 y hy
    · rw [List.mem_singleton.1 hy]
      intro e
      have := congrArg List.length e
      simp only [List.length_take, List.length_drop, List.length_nil, hN] at this
      omega

end Go.Proofs.YtjgjjlolhdlofaaGreatDoor

namespace Go.Proofs.YtjgjjlolhdlofaaGreatDoor
open Go.RowKit Go.Shelf Go.Mine
open Classical
attribute [local go_sem] Oper.semAt_some
attribute [local go_sem ↓] app_fold

set_option maxHeartbeats 4000000 in
set_option maxRecDepth 1000000 in
theorem new_any (w : World) (a : Option Addr) (len cap : Nat) (l : List CellV) (h : IsCells w a len cap l) (hlen : len ≤ 1099511627776) :
    Calls Tryz.prog 75 #[.slice a len cap] w fun e w' => Mod none_ w w' ∧ (newE l ≠ 0 → e = .returned (.tuple #[.pointer none, .int .i64 (newE l)])) ∧ (newE l = 0 → ∃ D, e = .returned (.tuple #[.pointer (some ⟨D, 0, none⟩), .int .i64 0]) ∧ DocIs w' w.heap.size D l) := by
  have hle := h.le
  have hbig := h.big
  unfold maxLen at hbig
  have hN := h.n
  have H := Lib.hid h
  obtain ⟨R, hR⟩ : ∃ R, R = newE l := ⟨_, rfl⟩
  rw [← hR]
  have HR := Lib.hid hR
  have hmm := @run_makeMap Tryz.prog
  have C0 := Lib.hid (Counts.made Tryz.prog 165 w)
  have m0 := Lib.hid ((Mod.refl none_ w).alloc (.map #[] 0))
  clear h hR
  refine (callsIn_wide (n := 5)).1 ?_
  refine callsIn_of_wp_marks Tryz.func75 rfl trivial ?_ rfl
  refine wpIn_wide.2 (Code.wp_mono (Q := calmPost _) calmPost.out ?_)
  simp only [Tryz.ntmps75, List.size_toArray, List.length_cons, List.length_nil, Nat.reduceAdd, Nat.reduceSub, Array.replicate_succ, Array.replicate_zero, List.push_toArray, List.append_toArray, List.nil_append, List.cons_append]
  go_wp2_with fail
  generalize w.alloc (.map #[] 0) = w0 at C0 m0 ⊢
  obtain ⟨G, hG⟩ : ∃ G, G = w.heap.size := ⟨_, rfl⟩
  rw [← hG] at C0 ⊢
  have hGw : w.heap.size ≤ G := by omega
  clear hG
  go_loopg [14] len (fun g s14 wx => ∃ k n : Nat, g = len - k ∧ s14 = .int .i64 k ∧ k ≤ len ∧ Mod none_ w wx ∧ Counts Tryz.prog 165 wx G ((l.take k).map CellV.id) n ∧ RowKit.Hid ((l.take k).all cellOk = true))
  case atStart => exact ⟨0, 0, rfl, rfl, Nat.zero_le _, m0.out, C0.out, Lib.hid rfl⟩
  case round =>
    obtain ⟨k, n, rfl, rfl, hk, m1, hc, hall⟩ := hrel
    have M1 := Lib.hid m1
    have CC := Lib.hid hc
    by_cases hlk : k < len
    · obtain ⟨c, hx⟩ : ∃ x, l[k]? = some x := ⟨l[k]'(by omega), by simp⟩
      obtain ⟨b, off, rfl, hr⟩ := H.out.cells k _ hx
      have hcok := H.out.ok _ (List.mem_of_getElem? hx)
      have c0 := m1.cell (fun e => e) (hr 0 _ rfl)
      have c1 := m1.cell (fun e => e) (hr 1 _ rfl)
      have c2 := m1.cell (fun e => e) (hr 2 _ rfl)
      have c3 := m1.cell (fun e => e) (hr 3 _ rfl)
      have c4 := m1.cell (fun e => e) (hr 4 _ rfl)
      rw [Nat.add_zero] at c0
      have hlb := block_lt_of_cell c0
      have htk : l.take (k + 1) = l.take k ++ [c] := by
        obtain ⟨hk', e⟩ := List.getElem?_eq_some_iff.1 hx
        rw [List.take_succ_eq_append_getElem hk', e]
      have HT := Lib.hid htk
      have HX := Lib.hid hx
      have OK := Lib.hid hcok
      clear hx hr hcok htk m1 hc
      have mA := (Mod.refl none_ wr).alloc (.cells #[.int .i64 c.site, .int .i64 c.seq, .int .i64 c.off, .int .i32 c.r, .bool c.gone] 53)
      have kA := Blk.new (w := wr) (cs := [.int .i64 c.site, .int .i64 c.seq, .int .i64 c.off, .int .i32 c.r, .bool c.gone]) (t := 53)
      have MA := Lib.hid (M1.out.trans mA)
      have CA := Lib.hid (CC.out.mod mA (fun e => e))
      have KA := Lib.hid kA
      clear mA kA
      go_upto_region 5 with fail
      generalize wr.alloc (.cells #[.int .i64 c.site, .int .i64 c.seq, .int .i64 c.off, .int .i32 c.r, .bool c.gone] 53) = wA at MA CA KA ⊢
      clear c0 c1 c2 c3 c4
      have e0 : wA.cell? ⟨wr.heap.size, 0, none⟩ = some (.int .i64 c.site) := by rw [KA.out.cell]; rfl
      have e1 : wA.cell? ⟨wr.heap.size, 1, none⟩ = some (.int .i64 c.seq) := by rw [KA.out.cell]; rfl
      have e2 : wA.cell? ⟨wr.heap.size, 2, none⟩ = some (.int .i64 c.off) := by rw [KA.out.cell]; rfl
      have e3 : wA.cell? ⟨wr.heap.size, 3, none⟩ = some (.int .i32 c.r) := by rw [KA.out.cell]; rfl
      have e4 : wA.cell? ⟨wr.heap.size, 4, none⟩ = some (.bool c.gone) := by rw [KA.out.cell]; rfl
      obtain ⟨S, hS⟩ : ∃ S, S = wr.heap.size := ⟨_, rfl⟩
      rw [← hS] at KA e0 e1 e2 e3 e4 ⊢
      clear hS
      go_wp2_with fail
      refine (mayCell_any c _ OK.out).mono ?_
      rintro e w2 ⟨rfl, m2⟩
      have M2 := Lib.hid (MA.out.trans m2)
      have C2 := Lib.hid (CA.out.mod m2 (fun e => e))
      have k2 := KA.out.mod m2 (fun e => e)
      have f0 : w2.cell? ⟨S, 0, none⟩ = some (.int .i64 c.site) := by rw [k2.cell]; rfl
      have f1 : w2.cell? ⟨S, 1, none⟩ = some (.int .i64 c.seq) := by rw [k2.cell]; rfl
      have f2 : w2.cell? ⟨S, 2, none⟩ = some (.int .i64 c.off) := by rw [k2.cell]; rfl
      clear m2 k2 e0 e1 e2 e3 e4
      cases hv : cellOk c
      · have HE := Lib.hid (show R = 1 by
          rw [HR.out]; unfold newE
          rw [if_neg]
          intro h
          rw [List.all_eq_true] at h
          have := h c (List.mem_of_getElem? HX.out)
          rw [hv] at this; cases this)
        clear hv
        go_wp2_with fail
        exact ⟨_, results_tmp2 rfl _ _ _, M2.out, fun _ => by rw [HE.out]; rfl, fun h => by rw [HE.out] at h; cases h⟩
      · have CD : Counts Tryz.prog 165 w2.drew G ((l.take k).map CellV.id) n := C2.out.mod (Mod.drew (Mod.refl none_ w2)) (fun e => e)
        obtain ⟨q, s, w3, w4, hq, h1, h2, h3, h4, M3, M4, C4⟩ := CD.incr kId Tryz.underlying163 zInt (okId OK.out)
        rw [List.length_map, List.length_take] at hq
        have hwq : IntKind.i64.wrap ((q : Int) + 1) = (q : Int) + 1 := by rw [IntKind.wrap_i64]; omega
        have HALL := Lib.hid (show (l.take (k + 1)).all cellOk = true by rw [HT.out, List.all_append, hall.out]; simp [hv])
        have C5 := Lib.hid (show Counts Tryz.prog 165 w4 G ((l.take (k + 1)).map CellV.id) (if c.id ∈ (l.take k).map CellV.id then n else n + 1) by rw [HT.out, List.map_append]; exact C4)
        have M5 := Lib.hid ((Mod.drew M2.out).transIn M4 (fun b hb e => by have e' : b = G := e; omega))
        clear C4 M3 M4 CD hall hv
        go_wp2_with fail
        go_region_law (fail)
        all_goals go_wp2_with fail
        all_goals go_roundg (len - (k + 1))
        all_goals first
          | omega
          | exact ⟨k + 1, _, rfl, by go_num, by omega, M5.out, C5.out, HALL⟩
    · obtain rfl : k = len := by omega
      have e : l.take k = l := List.take_of_length_le (by omega)
      rw [e] at hc hall
      have hnl := hc.le
      have hnall := hc.all
      rw [List.length_map, hN] at hnl hnall
      obtain ⟨m, hm, hrest⟩ := hc.ex
      have hlen2 := fun ty => hm.len Tryz.underlying163 ty
      simp only [goInt] at hlen2
      clear CC hc hm m1 e hrest
      by_cases hd : n < k
      · have HE := Lib.hid (show R = 15 by
          rw [HR.out]; unfold newE
          rw [if_pos hall.out, if_neg (fun h => by have := hnall.2 h; omega)])
        have hdd : decide ((n : Int) < (k : Int)) = true := by simp; omega
        clear hnall
        go_wp2_with fail
        exact ⟨_, results_tmp2 rfl _ _ _, M1.out, fun _ => by rw [HE.out]; rfl, fun h => by rw [HE.out] at h; cases h⟩
      have hdd : decide ((n : Int) < (k : Int)) = false := by simp; omega
      have HND := Lib.hid (hnall.1 (by omega))
      clear hnall
      by_cases hbg : 20000 < k
      · have HE := Lib.hid (show R = 4 by
          rw [HR.out]; unfold newE
          rw [if_pos hall.out, if_pos HND.out, if_neg (by omega)])
        have hdg : decide (20000 < (k : Int)) = true := by simp; omega
        go_wp2_with fail
        exact ⟨_, results_tmp2 rfl _ _ _, M1.out, fun _ => by rw [HE.out]; rfl, fun h => by rw [HE.out] at h; cases h⟩
      have hdg : decide (20000 < (k : Int)) = false := by simp; omega
      have HE := Lib.hid (show R = 0 by
        rw [HR.out]; unfold newE
        rw [if_pos hall.out, if_pos HND.out, if_pos (by omega)])
      have hMe := Lib.hid (IMap.made (P := Tryz.prog) (k := 42) wr)
      go_wp2_with fail
      refine (chunk_any a k cap _).mono ?_
      rintro e w5 ⟨rfl, rfl⟩
      go_wp2_with fail
      obtain ⟨W0, hW0⟩ : ∃ W0, (((((wr.alloc (.map #[] 0)).alloc (.cells #[.slice none 0 0, .map (some wr.heap.size)] 140)).alloc (.cells #[.pointer (some ⟨wr.heap.size + 1, 0, none⟩)] 65)).alloc (.cells #[.slice a k cap] 22)).alloc (.cells #[.int .i64 64] 3)) = W0 := ⟨_, rfl⟩
      have hz : W0.heap.size = wr.heap.size + 5 := by rw [← hW0]; simp
      have kW := M1.out.size
      have hI0 : NewI w a k cap l wr.heap.size (wr.heap.size + 1) (wr.heap.size + 3) (wr.heap.size + 4) 0 W0 := by
        have b0 := Blk.new (w := wr.alloc (.map #[] 0)) (cs := [.slice none 0 0, .map (some wr.heap.size)]) (t := 140)
        have b1 := Blk.new (w := (wr.alloc (.map #[] 0)).alloc (.cells #[.slice none 0 0, .map (some wr.heap.size)] 140)) (cs := [.pointer (some ⟨wr.heap.size + 1, 0, none⟩)]) (t := 65)
        have b2 := Blk.new (w := ((wr.alloc (.map #[] 0)).alloc (.cells #[.slice none 0 0, .map (some wr.heap.size)] 140)).alloc (.cells #[.pointer (some ⟨wr.heap.size + 1, 0, none⟩)] 65)) (cs := [.slice a k cap]) (t := 22)
        have b3 := Blk.new (w := (((wr.alloc (.map #[] 0)).alloc (.cells #[.slice none 0 0, .map (some wr.heap.size)] 140)).alloc (.cells #[.pointer (some ⟨wr.heap.size + 1, 0, none⟩)] 65)).alloc (.cells #[.slice a k cap] 22)) (cs := [.int .i64 64]) (t := 3)
        simp only [World.size_alloc] at b0 b1 b2 b3
        rw [← hW0]
        have g := fun (v : World) (o : Obj) => (Mod.refl none_ v).alloc o
        refine ⟨((((M1.out.alloc _).alloc _).alloc _).alloc _).alloc _, (b1.mod (g _ _) (fun e => e)).mod (g _ _) (fun e => e), b2.mod (g _ _) (fun e => e), b3, (((hMe.out.mod (g _ _) (fun e => e)).mod (g _ _) (fun e => e)).mod (g _ _) (fun e => e)).mod (g _ _) (fun e => e), .slice none 0 0, [], ((b0.mod (g _ _) (fun e => e)).mod (g _ _) (fun e => e)).mod (g _ _) (fun e => e), ⟨World.ownsRow_nil _ _ _ _, fun x hx => by simp at hx⟩, by simp, rfl, List.Pairwise.nil, by simp⟩
      rw [hW0]
      clear hW0 hMe
      refine wpIn_wide.1 (?_ : Code.wpIn Fence.wide 5 _ _ _ _ _)
      obtain ⟨b, off, hab⟩ : ∃ b off, 0 < k → a = some ⟨b, off, none⟩ := by
        by_cases h0 : 0 < k
        · obtain ⟨b, off, e, _⟩ := H.out.cells 0 (l[0]'(by omega)) (by simp)
          exact ⟨b, off, fun _ => e⟩
        · exact ⟨0, 0, fun h => absurd h h0⟩
      refine rangeFunc_upd (fun t x => (t.setIfInBounds 45 (chunkV b off k x)).setIfInBounds 8 (chunkV b off k x)) rfl (by decide) (gf := 121) (lb := #[.pointer (some ⟨wr.heap.size + 1 + 1 + 1, 0, none⟩), .pointer (some ⟨wr.heap.size + 1 + 1 + 1 + 1, 0, none⟩)]) rfl trivial (enters_of Tryz.func121 (by kernel_rfl) rfl)
        (fun x : Nat => #[chunkV b off k x]) (fun _ => rfl) (NewI w a k cap l wr.heap.size (wr.heap.size + 1) (wr.heap.size + 3) (wr.heap.size + 4)) (fun _ _ _ => False) (fun st _ => st + 64) (fun st x => x = st ∧ x < k) (fun st => k ≤ st ∧ st % 64 = 0 ∧ st < k + 64) 0 ?hI ?hIx hI0 ?hiter ?assign ?body ?done ?stop
      case hI => exact NewI.stable (by omega) (by omega)
      case hIx => intro _ _ _ _ h _; exact h.elim
      case hiter =>
        intro l' J Jx W hJI hJ hY h0
        exact chunk1_any Fence.wide rfl (5 - 1) a b off k cap _ _ hab hle (by omega) hlen _ (fun i W h => ⟨h.2.2.1, h.2.2.2.1⟩) (fun i W h => by
          obtain ⟨m0, k1, k2, k3, im, v, bl, kd, ⟨ho, hb⟩, e, e2, hap⟩ := h
          exact ⟨m0.drew, k1, k2, k3, im, v, bl, kd, ⟨ho, fun x hx => (hb x hx).grown (Mod.drew (Mod.refl none_ W))⟩, e, e2, hap⟩) l' J Jx W hJI hJ hY h0
      case assign =>
        intro l' x W K hK
        gi_wp2
        exact hK
      case stop =>
        rintro D c s W h
        exact h.elim
      case body =>
        rintro l' st x W hI ⟨rfl, hx⟩
        obtain ⟨m0, kb, ks, kn, im, v, bl, kd, ⟨ho, hbl⟩, hfl, hbn, hap⟩ := hI
        obtain rfl := hab (by omega)
        rw [chunkV_eq]
        obtain ⟨m, hm⟩ : ∃ m, m = min 64 (k - x) := ⟨_, rfl⟩
        rw [← hm]
        have hm1 : 1 ≤ m ∧ m ≤ 64 ∧ x + m ≤ k := by omega
        have HM := Lib.hid hm
        obtain ⟨va, vc, rfl⟩ : ∃ va vc, v = .slice va bl.length vc := by
          rcases ownsRow_blk ho with ⟨rfl, h0, _⟩ | ⟨g, c', _, rfl, _⟩
          · exact ⟨none, 0, by rw [h0]⟩
          · exact ⟨_, c', rfl⟩
        have c0 : W.drew.cell? ⟨wr.heap.size + 1 + 1, 0, none⟩ = some (.pointer (some ⟨wr.heap.size + 1, 0, none⟩)) := by
          have := kb.cell 0
          exact this
        have c1 : W.drew.cell? ⟨wr.heap.size + 1, 0, none⟩ = some (.slice va bl.length vc) := by
          have := kd.cell 0
          exact this
        have f1 : W.drew.frozen? ⟨wr.heap.size + 1, 0, none⟩ = false := kd.frozen 0
        have HC := Lib.hid ((H.out.grown m0).sub x m hm1.2.2)
        obtain ⟨i0, hi0, hz0, hz1, hz2⟩ := info_parts infoPtr
        have hnb : bl.length ≤ 1099511627776 := by omega
        have KB := Lib.hid kb
        have KD := Lib.hid kd
        have HO := Lib.hid ho
        have WM := Lib.hid m0
        have KS := Lib.hid ks
        have KN := Lib.hid kn
        have IM := Lib.hid im
        have HBL := Lib.hid hbl
        have HFL := Lib.hid hfl
        have HAP := Lib.hid hap
        clear hap
        clear hm kb kd ho m0 hab ks kn im hbl hfl hi0 hz0 hz1 hz2 i0
        simp only [List.setIfInBounds_toArray, List.set_cons_zero, List.set_cons_succ]
        gi_wp2_with fail
        refine round_held (S := fun w' => w'.cell? ⟨wr.heap.size + 1 + 1, 0, none⟩ = some (.pointer (some ⟨wr.heap.size + 1, 0, none⟩))) (by kernel_rfl) (by kernel_rfl) (fun ⟨_, _, h⟩ => h) c0 (fun hS => ?_)
        refine wpAnyH_take (i := 0) (v := .pointer (some ⟨wr.heap.size + 1, 0, none⟩)) rfl (by kernel_rfl) (by kernel_rfl) (by kernel_rfl) (fun _ _ _ h => h) (Or.inl ⟨by rfl, ?_⟩) hS ?_
        · intro w' hw'; go_simp
        simp only [Act.put, List.setIfInBounds_toArray]
        refine wpAnyH_take (i := 1) (v := .pointer (some ⟨wr.heap.size + 1, 0, none⟩)) rfl (by kernel_rfl) (by kernel_rfl) (by kernel_rfl) (fun _ _ _ h => h) (Or.inl ⟨by rfl, ?_⟩) hS ?_
        · intro w' hw'; go_simp
        simp only [Act.put]
        refine wpAnyH_take (i := 2) (v := .pointer (some ⟨wr.heap.size + 1, 0, none⟩)) rfl (by kernel_rfl) (by kernel_rfl) (by kernel_rfl) (fun _ _ _ h => h) (Or.inl ⟨by rfl, ?_⟩) hS ?_
        · intro w' hw'; go_simp
        simp only [Act.put]
        refine wpAnyH_take (i := 3) (v := .pointer (some ⟨wr.heap.size + 1, 0, none⟩)) rfl (by kernel_rfl) (by kernel_rfl) (by kernel_rfl) (fun _ _ _ h => h) (Or.inl ⟨by rfl, ?_⟩) hS ?_
        · intro w' hw'; go_simp
        simp only [Act.put]
        refine wpAnyH_take (i := 5) (v := .slice (some ⟨b, off + x * 5, none⟩) m m) rfl (by kernel_rfl) (by kernel_rfl) (by kernel_rfl) (fun _ _ _ h => h) (Or.inl ⟨by rfl, ?_⟩) hS ?_
        · intro w' hw'; go_simp
        simp only [Act.put]
        refine wpAnyH_ready (rs := [4, 6]) (by kernel_rfl) (by simp) (AllReadyH.cons rfl (fun K hK => ?_) <| AllReadyH.cons rfl (fun K hK => ?_) <| AllReadyH.nil)
        · go_simp
          refine hK.out _ _ hS (fun hS => ?_)
          clear hK K
          try simp only [Act.put, List.setIfInBounds_toArray, List.set_cons_zero, List.set_cons_succ]
          refine wpAnyH_ready (rs := [6]) (by kernel_rfl) (by simp) (AllReadyH.cons rfl (fun K hK => ?_) <| AllReadyH.nil)
          go_simp
          refine (newBlock_any _ b (off + x * 5) m m _ (HC.out.grown (Mod.drew (Mod.refl none_ W))) (by omega)).mono ?_
          rintro e w3 ⟨p, rfl, hB, m3⟩
          obtain ⟨va', vc', w4, hrun, hown, hmg, hd4, hb4⟩ := bodyArm (p := p) HO.out hnb WM.out.size m3 KD.out KB.out
          have d0 := m3.cell (p := ⟨wr.heap.size + 1 + 1, 0, none⟩) (fun e => e) c0
          have e1 := m3.cell (p := ⟨wr.heap.size + 1, 0, none⟩) (fun e => e) c1
          have s1 := block_lt_of_cell e1
          have d0a := ((Mod.refl none_ w3).alloc (.cells #[.pointer (some ⟨p, 0, none⟩)] 141)).cell (p := ⟨wr.heap.size + 1 + 1, 0, none⟩) (fun e => e) d0
          have d1 : w4.cell? ⟨wr.heap.size + 1, 0, none⟩ = some (.slice va bl.length vc) := hd4.cell 0
          have d2 := hd4.frozen 0
          have d4 : w4.cell? ⟨wr.heap.size + 1 + 1, 0, none⟩ = some (.pointer (some ⟨wr.heap.size + 1, 0, none⟩)) := hb4.cell 0
          have d5 : (w4.setCell ⟨wr.heap.size + 1, 0, none⟩ (.slice va' (bl.length + 1) vc')).cell? ⟨wr.heap.size + 1 + 1, 0, none⟩ = some (.pointer (some ⟨wr.heap.size + 1, 0, none⟩)) := ((Mod.refl (one (wr.heap.size + 1)) w4).setCell ⟨wr.heap.size + 1, 0, none⟩ (fun _ => rfl) _).cell (p := ⟨wr.heap.size + 1 + 1, 0, none⟩) (fun e => by have e' : wr.heap.size + 1 + 1 = wr.heap.size + 1 := e; omega) d4
          have END := Lib.hid (bodyEnd (by omega) H.out.n WM.out KB.out KS.out KN.out IM.out HO.out HBL.out HFL.out hbn HAP.out hx rfl m3 (by rw [← HM.out]; exact hB) hown hmg hd4)
          clear hB m3 hown hmg hd4 hb4
          dsimp only
          refine hK.out _ _ d0 (fun hS => ?_)
          clear hK K
          try simp only [Act.put, List.setIfInBounds_toArray, List.set_cons_zero, List.set_cons_succ]
          refine wpAnyH_ready (rs := [7]) (by kernel_rfl) (by simp) (AllReadyH.cons rfl (fun K hK => ?_) <| AllReadyH.nil)
          go_simp
          refine hK.out _ _ d0a (fun hS => ?_)
          clear hK K
          try simp only [Act.put, List.setIfInBounds_toArray, List.set_cons_zero, List.set_cons_succ]
          refine wpAnyH_ready (rs := [8]) (by kernel_rfl) (by simp) (AllReadyH.cons rfl (fun K hK => ?_) <| AllReadyH.nil)
          go_simp
          refine hK.out _ _ d4 (fun hS => ?_)
          clear hK K
          try simp only [Act.put, List.setIfInBounds_toArray, List.set_cons_zero, List.set_cons_succ]
          refine wpAnyH_take (i := 9) (v := .pointer (some ⟨wr.heap.size + 1, 0, none⟩)) rfl (by kernel_rfl) (by kernel_rfl) (by kernel_rfl) (fun _ _ _ h => h) (Or.inl ⟨by rfl, ?_⟩) hS ?_
          · intro w' hw'; go_simp
          simp only [Act.put, List.setIfInBounds_toArray]
          refine wpAnyH_take (i := 10) (v := .pointer (some ⟨wr.heap.size + 1, 0, none⟩)) rfl (by kernel_rfl) (by kernel_rfl) (by kernel_rfl) (fun _ _ _ h => h) (Or.inl ⟨by rfl, ?_⟩) hS ?_
          · intro w' hw'; go_simp
          simp only [Act.put]
          refine wpAnyH_ready (rs := [11]) (by kernel_rfl) (by simp) (AllReadyH.cons rfl (fun K hK => ?_) <| AllReadyH.nil)
          go_simp
          refine hK.out _ _ d5 (fun hS => ?_)
          clear hK K
          try simp only [Act.put, List.setIfInBounds_toArray, List.set_cons_zero, List.set_cons_succ]
          refine wpAnyH_done (by kernel_rfl) ?_ _
          exact END.out
        · go_simp
          refine (newBlock_any _ b (off + x * 5) m m _ (HC.out.grown (Mod.drew (Mod.refl none_ W))) (by omega)).mono ?_
          rintro e w3 ⟨p, rfl, hB, m3⟩
          obtain ⟨va', vc', w4, hrun, hown, hmg, hd4, hb4⟩ := bodyArm (p := p) HO.out hnb WM.out.size m3 KD.out KB.out
          have d0 := m3.cell (p := ⟨wr.heap.size + 1 + 1, 0, none⟩) (fun e => e) c0
          have e1 := m3.cell (p := ⟨wr.heap.size + 1, 0, none⟩) (fun e => e) c1
          have s1 := block_lt_of_cell e1
          have d0a := ((Mod.refl none_ w3).alloc (.cells #[.pointer (some ⟨p, 0, none⟩)] 141)).cell (p := ⟨wr.heap.size + 1 + 1, 0, none⟩) (fun e => e) d0
          have d1 : w4.cell? ⟨wr.heap.size + 1, 0, none⟩ = some (.slice va bl.length vc) := hd4.cell 0
          have d2 := hd4.frozen 0
          have d4 : w4.cell? ⟨wr.heap.size + 1 + 1, 0, none⟩ = some (.pointer (some ⟨wr.heap.size + 1, 0, none⟩)) := hb4.cell 0
          have d5 : (w4.setCell ⟨wr.heap.size + 1, 0, none⟩ (.slice va' (bl.length + 1) vc')).cell? ⟨wr.heap.size + 1 + 1, 0, none⟩ = some (.pointer (some ⟨wr.heap.size + 1, 0, none⟩)) := ((Mod.refl (one (wr.heap.size + 1)) w4).setCell ⟨wr.heap.size + 1, 0, none⟩ (fun _ => rfl) _).cell (p := ⟨wr.heap.size + 1 + 1, 0, none⟩) (fun e => by have e' : wr.heap.size + 1 + 1 = wr.heap.size + 1 := e; omega) d4
          have END := Lib.hid (bodyEnd (by omega) H.out.n WM.out KB.out KS.out KN.out IM.out HO.out HBL.out HFL.out hbn HAP.out hx rfl m3 (by rw [← HM.out]; exact hB) hown hmg hd4)
          clear hB m3 hown hmg hd4 hb4
          dsimp only
          refine hK.out _ _ d0 (fun hS => ?_)
          clear hK K
          try simp only [Act.put, List.setIfInBounds_toArray, List.set_cons_zero, List.set_cons_succ]
          refine wpAnyH_ready (rs := [4, 7]) (by kernel_rfl) (by simp) (AllReadyH.cons rfl (fun K hK => ?_) <| AllReadyH.cons rfl (fun K hK => ?_) <| AllReadyH.nil)
          · go_simp
            refine hK.out _ _ hS (fun hS => ?_)
            clear hK K
            try simp only [Act.put, List.setIfInBounds_toArray, List.set_cons_zero, List.set_cons_succ]
            refine wpAnyH_ready (rs := [7]) (by kernel_rfl) (by simp) (AllReadyH.cons rfl (fun K hK => ?_) <| AllReadyH.nil)
            go_simp
            refine hK.out _ _ d0a (fun hS => ?_)
            clear hK K
            try simp only [Act.put, List.setIfInBounds_toArray, List.set_cons_zero, List.set_cons_succ]
            refine wpAnyH_ready (rs := [8]) (by kernel_rfl) (by simp) (AllReadyH.cons rfl (fun K hK => ?_) <| AllReadyH.nil)
            go_simp
            refine hK.out _ _ d4 (fun hS => ?_)
            clear hK K
            try simp only [Act.put, List.setIfInBounds_toArray, List.set_cons_zero, List.set_cons_succ]
            refine wpAnyH_take (i := 9) (v := .pointer (some ⟨wr.heap.size + 1, 0, none⟩)) rfl (by kernel_rfl) (by kernel_rfl) (by kernel_rfl) (fun _ _ _ h => h) (Or.inl ⟨by rfl, ?_⟩) hS ?_
            · intro w' hw'; go_simp
            simp only [Act.put, List.setIfInBounds_toArray]
            refine wpAnyH_take (i := 10) (v := .pointer (some ⟨wr.heap.size + 1, 0, none⟩)) rfl (by kernel_rfl) (by kernel_rfl) (by kernel_rfl) (fun _ _ _ h => h) (Or.inl ⟨by rfl, ?_⟩) hS ?_
            · intro w' hw'; go_simp
            simp only [Act.put]
            refine wpAnyH_ready (rs := [11]) (by kernel_rfl) (by simp) (AllReadyH.cons rfl (fun K hK => ?_) <| AllReadyH.nil)
            go_simp
            refine hK.out _ _ d5 (fun hS => ?_)
            clear hK K
            try simp only [Act.put, List.setIfInBounds_toArray, List.set_cons_zero, List.set_cons_succ]
            refine wpAnyH_done (by kernel_rfl) ?_ _
            exact END.out
          · go_simp
            refine hK.out _ _ d0a (fun hS => ?_)
            clear hK K
            try simp only [Act.put, List.setIfInBounds_toArray, List.set_cons_zero, List.set_cons_succ]
            refine wpAnyH_ready (rs := [4]) (by kernel_rfl) (by simp) (AllReadyH.cons rfl (fun K hK => ?_) <| AllReadyH.nil)
            go_simp
            refine hK.out _ _ hS (fun hS => ?_)
            clear hK K
            try simp only [Act.put, List.setIfInBounds_toArray, List.set_cons_zero, List.set_cons_succ]
            refine wpAnyH_ready (rs := [8]) (by kernel_rfl) (by simp) (AllReadyH.cons rfl (fun K hK => ?_) <| AllReadyH.nil)
            go_simp
            refine hK.out _ _ d4 (fun hS => ?_)
            clear hK K
            try simp only [Act.put, List.setIfInBounds_toArray, List.set_cons_zero, List.set_cons_succ]
            refine wpAnyH_take (i := 9) (v := .pointer (some ⟨wr.heap.size + 1, 0, none⟩)) rfl (by kernel_rfl) (by kernel_rfl) (by kernel_rfl) (fun _ _ _ h => h) (Or.inl ⟨by rfl, ?_⟩) hS ?_
            · intro w' hw'; go_simp
            simp only [Act.put, List.setIfInBounds_toArray]
            refine wpAnyH_take (i := 10) (v := .pointer (some ⟨wr.heap.size + 1, 0, none⟩)) rfl (by kernel_rfl) (by kernel_rfl) (by kernel_rfl) (fun _ _ _ h => h) (Or.inl ⟨by rfl, ?_⟩) hS ?_
            · intro w' hw'; go_simp
            simp only [Act.put]
            refine wpAnyH_ready (rs := [11]) (by kernel_rfl) (by simp) (AllReadyH.cons rfl (fun K hK => ?_) <| AllReadyH.nil)
            go_simp
            refine hK.out _ _ d5 (fun hS => ?_)
            clear hK K
            try simp only [Act.put, List.setIfInBounds_toArray, List.set_cons_zero, List.set_cons_succ]
            refine wpAnyH_done (by kernel_rfl) ?_ _
            exact END.out
      case done =>
        rintro Df st W ⟨hs1, hs2, hs3⟩ ⟨m0, kb, ks, kn, im, v, bl, kd, hdb, hfl, hbn, hap⟩ hDf hlt
        have hflk : bl.flatMap Prod.snd = l := by rw [hfl]; exact List.take_of_length_le (by omega)
        obtain ⟨MB, hMB⟩ : ∃ MB, MB = wr.heap.size := ⟨_, rfl⟩
        obtain ⟨DD, hDD⟩ : ∃ DD, DD = wr.heap.size + 1 := ⟨_, rfl⟩
        obtain ⟨DB, hDB⟩ : ∃ DB, DB = wr.heap.size + 1 + 1 := ⟨_, rfl⟩
        rw [← hDB] at kb ⊢
        rw [← hDD] at kb kd ⊢
        rw [← hMB] at im kd
        have hord : MB < DD ∧ DD < DB ∧ DB < W0.heap.size ∧ w.heap.size ≤ MB := by omega
        clear hMB hDD hDB
        have hnm : ∀ cs t, ¬ Blk W MB cs t := fun cs t hb => imap_blk im hb
        have hnf : MB ≠ Df := fun e => by
          subst e
          obtain ⟨es, clock, hh, _⟩ := im
          rw [hh] at hDf; cases hDf
        have CN := Lib.hid (counts_nil im)
        have M0 := Lib.hid m0
        have KB := Lib.hid kb
        have KD := Lib.hid kd
        have HDB := Lib.hid hdb
        have HFL := Lib.hid hflk
        have HAP := Lib.hid (show Apart W bl ∧ ∀ y ∈ bl, y.2 ≠ [] from hap)
        clear hap
        have HDF := Lib.hid hDf
        clear m0 kb ks kn im kd hdb hfl hflk hDf
        have hl2 := H.out.n
        go_wp2_with fail
        go_loopg [59] k (fun g s59 wx => ∃ i n' : Nat, g = k - i ∧ s59 = .int .i64 i ∧ i ≤ k ∧ Mod (one MB) W wx ∧ Counts Tryz.prog 42 wx MB ((l.take i).map CellV.name) n')
        case atStart => exact ⟨0, 0, rfl, rfl, Nat.zero_le _, Mod.refl _ _, CN.out⟩
        case round =>
          obtain ⟨i, n', rfl, rfl, hi, m1, hc⟩ := hrel
          have M1 := Lib.hid m1
          have CC := Lib.hid hc
          have kbx := KB.out.mod m1 (fun e => by have e' : DB = MB := e; omega)
          have kdx := KD.out.mod m1 (fun e => by have e' : DD = MB := e; omega)
          by_cases hik : i < k
          · obtain ⟨c, hx⟩ : ∃ x, l[i]? = some x := ⟨l[i]'(by omega), by simp⟩
            obtain ⟨b, off, rfl, hr⟩ := H.out.cells i _ hx
            have hcok := H.out.ok _ (List.mem_of_getElem? hx)
            have far : ∀ {p : Addr} {v : Value}, w.cell? p = some v → wr.cell? p = some v := fun h => m1.cell (fun e => by have := block_lt_of_cell h; have e' : _ = MB := e; omega) (M0.out.cell (fun e => e) h)
            have c0 := far (hr 0 _ rfl)
            have c1 := far (hr 1 _ rfl)
            have c2 := far (hr 2 _ rfl)
            have c3 := far (hr 3 _ rfl)
            have c4 := far (hr 4 _ rfl)
            rw [Nat.add_zero] at c0
            have htk : l.take (i + 1) = l.take i ++ [c] := by
              obtain ⟨hk', e⟩ := List.getElem?_eq_some_iff.1 hx
              rw [List.take_succ_eq_append_getElem hk', e]
            have HT := Lib.hid htk
            have OK := Lib.hid hcok
            have hlb := block_lt_of_cell c0
            have mA := (Mod.refl none_ wr).alloc (.cells #[.int .i64 c.site, .int .i64 c.seq, .int .i64 c.off, .int .i32 c.r, .bool c.gone] 53)
            have kA := Blk.new (w := wr) (cs := [.int .i64 c.site, .int .i64 c.seq, .int .i64 c.off, .int .i32 c.r, .bool c.gone]) (t := 53)
            have MA := Lib.hid (m1.trans (mA.mono (T := one MB) (fun _ _ e => e.elim)))
            have CA := Lib.hid (CC.out.mod mA (fun e => e))
            have KA := Lib.hid kA
            have KBA := Lib.hid (kbx.mod mA (fun e => e))
            have KDA := Lib.hid (kdx.mod mA (fun e => e))
            clear mA kA kbx kdx hx hr hcok htk m1 hc far
            go_upto_region 20 with fail
            generalize wr.alloc (.cells #[.int .i64 c.site, .int .i64 c.seq, .int .i64 c.off, .int .i32 c.r, .bool c.gone] 53) = wA at MA CA KA KBA KDA ⊢
            clear c0 c1 c2 c3 c4
            have e0 : wA.cell? ⟨wr.heap.size, 0, none⟩ = some (.int .i64 c.site) := by rw [KA.out.cell]; rfl
            have e1 : wA.cell? ⟨wr.heap.size, 1, none⟩ = some (.int .i64 c.seq) := by rw [KA.out.cell]; rfl
            have q0 : wA.cell? ⟨DB, 0, none⟩ = some (.pointer (some ⟨DD, 0, none⟩)) := KBA.out.cell 0
            have q1 : wA.cell? ⟨DD, 1, none⟩ = some (.map (some MB)) := KDA.out.cell 1
            obtain ⟨S, hS⟩ : ∃ S, S = wr.heap.size := ⟨_, rfl⟩
            rw [← hS] at KA e0 e1 ⊢
            clear hS
            have CD : Counts Tryz.prog 42 wA.drew MB ((l.take i).map CellV.name) n' := CA.out.mod (Mod.drew (Mod.refl none_ wA)) (fun e => e)
            obtain ⟨q, s, w3, w4, hq, h1, h2, h3, h4, M3, M4, C4⟩ := CD.incr kName Tryz.underlying138 zInt (okName OK.out)
            rw [List.length_map, List.length_take] at hq
            have hwq : IntKind.i64.wrap ((q : Int) + 1) = (q : Int) + 1 := by rw [IntKind.wrap_i64]; omega
            have C5 := Lib.hid (show Counts Tryz.prog 42 w4 MB ((l.take (i + 1)).map CellV.name) (if c.name ∈ (l.take i).map CellV.name then n' else n' + 1) by rw [HT.out, List.map_append]; exact C4)
            have M5 := Lib.hid ((Mod.drew MA.out).trans M4)
            clear C4 M3 M4 CD
            go_wp2_with fail
            go_region_law (fail)
            all_goals go_wp2_with fail
            all_goals go_roundg (k - (i + 1))
            all_goals first
              | omega
              | exact ⟨i + 1, _, rfl, by go_num, by omega, M5.out, C5.out⟩
          · obtain rfl : i = k := by omega
            have e : l.take i = l := List.take_of_length_le (by omega)
            rw [e] at hc
            have hdf : wr.heap[Df]? = some (.deferred (some [])) := m1.blk (fun e => hnf e.symm) HDF.out
            have q0 : wr.cell? ⟨DB, 0, none⟩ = some (.pointer (some ⟨DD, 0, none⟩)) := kbx.cell 0
            have mP := loopOwn_put (B := W0.heap.size) (.deferred none) hlt hdf rfl
            have hle2 : w.heap.size ≤ W0.heap.size := by omega
            have FIN : Mod none_ w (wr.putObj Df (.deferred none)) ∧ DocIs (wr.putObj Df (.deferred none)) w.heap.size DD l := by
              refine ⟨(M0.out.transIn m1 (fun b hb e => by have e' : b = MB := e; omega)).transOwn mP hle2, ⟨v, MB, bl, n', kdx.own mP, (HDB.out.map m1 hnm).own mP, HFL.out, (hc.mod mP (fun s => by have := s.1; omega)).names, (HAP.out.1.mod HDB.out.2 m1 (fun k cs hk e => by have e' : k = MB := e; subst e'; exact hnm _ _ hk)).mod (HDB.out.map m1 hnm).2 mP (fun k cs hk s => by have := s.2 _ hk; cases this), HAP.out.2, by omega⟩, by omega⟩
            have FIN := Lib.hid FIN
            clear CC hc m1 kbx kdx mP e
            go_wp2_with fail
            refine ⟨by simp, .inl ⟨_, _, rfl, run_takeDeferred hdf, ?_⟩⟩
            refine ⟨_, results_tmp2 rfl _ _ _, FIN.out.1, fun h => absurd HE.out h, fun _ => ⟨DD, rfl, FIN.out.2⟩⟩

end Go.Proofs.YtjgjjlolhdlofaaGreatDoor

namespace Go.Proofs.YtjgjjlolhdlofaaGreatDoor
open Go.RowKit Go.Mine

theorem blk_range {w : World} {g : Nat} {cs : List Value} {t : TypeId} (h : Blk w g cs t) : w.rangeAt g 0 cs := fun j v hv => by rw [Nat.zero_add, h.cell]; exact hv
end Go.Proofs.YtjgjjlolhdlofaaGreatDoor

namespace Go.Proofs.YtjgjjlolhdlofaaGreatDoor
open Go.RowKit Go.Mine

theorem liveN_append (a b : List CellV) : liveN (a ++ b) = liveN a + liveN b := by
  unfold liveN; rw [List.filter_append, List.length_append]

/-- What the first k blocks hold. -/
def fstBs (bl : List (Nat × List CellV)) (k : Nat) : List CellV := (bl.take k).flatMap Prod.snd
theorem fstBs_succ {bl : List (Nat × List CellV)} {k : Nat} {x : Nat × List CellV} (hx : bl[k]? = some x) : fstBs bl (k + 1) = fstBs bl k ++ x.2 := by
  obtain ⟨hk', e⟩ := List.getElem?_eq_some_iff.1 hx
  unfold fstBs
  rw [List.take_succ_eq_append_getElem hk', e, List.flatMap_append]
  simp
theorem fstBs_all {bl : List (Nat × List CellV)} {k : Nat} (h : bl.length ≤ k) : fstBs bl k = bl.flatMap Prod.snd := by
  unfold fstBs; rw [List.take_of_length_le h]
theorem fstBs_le (bl : List (Nat × List CellV)) (k : Nat) : (fstBs bl k).length ≤ (bl.flatMap Prod.snd).length := by
  have : bl.flatMap Prod.snd = fstBs bl k ++ (bl.drop k).flatMap Prod.snd := by
    unfold fstBs; rw [← List.flatMap_append, List.take_append_drop]
  rw [this, List.length_append]; omega

/-- Block k in memory. -/
theorem DocBs.at_ {w : World} {B nb vc : Nat} {va : Option Addr} {bl : List (Nat × List CellV)} (h : DocBs w B (.slice va nb vc) bl) {k : Nat} {x : Nat × List CellV} (hx : bl[k]? = some x) :
    ∃ g, va = some ⟨g, 0, none⟩ ∧ w.cell? ⟨g, k, none⟩ = some (.pointer (some ⟨x.1, 0, none⟩)) := by
  have hk := (List.getElem?_eq_some_iff.1 hx).1
  rcases ownsRow_blk h.1 with ⟨_, h0, _⟩ | ⟨g, c', more, e, _, hb, _⟩
  · omega
  · cases e
    refine ⟨g, rfl, ?_⟩
    rw [hb.cell, List.getElem?_append_left (by simpa using hk), List.getElem?_map, hx]
    rfl
theorem DocBs.len {w : World} {B nb vc : Nat} {va : Option Addr} {bl : List (Nat × List CellV)} (h : DocBs w B (.slice va nb vc) bl) : nb = bl.length := by
  have := h.1.1
  rw [List.length_map] at this
  rcases ownsRow_blk h.1 with ⟨e, h0, _⟩ | ⟨g, c', more, e, _, hb, _⟩
  · cases e; omega
  · cases e; rfl
theorem DocBs.cap {w : World} {B nb vc : Nat} {va : Option Addr} {bl : List (Nat × List CellV)} (h : DocBs w B (.slice va nb vc) bl) : nb ≤ vc ∧ vc ≤ maxLen := by
  rcases ownsRow_blk h.1 with ⟨e, h0, _⟩ | ⟨g, c', more, e, _, hb, h1, h2, _⟩
  · cases e; exact ⟨Nat.le_refl _, Nat.zero_le _⟩
  · cases e; exact ⟨h1, h2⟩

theorem Tryz.taSize : (Tryz.prog.info? 143).map (·.size) = some 2 := by kernel_rfl
theorem results_ta1 {fn : Func} {p : Tmp} (h : fn.results = #[.cell p 143]) (tmps : Array Value) (w : World) (g : Nat) (cs : List Value) (hp : tmps.getD p undef = .pointer (some ⟨g, 0, none⟩)) (hl : cs.length = 2) (hr : w.rangeAt g 0 cs) :
    (results fn tmps).run Tryz.prog w = .ok (.agg cs.toArray) w := by
  have := run_loadVar_mid (P := Tryz.prog) w g 0 143 cs _ hr Tryz.underlying143 rfl (by rw [hl]; exact Tryz.taSize)
  have hp' : tmps[p]?.getD undef = .pointer (some ⟨g, 0, none⟩) := by simpa using hp
  simp [results, h, hp', asAddr, this]

set_option maxHeartbeats 4000000 in
set_option maxRecDepth 1000000 in
theorem all_any (w : World) (B D : Nat) (l : List CellV) (h : DocIs w B D l) (hlen : l.length ≤ 1099511627776) :
    Calls Tryz.prog 116 #[.pointer (some ⟨D, 0, none⟩)] w fun e w' => e = .returned (.agg #[.int .i64 (l.length : Int), .int .i64 (liveN l : Int)]) ∧ Mod none_ w w' := by
  obtain ⟨⟨v, MB, bl, n, kd, hdb, hfl, _⟩, _⟩ := h
  obtain ⟨va, vc, rfl⟩ : ∃ va vc, v = .slice va bl.length vc := by
    rcases ownsRow_blk hdb.1 with ⟨rfl, h0, _⟩ | ⟨g, c', _, rfl, _⟩
    · exact ⟨none, 0, by rw [h0]⟩
    · exact ⟨_, c', rfl⟩
  obtain ⟨W0, hW0⟩ : ∃ W0, (w.alloc (.cells #[.int .i64 0, .int .i64 0] 143)).alloc (.cells #[.int .i64 0, .int .i64 0] 143) = W0 := ⟨_, rfl⟩
  have m0 : Mod none_ w W0 := by rw [← hW0]; exact ((Mod.refl none_ w).alloc _).alloc _
  have k0 : Blk W0 w.heap.size [.int .i64 0, .int .i64 0] 143 := by
    rw [← hW0]
    exact (Blk.new (w := w) (cs := [.int .i64 0, .int .i64 0]) (t := 143)).mod ((Mod.refl none_ _).alloc _) (fun e => e)
  have k1 : Blk W0 (w.heap.size + 1) [.int .i64 0, .int .i64 0] 143 := by
    have := Blk.new (w := w.alloc (.cells #[.int .i64 0, .int .i64 0] 143)) (cs := [.int .i64 0, .int .i64 0]) (t := 143)
    rw [World.size_alloc] at this
    rw [← hW0]
    exact this
  have hcap := hdb.cap
  unfold maxLen at hcap
  have hbn : bl.length ≤ 9223372036854775807 := by omega
  have cd : W0.cell? ⟨D, 0, none⟩ = some (.slice va bl.length vc) := by
    have := (kd.mod m0 (fun e => e)).cell 0
    exact this
  have M0 := Lib.hid m0
  have K0 := Lib.hid k0
  have K1 := Lib.hid k1
  have HDB := Lib.hid hdb
  have HFL := Lib.hid hfl
  clear m0 k0 k1 hdb hfl kd hcap
  go_enter Tryz.func116, Tryz.ntmps116
  go_upto_region 2 with fail
  clear hW0
  go_wp2_with fail
  go_loopg [13] bl.length (fun g s13 wx => ∃ k : Nat, g = bl.length - k ∧ s13 = .int .i64 k ∧ k ≤ bl.length ∧ Mod none_ w wx ∧ Blk wx w.heap.size [.int .i64 0, .int .i64 0] 143 ∧ Blk wx (w.heap.size + 1) [.int .i64 ((fstBs bl k).length : Int), .int .i64 (liveN (fstBs bl k) : Int)] 143)
  case atStart => exact ⟨0, rfl, rfl, Nat.zero_le _, M0.out, K0.out, K1.out⟩
  case round =>
    obtain ⟨k, rfl, rfl, hk, mx, kx0, kx1⟩ := hrel
    have MX := Lib.hid mx
    have KX0 := Lib.hid kx0
    have KX1 := Lib.hid kx1
    by_cases hlk : k < bl.length
    · obtain ⟨x, hx⟩ : ∃ x, bl[k]? = some x := ⟨bl[k]'hlk, by simp⟩
      have hdx := HDB.out.grown mx
      obtain ⟨g, rfl, c0⟩ := hdx.at_ hx
      obtain ⟨⟨vb, kb, _, _⟩, _⟩ := hdx.2 x (List.mem_of_getElem? hx)
      have hsx := fstBs_succ hx
      have hle := fstBs_le bl (k + 1)
      rw [HFL.out] at hle
      have hlv := liveN_le (fstBs bl (k + 1))
      have E1 : ((fstBs bl (k + 1)).length : Int) = (fstBs bl k).length + x.2.length := by rw [hsx, List.length_append]; simp
      have E2 : (liveN (fstBs bl (k + 1)) : Int) = liveN (fstBs bl k) + liveN x.2 := by rw [hsx, liveN_append]; simp
      obtain ⟨p, c⟩ := x
      dsimp only at c0 kb E1 E2
      have b0 : wr.cell? ⟨p, 0, none⟩ = some (.int .i64 (c.length : Int)) := by rw [kb.cell]; rfl
      have b1 : wr.cell? ⟨p, 1, none⟩ = some (.int .i64 (liveN c : Int)) := by rw [kb.cell]; rfl
      have s0 : wr.cell? ⟨w.heap.size + 1, 0, none⟩ = some (.int .i64 ((fstBs bl k).length : Int)) := by rw [kx1.cell]; rfl
      have s1 : wr.cell? ⟨w.heap.size + 1, 1, none⟩ = some (.int .i64 (liveN (fstBs bl k) : Int)) := by rw [kx1.cell]; rfl
      have f0 := kx1.frozen 0
      have f1 := kx1.frozen 1
      have hpn : p ≠ w.heap.size + 1 := fun e => by
        subst e
        exact Blk.apart kb kx1 (by decide) rfl
      have w1 : IntKind.i64.wrap (((fstBs bl k).length : Int) + c.length) = ((fstBs bl k).length : Int) + c.length := by rw [IntKind.wrap_i64]; omega
      have w2 : IntKind.i64.wrap ((liveN (fstBs bl k) : Int) + liveN c) = (liveN (fstBs bl k) : Int) + liveN c := by rw [IntKind.wrap_i64]; omega
      have E1 := Lib.hid E1
      have E2 := Lib.hid E2
      have n1 : (liveN (fstBs bl k) : Int) + liveN c ≤ 1099511627776 := by omega
      have n2 : ((fstBs bl k).length : Int) + c.length ≤ 1099511627776 := by omega
      clear hdx hx hsx hle hlv mx kx0 kx1 kb
      have M2 := Lib.hid (((((Mod.refl (one (w.heap.size + 1)) wr).drew).setCell ⟨w.heap.size + 1, 0, none⟩ (fun _ => rfl) (.int .i64 (((fstBs bl k).length : Int) + c.length))).drew).setCell ⟨w.heap.size + 1, 1, none⟩ (fun _ => rfl) (.int .i64 ((liveN (fstBs bl k) : Int) + liveN c)))
      have K2 := Lib.hid ((((KX1.out.drew).set 0 (.int .i64 (((fstBs bl k).length : Int) + c.length))).drew).set 1 (.int .i64 ((liveN (fstBs bl k) : Int) + liveN c)))
      go_wp2_with fail
      go_region_law (fail)
      all_goals go_wp2_with fail
      all_goals go_region_law (fail)
      all_goals go_wp2_with fail
      all_goals go_roundg (bl.length - (k + 1))
      all_goals first
        | omega
        | exact ⟨k + 1, rfl, by go_num, by omega, MX.out.transIn M2.out (fun b hb e => by have e' : b = w.heap.size + 1 := e; omega), KX0.out.mod M2.out (fun e => by have e' : w.heap.size = w.heap.size + 1 := e; omega), by rw [E1.out, E2.out]; exact K2.out⟩
    · obtain rfl : k = bl.length := by omega
      rw [fstBs_all (Nat.le_refl _), HFL.out] at kx1
      have s0 : wr.cell? ⟨w.heap.size + 1, 0, none⟩ = some (.int .i64 (l.length : Int)) := by rw [kx1.cell]; rfl
      have s1 : wr.cell? ⟨w.heap.size + 1, 1, none⟩ = some (.int .i64 (liveN l : Int)) := by rw [kx1.cell]; rfl
      have f0 := kx0.frozen 0
      have f1 := kx0.frozen 1
      have r0 : wr.cell? ⟨w.heap.size, 0, none⟩ = some (.int .i64 0) := by rw [kx0.cell]; rfl
      have r1 : wr.cell? ⟨w.heap.size, 1, none⟩ = some (.int .i64 0) := by rw [kx0.cell]; rfl
      have KF := Lib.hid ((kx0.set 0 (.int .i64 (l.length : Int))).set 1 (.int .i64 (liveN l : Int)))
      have MF := Lib.hid ((MX.out.setCell ⟨w.heap.size, 0, none⟩ (fun h => absurd h (by simp)) (.int .i64 (l.length : Int))).setCell ⟨w.heap.size, 1, none⟩ (fun h => absurd h (by simp)) (.int .i64 (liveN l : Int)))
      clear mx kx0 kx1 KX0 KX1
      go_wp2_with fail
      exact bodyPost_ret (results_ta1 rfl _ _ w.heap.size [.int .i64 (l.length : Int), .int .i64 (liveN l : Int)] rfl rfl (blk_range KF.out)) rfl ⟨rfl, MF.out⟩

end Go.Proofs.YtjgjjlolhdlofaaGreatDoor

namespace Go.Proofs.YtjgjjlolhdlofaaGreatDoor
open Go.RowKit Go.Mine

/-- What the blocks from the k-th on hold. -/
def rstBs (bl : List (Nat × List CellV)) (k : Nat) : List CellV := (bl.drop k).flatMap Prod.snd
theorem rstBs_step {bl : List (Nat × List CellV)} {k : Nat} {x : Nat × List CellV} (hx : bl[k]? = some x) : rstBs bl k = x.2 ++ rstBs bl (k + 1) := by
  obtain ⟨hk', e⟩ := List.getElem?_eq_some_iff.1 hx
  unfold rstBs
  rw [List.drop_eq_getElem_cons hk', e, List.flatMap_cons]

end Go.Proofs.YtjgjjlolhdlofaaGreatDoor

namespace Go.Proofs.YtjgjjlolhdlofaaGreatDoor
open Go.RowKit Go.Shelf Go.Mine
open Classical

/-- A block: its pointer, its slice, its cells. -/
structure BV where
  p : Nat
  v : Value
  c : List CellV
structure BlkV (w : World) (x : BV) : Prop where
  b : Blk w x.p [.int .i64 (x.c.length : Int), .int .i64 (liveN x.c : Int), x.v] 145
  o : w.ownsRow 0 53 5 x.v x.c.length (flat CellV.cs x.c)
abbrev cellsOf (bl : List BV) : List CellV := bl.flatMap BV.c
abbrev ptrsOf (bl : List BV) : List Value := bl.map fun x => .pointer (some ⟨x.p, 0, none⟩)
def apartB (x y : BV) : Prop := x.p ≠ y.p ∧ ∀ g, x.v.ownBlock = some g → y.v.ownBlock ≠ some g
/-- The blocks of a document (without its names). -/
structure DocV (w : World) (D : Nat) (v : Value) (MB : Nat) (bl : List BV) : Prop where
  doc : Blk w D [v, .map (some MB)] 140
  ptrs : w.ownsRow 0 141 1 v bl.length (ptrsOf bl)
  blk : ∀ x ∈ bl, BlkV w x
  apart : bl.Pairwise apartB
/-- All that it owns. -/
def foot (D : Nat) (v : Value) (bl : List BV) (k : Nat) : Prop := k = D ∨ v.ownBlock = some k ∨ ∃ x ∈ bl, k = x.p ∨ x.v.ownBlock = some k
/-- A document of these cells, all of it in S. -/
structure DocS (w : World) (S : Nat → Prop) (D : Nat) (l : List CellV) : Prop where
  ex : ∃ v MB bl, DocV w D v MB bl ∧ Names Tryz.prog 42 w MB (l.map CellV.name) ∧ cellsOf bl = l ∧ (∀ k, foot D v bl k → S k) ∧ S MB ∧ ∀ x ∈ bl, x.c ≠ []

theorem BlkV.mod {S : Nat → Prop} {w w' : World} {x : BV} (h : BlkV w x) (m : Mod S w w') (h1 : ¬ S x.p) (h2 : ∀ g, x.v.ownBlock = some g → ¬ S g) : BlkV w' x :=
  ⟨h.b.mod m h1, ownsRow_mod h.o m h2⟩
theorem DocV.mod {S : Nat → Prop} {w w' : World} {D MB : Nat} {v : Value} {bl : List BV} (h : DocV w D v MB bl) (m : Mod S w w') (hs : ∀ k, foot D v bl k → ¬ S k) : DocV w' D v MB bl :=
  ⟨h.doc.mod m (hs _ (.inl rfl)), ownsRow_mod h.ptrs m (fun k hk => hs k (.inr (.inl hk))), fun x hx => (h.blk x hx).mod m (hs _ (.inr (.inr ⟨x, hx, .inl rfl⟩))) (fun g hg => hs g (.inr (.inr ⟨x, hx, .inr hg⟩))), h.apart⟩
theorem DocV.grown {w w' : World} {D MB : Nat} {v : Value} {bl : List BV} (h : DocV w D v MB bl) (m : Mod none_ w w') : DocV w' D v MB bl := h.mod m (fun _ _ e => e)
theorem DocS.mod {T S : Nat → Prop} {w w' : World} {D : Nat} {l : List CellV} (h : DocS w S D l) (m : Mod T w w') (hs : ∀ k, S k → ¬ T k) : DocS w' S D l := by
  obtain ⟨v, MB, bl, hv, hc, hl, hf, hmb, hne⟩ := h.ex
  exact ⟨v, MB, bl, hv.mod m (fun k hk => hs k (hf k hk)), hc.mod m (hs _ hmb), hl, hf, hmb, hne⟩
theorem DocS.grown {S : Nat → Prop} {w w' : World} {D : Nat} {l : List CellV} (h : DocS w S D l) (m : Mod none_ w w') : DocS w' S D l := h.mod m (fun _ _ e => e)
theorem DocS.mono {S T : Nat → Prop} {w : World} {D : Nat} {l : List CellV} (h : DocS w S D l) (hs : ∀ k, k < w.heap.size → S k → T k) : DocS w T D l := by
  obtain ⟨v, MB, bl, hv, hc, hl, hf, hmb, hne⟩ := h.ex
  refine ⟨v, MB, bl, hv, hc, hl, fun k hk => hs k ?_ (hf k hk), hs _ hc.lt hmb, hne⟩
  rcases hk with rfl | hk | ⟨x, hx, rfl | hk⟩
  · exact hv.doc.lt
  · exact (hv.ptrs.lt k hk).2
  · exact (hv.blk x hx).b.lt
  · exact ((hv.blk x hx).o.lt k hk).2

/-- The names lie apart. -/
theorem foot_names {w : World} {D MB : Nat} {v : Value} {bl : List BV} {ks : List Value} (h : DocV w D v MB bl) (hn : Names Tryz.prog 42 w MB ks) : ¬ foot D v bl MB := by
  obtain ⟨m, n, hm, _⟩ := hn
  rintro (rfl | hk | ⟨x, hx, rfl | hk⟩)
  · exact imap_blk hm h.doc
  · obtain ⟨cs, hc⟩ := ownsRow_type h.ptrs hk
    exact imap_blk hm hc
  · exact imap_blk hm (h.blk x hx).b
  · obtain ⟨cs, hc⟩ := ownsRow_type (h.blk x hx).o hk
    exact imap_blk hm hc
/-- What was there, and what is new. -/
def grew (S : Nat → Prop) (w w' : World) (k : Nat) : Prop := S k ∨ (w.heap.size ≤ k ∧ k < w'.heap.size)

/-- The elder words of a document. -/
theorem DocV.bs {w : World} {D MB : Nat} {v : Value} {bl : List BV} (h : DocV w D v MB bl) : DocBs w 0 v (bl.map fun x => (x.p, x.c)) := by
  refine ⟨?_, fun y hy => ?_⟩
  · have := h.ptrs
    rw [List.length_map, List.map_map]
    exact this
  · obtain ⟨x, hx, rfl⟩ := List.mem_map.1 hy
    obtain ⟨hb, ho⟩ := h.blk x hx
    refine ⟨⟨x.v, hb, ho, fun e => ?_⟩, Nat.zero_le _⟩
    obtain ⟨cs, hk⟩ := ownsRow_type ho e
    exact Blk.apart hb hk (by decide) rfl
theorem arr_eq {w : World} {x : BV} {g : Nat} (h : BlkV w x) (k : Arr w x.p g) : x.v.ownBlock = some g := by
  obtain ⟨a, b, v', k', e⟩ := k
  have hb := h.b
  unfold Blk at hb k'
  rw [hb] at k'
  simp at k'
  obtain ⟨_, _, rfl⟩ := k'
  exact e
theorem DocV.ap {w : World} {D MB : Nat} {v : Value} {bl : List BV} (h : DocV w D v MB bl) : Apart w (bl.map fun x => (x.p, x.c)) := by
  unfold Apart
  rw [List.pairwise_map]
  exact List.Pairwise.imp_of_mem (fun hx hy hxy => ⟨hxy.1, fun g h1 h2 => hxy.2 g (arr_eq (h.blk _ hx) h1) (arr_eq (h.blk _ hy) h2)⟩) h.apart
theorem DocS.is {S : Nat → Prop} {w : World} {D : Nat} {l : List CellV} (h : DocS w S D l) : DocIs w 0 D l := by
  obtain ⟨v, MB, bl, hv, hc, hl, hf, hmb, hne⟩ := h.ex
  refine ⟨⟨v, MB, _, 0, hv.doc, hv.bs, ?_, hc, hv.ap, ?_, Nat.zero_le _⟩, Nat.zero_le _⟩
  · rw [List.flatMap_map]; exact hl
  · intro y hy
    obtain ⟨x, hx, rfl⟩ := List.mem_map.1 hy
    exact hne x hx

/-- A new document, in these words. -/
theorem exists_bv {w : World} {B : Nat} : ∀ (bl : List (Nat × List CellV)), (∀ x ∈ bl, BlkIs w B x.1 x.2) → Apart w bl → ∃ bv : List BV, (bv.map fun x => (x.p, x.c)) = bl ∧ (∀ x ∈ bv, BlkV w x ∧ B ≤ x.p ∧ ∀ g, x.v.ownBlock = some g → B ≤ g) ∧ bv.Pairwise apartB
  | [], _, _ => ⟨[], rfl, by simp, List.Pairwise.nil⟩
  | (p, c) :: r, h, ha => by
    obtain ⟨bv, e, hb, hp⟩ := exists_bv r (fun x hx => h x (List.mem_cons_of_mem _ hx)) (List.Pairwise.of_cons ha)
    obtain ⟨⟨v, kb, ko, kn⟩, klo⟩ := h (p, c) (by simp)
    refine ⟨⟨p, v, c⟩ :: bv, by simp [e], ?_, ?_⟩
    · intro x hx
      rcases List.mem_cons.1 hx with rfl | hx
      · exact ⟨⟨kb, ownsRow_base ko (Nat.zero_le _)⟩, klo, fun g hg => (ko.lt g hg).1⟩
      · exact hb x hx
    · refine List.Pairwise.cons (fun y hy => ?_) hp
      have hr := (List.pairwise_cons.1 ha).1 (y.p, y.c) (by rw [← e]; exact List.mem_map.2 ⟨y, hy, rfl⟩)
      refine ⟨hr.1, fun g h1 h2 => hr.2 g ⟨_, _, v, kb, h1⟩ ⟨_, _, y.v, (hb y hy).1.b, h2⟩⟩
theorem DocIs.s {w : World} {B D : Nat} {l : List CellV} (h : DocIs w B D l) : DocS w (fun k => B ≤ k) D l := by
  obtain ⟨⟨v, MB, bl, n, k, b, f, c, ap, ne, lm⟩, lo⟩ := h
  obtain ⟨bv, e, hb, hp⟩ := exists_bv bl b.2 ap
  refine ⟨v, MB, bv, ⟨k, ?_, fun x hx => (hb x hx).1, hp⟩, c, ?_, ?_, lm, fun x hx => ne (x.p, x.c) (by rw [← e]; exact List.mem_map.2 ⟨x, hx, rfl⟩)⟩
  · have := ownsRow_base b.1 (Nat.zero_le B)
    rw [← e, List.length_map, List.map_map] at this
    exact this
  · rw [← f, ← e, List.flatMap_map]
  · intro i hi
    rcases hi with rfl | hi | ⟨x, hx, rfl | hi⟩
    · exact lo
    · exact (b.1.lt i hi).1
    · exact (hb x hx).2.1
    · exact (hb x hx).2.2 i hi
end Go.Proofs.YtjgjjlolhdlofaaGreatDoor

namespace Go.Proofs.YtjgjjlolhdlofaaGreatDoor
open Go.RowKit Go.Shelf Go.Mine

theorem fTa0 (a b : Int) (w : World) : (Instr.field 143 (.agg #[.int .i64 a, .int .i64 b]) 0).run Tryz.prog w = .ok (.int .i64 a) w := by kernel_rfl
theorem fTa1 (a b : Int) (w : World) : (Instr.field 143 (.agg #[.int .i64 a, .int .i64 b]) 1).run Tryz.prog w = .ok (.int .i64 b) w := by kernel_rfl
attribute [local go_sem] fTa0 fTa1
set_option maxHeartbeats 2000000 in
set_option maxRecDepth 1000000 in
theorem size_any (w : World) (B D : Nat) (l : List CellV) (h : DocIs w B D l) (hlen : l.length ≤ 1099511627776) :
    Calls Tryz.prog 94 #[.pointer (some ⟨D, 0, none⟩)] w fun e w' => e = .returned (.int .i64 (l.length : Int)) ∧ Mod none_ w w' := by
  have HALL := Lib.hid (all_any w B D l h hlen)
  clear h
  go_enter Tryz.func94, Tryz.ntmps94
  go_wp2_with fail
  refine HALL.out.mono ?_
  rintro e w1 ⟨rfl, m1⟩
  go_wp2_with fail
  go_ret
  exact ⟨rfl, m1⟩
end Go.Proofs.YtjgjjlolhdlofaaGreatDoor

namespace Go.Proofs.YtjgjjlolhdlofaaGreatDoor
open Go.RowKit Go.Shelf Go.Mine

def goneC (c : CellV) : CellV := { c with gone := true }
/-- The cells at places of P are gone. -/
def markP (P : Nat → Bool) (l : List CellV) : List CellV := l.mapIdx fun i c => if P i then goneC c else c
theorem markP_len (P : Nat → Bool) (l : List CellV) : (markP P l).length = l.length := by simp [markP]
theorem markP_get (P : Nat → Bool) (l : List CellV) (i : Nat) : (markP P l)[i]? = (l[i]?).map fun c => if P i then goneC c else c := by simp [markP]
theorem markP_congr {P Q : Nat → Bool} {l : List CellV} (h : ∀ i, i < l.length → P i = Q i) : markP P l = markP Q l := by
  apply List.ext_getElem?
  intro i
  rw [markP_get, markP_get]
  by_cases hi : i < l.length
  · rw [h i hi]
  · rw [List.getElem?_eq_none (by omega)]; rfl
theorem markP_none {P : Nat → Bool} {l : List CellV} (h : ∀ i, i < l.length → P i = false) : markP P l = l := by
  rw [markP_congr (Q := fun _ => false) h]
  apply List.ext_getElem?
  intro i
  rw [markP_get]
  cases l[i]? <;> simp
theorem markP_append (P : Nat → Bool) (a b : List CellV) : markP P (a ++ b) = markP P a ++ markP (fun i => P (a.length + i)) b := by
  apply List.ext_getElem?
  intro i
  rw [markP_get]
  by_cases hi : i < a.length
  · rw [List.getElem?_append_left hi, List.getElem?_append_left (by rw [markP_len]; exact hi), markP_get]
  · rw [List.getElem?_append_right (by omega), List.getElem?_append_right (by rw [markP_len]; omega), markP_len, markP_get, show a.length + (i - a.length) = i by omega]
theorem markP_names (P : Nat → Bool) (l : List CellV) : (markP P l).map CellV.name = l.map CellV.name := by
  apply List.ext_getElem?
  intro i
  rw [List.getElem?_map, List.getElem?_map, markP_get]
  cases l[i]? with
  | none => rfl
  | some c => simp only [Option.map_some]; split <;> rfl
theorem markP_ok {P : Nat → Bool} {l : List CellV} (h : ∀ c ∈ l, c.ok) : ∀ c ∈ markP P l, c.ok := by
  intro c hc
  obtain ⟨i, hi⟩ := List.getElem?_of_mem hc
  rw [markP_get] at hi
  cases hx : l[i]? with
  | none => rw [hx] at hi; cases hi
  | some x =>
    have := h x (List.mem_of_getElem? hx)
    rw [hx] at hi
    simp only [Option.map_some, Option.some.injEq] at hi
    subst hi
    split
    · exact ⟨this.i1, this.i2, this.i3, this.i4⟩
    · exact this
/-- One place more. -/
theorem markP_set (P : Nat → Bool) (l : List CellV) (i : Nat) (c : CellV) (hc : l[i]? = some c) : markP (fun j => P j || decide (j = i)) l = (markP P l).set i (goneC c) := by
  apply List.ext_getElem?
  intro j
  rw [markP_get, List.getElem?_set, markP_len]
  have hi := (List.getElem?_eq_some_iff.1 hc).1
  by_cases hj : i = j
  · subst hj
    rw [if_pos rfl, if_pos hi, hc]; simp
  · rw [if_neg hj, markP_get]
    have : decide (j = i) = false := by simp; omega
    rw [this, Bool.or_false]
/-- .. and in memory. -/
theorem flat_gone (l : List CellV) (i : Nat) (c : CellV) (hc : l[i]? = some c) (more : List Value) : (flat CellV.cs l ++ more).set (i * 5 + 4) (.bool true) = flat CellV.cs (l.set i (goneC c)) ++ more := by
  obtain ⟨hi, rfl⟩ := List.getElem?_eq_some_iff.1 hc
  have e : flat CellV.cs l = flat CellV.cs (l.take i) ++ (l[i].cs ++ flat CellV.cs (l.drop (i + 1))) := by
    have : l = l.take i ++ (l[i] :: l.drop (i + 1)) := by rw [List.getElem_cons_drop, List.take_append_drop]
    conv => lhs; rw [this]
    unfold flat; rw [List.flatMap_append, List.flatMap_cons]
  have e2 : flat CellV.cs (l.set i (goneC l[i])) = flat CellV.cs (l.take i) ++ ((goneC l[i]).cs ++ flat CellV.cs (l.drop (i + 1))) := by
    rw [List.set_eq_take_append_cons_drop, if_pos hi]
    unfold flat; rw [List.flatMap_append, List.flatMap_cons]
  have hl : (flat CellV.cs (l.take i)).length = i * 5 := by rw [flat_length CellV.len, List.length_take]; omega
  rw [e, e2, List.append_assoc, List.append_assoc, List.set_append_right _ _ (by omega), hl, show i * 5 + 4 - i * 5 = 4 by omega]
  simp [goneC]

/-- Marks by spans. -/
def markS (l : List (Int × Int)) (p : Nat) (cs : List CellV) : List CellV := markP (fun i => hasPl l (p + i)) cs
def markBl (l : List (Int × Int)) : Nat → List BV → List BV
  | _, [] => []
  | p, x :: r => ⟨x.p, x.v, markS l p x.c⟩ :: markBl l (p + x.c.length) r
theorem markS_len (l : List (Int × Int)) (p : Nat) (cs : List CellV) : (markS l p cs).length = cs.length := markP_len _ _
theorem markBl_cells (l : List (Int × Int)) : ∀ (bl : List BV) (p : Nat), cellsOf (markBl l p bl) = markS l p (cellsOf bl)
  | [], _ => rfl
  | x :: r, p => by
    have ih := markBl_cells l r (p + x.c.length)
    unfold cellsOf markS at *
    rw [markBl, List.flatMap_cons, List.flatMap_cons, markP_append, ih]
    simp only [markS, Nat.add_assoc]
theorem markBl_len (l : List (Int × Int)) : ∀ (bl : List BV) (p : Nat), (markBl l p bl).length = bl.length
  | [], _ => rfl
  | x :: r, p => by rw [markBl, List.length_cons, List.length_cons, markBl_len l r]
theorem markBl_append (l : List (Int × Int)) : ∀ (a b : List BV) (p : Nat), markBl l p (a ++ b) = markBl l p a ++ markBl l (p + (cellsOf a).length) b
  | [], _, _ => by simp [markBl]
  | x :: r, b, p => by
    rw [List.cons_append, markBl, markBl, markBl_append l r b, List.cons_append]
    simp only [cellsOf, List.flatMap_cons, List.length_append, Nat.add_assoc]
theorem markBl_foot (l : List (Int × Int)) : ∀ (bl : List BV) (p : Nat), (markBl l p bl).map (fun x => (x.p, x.v)) = bl.map (fun x => (x.p, x.v))
  | [], _ => rfl
  | x :: r, p => by rw [markBl, List.map_cons, List.map_cons, markBl_foot l r]
end Go.Proofs.YtjgjjlolhdlofaaGreatDoor

namespace Go.Proofs.YtjgjjlolhdlofaaGreatDoor
open Go.RowKit Go.Shelf Go.Mine

theorem DocV.at_ {w : World} {D MB nb vc : Nat} {va : Option Addr} {bl : List BV} (h : DocV w D (.slice va nb vc) MB bl) {k : Nat} {x : BV} (hx : bl[k]? = some x) :
    ∃ g, va = some ⟨g, 0, none⟩ ∧ w.cell? ⟨g, k, none⟩ = some (.pointer (some ⟨x.p, 0, none⟩)) := by
  have hk := (List.getElem?_eq_some_iff.1 hx).1
  rcases ownsRow_blk h.ptrs with ⟨_, h0, _⟩ | ⟨g, c', more, e, _, hb, _⟩
  · omega
  · cases e
    refine ⟨g, rfl, ?_⟩
    rw [hb.cell, List.getElem?_append_left (by simpa using hk), List.getElem?_map, hx]
    rfl
theorem DocV.form {w : World} {D MB : Nat} {v : Value} {bl : List BV} (h : DocV w D v MB bl) : ∃ va vc, v = .slice va bl.length vc ∧ bl.length ≤ vc ∧ vc ≤ maxLen := by
  rcases ownsRow_blk h.ptrs with ⟨rfl, h0, _⟩ | ⟨g, c', _, rfl, _, _, h1, h2, _⟩
  · exact ⟨none, 0, by rw [h0], by omega, Nat.zero_le _⟩
  · exact ⟨_, c', rfl, h1, h2⟩
theorem cellsOf_step {bl : List BV} {k : Nat} {x : BV} (hx : bl[k]? = some x) : cellsOf bl = cellsOf (bl.take k) ++ (x.c ++ cellsOf (bl.drop (k + 1))) := by
  obtain ⟨hk', e⟩ := List.getElem?_eq_some_iff.1 hx
  have : bl = bl.take k ++ (x :: bl.drop (k + 1)) := by rw [← e, List.getElem_cons_drop, List.take_append_drop]
  conv => lhs; rw [this]
  unfold cellsOf
  rw [List.flatMap_append, List.flatMap_cons]
theorem cellsOf_succ {bl : List BV} {k : Nat} {x : BV} (hx : bl[k]? = some x) : cellsOf (bl.take (k + 1)) = cellsOf (bl.take k) ++ x.c := by
  obtain ⟨hk', e⟩ := List.getElem?_eq_some_iff.1 hx
  unfold cellsOf
  rw [List.take_succ_eq_append_getElem hk', e, List.flatMap_append]
  simp

set_option maxHeartbeats 2000000 in
set_option maxRecDepth 1000000 in
theorem find_any (w : World) (D MB p : Nat) (v : Value) (bl : List BV) (h : DocV w D v MB bl) (hlen : (cellsOf bl).length ≤ 1099511627776) (hp : p ≤ (cellsOf bl).length) (hne : 0 < bl.length) :
    Calls Tryz.prog 118 #[.pointer (some ⟨D, 0, none⟩), .int .i64 (p : Int)] w fun e w' => ∃ (k i : Nat) (x : BV), e = .returned (.tuple #[.int .i64 (k : Int), .int .i64 (i : Int)]) ∧ bl[k]? = some x ∧ i ≤ x.c.length ∧ (cellsOf (bl.take k)).length + i = p ∧ Mod none_ w w' := by
  obtain ⟨va, vc, rfl, hvc, hvm⟩ := h.form
  unfold maxLen at hvm
  have cd : w.cell? ⟨D, 0, none⟩ = some (.slice va bl.length vc) := h.doc.cell 0
  have H := Lib.hid h
  have HP := Lib.hid (show 0 < bl.length ∧ (cellsOf (bl.take 0)).length + p = p by simp; exact hne)
  clear h
  go_enter Tryz.func118, Tryz.ntmps118
  go_wp2_with fail
  go_loopg [1, 13] bl.length (fun g s1 s13 wx => ∃ k i : Nat, g = bl.length - k ∧ s1 = .int .i64 i ∧ s13 = .int .i64 k ∧ Mod none_ w wx ∧ RowKit.Hid (k < bl.length ∧ (cellsOf (bl.take k)).length + i = p))
  case atStart => exact ⟨0, p, rfl, rfl, rfl, Mod.refl _ _, HP⟩
  case round =>
    obtain ⟨k, i, rfl, rfl, rfl, mx, hst⟩ := hrel
    obtain ⟨hk, hi⟩ := hst.out
    obtain ⟨x, hx⟩ : ∃ x, bl[k]? = some x := ⟨bl[k]'hk, by simp⟩
    have hdx := H.out.grown mx
    obtain ⟨g, rfl, c0⟩ := hdx.at_ hx
    have kb := (hdx.blk x (List.mem_of_getElem? hx)).b
    have b0 : wr.cell? ⟨x.p, 0, none⟩ = some (.int .i64 (x.c.length : Int)) := by rw [kb.cell]; rfl
    have cdx : wr.cell? ⟨D, 0, none⟩ = some (.slice (some ⟨g, 0, none⟩) bl.length vc) := hdx.doc.cell 0
    have MX := Lib.hid mx
    have HX := Lib.hid hx
    have hs1 := cellsOf_step hx
    have hs2 := cellsOf_succ hx
    have e1 : (cellsOf bl).length = (cellsOf (bl.take k)).length + (x.c.length + (cellsOf (bl.drop (k + 1))).length) := by rw [hs1]; simp
    have e2 : (cellsOf (bl.take (k + 1))).length = (cellsOf (bl.take k)).length + x.c.length := by rw [hs2]; simp
    have hil : i ≤ 1099511627776 := by omega
    have hxl : x.c.length ≤ 1099511627776 := by omega
    by_cases h1 : i < x.c.length
    · have FIN := Lib.hid (show i ≤ x.c.length ∧ (cellsOf (bl.take k)).length + i = p from ⟨by omega, hi⟩)
      have d1 : decide (i < x.c.length) = true := by simpa using h1
      clear e1 e2 hs1 hs2 hst hi mx kb hdx hx
      go_wp2_with fail
      go_ret2
      exact ⟨k, i, x, rfl, HX.out, FIN.out.1, FIN.out.2, MX.out⟩
    · have d1 : decide (i < x.c.length) = false := by simpa using h1
      have hkl : k + 1 = bl.length ∨ k + 1 < bl.length := by omega
      have hlast : k + 1 = bl.length → i = x.c.length := fun e => by
        have : (cellsOf (bl.drop (k + 1))).length = 0 := by rw [List.drop_eq_nil_of_le (by omega)]; rfl
        omega
      by_cases h2 : i = x.c.length
      · by_cases h3 : k + 1 = bl.length
        · have FIN := Lib.hid (show i ≤ x.c.length ∧ (cellsOf (bl.take k)).length + i = p from ⟨by omega, hi⟩)
          have d2 : ((i : Int) == (x.c.length : Int)) = true := by simp; omega
          have d3 : ((k : Int) == (bl.length : Int) - 1) = true := by simp; omega
          clear e1 e2 hs1 hs2 hst hi mx kb hdx hx h1 h2 h3 hkl hlast
          go_wp2_with fail
          go_ret2
          exact ⟨k, i, x, rfl, HX.out, FIN.out.1, FIN.out.2, MX.out⟩
        · have FIN := Lib.hid (show k + 1 < bl.length ∧ (cellsOf (bl.take (k + 1))).length + (i - x.c.length) = p from ⟨by omega, by omega⟩)
          have d2 : ((i : Int) == (x.c.length : Int)) = true := by simp; omega
          have d3 : ((k : Int) == (bl.length : Int) - 1) = false := by simp; omega
          clear e1 e2 hs1 hs2 hst hi mx kb hdx hx h2 h3 hkl hlast
          go_wp2_with fail
          go_roundg (bl.length - (k + 1))
          case measure => omega
          case rel => exact ⟨k + 1, i - x.c.length, rfl, by (congr 1; omega), by go_num, MX.out, FIN⟩
      · have h3 : k + 1 < bl.length := by
          rcases hkl with h | h
          · exact absurd (hlast h) h2
          · exact h
        have FIN := Lib.hid (show k + 1 < bl.length ∧ (cellsOf (bl.take (k + 1))).length + (i - x.c.length) = p from ⟨by omega, by omega⟩)
        have d2 : ((i : Int) == (x.c.length : Int)) = false := by simp; omega
        clear e1 e2 hs1 hs2 hst hi mx kb hdx hx h2 h3 hkl hlast
        go_wp2_with fail
        go_roundg (bl.length - (k + 1))
        case measure => omega
        case rel => exact ⟨k + 1, i - x.c.length, rfl, by (congr 1; omega), by go_num, MX.out, FIN⟩

end Go.Proofs.YtjgjjlolhdlofaaGreatDoor

namespace Go.Proofs.YtjgjjlolhdlofaaGreatDoor
open Go.RowKit Go.Shelf Go.Mine

theorem foot_congr {D : Nat} {v : Value} {a b : List BV} (h : a.map (fun x => (x.p, x.v)) = b.map (fun x => (x.p, x.v))) (k : Nat) : foot D v a k ↔ foot D v b k := by
  have key : ∀ {a b : List BV}, a.map (fun x => (x.p, x.v)) = b.map (fun x => (x.p, x.v)) → (∃ x ∈ a, k = x.p ∨ x.v.ownBlock = some k) → ∃ x ∈ b, k = x.p ∨ x.v.ownBlock = some k := by
    rintro a b h ⟨x, hx, hk⟩
    have : (x.p, x.v) ∈ b.map (fun x => (x.p, x.v)) := by rw [← h]; exact List.mem_map.2 ⟨x, hx, rfl⟩
    obtain ⟨y, hy, e⟩ := List.mem_map.1 this
    simp only [Prod.mk.injEq] at e
    exact ⟨y, hy, by rw [e.1, e.2]; exact hk⟩
  unfold foot
  exact ⟨fun h' => h'.imp id (Or.imp id (key h)), fun h' => h'.imp id (Or.imp id (key h.symm))⟩

theorem BlkV.apart_arr {w : World} {x : BV} (h : BlkV w x) {g : Nat} (hg : x.v.ownBlock = some g) : ∃ cs, Blk w g cs 53 := ownsRow_type h.o hg
/-- One block is written. -/
theorem DocV.upd {w w' : World} {D MB : Nat} {v : Value} {A B : List BV} {x y : BV} (h : DocV w D v MB (A ++ x :: B)) (m : Mod (fun b => b = x.p ∨ x.v.ownBlock = some b) w w') (hy : BlkV w' y) (hp : y.p = x.p) (hv : ∀ g, y.v.ownBlock = some g → x.v.ownBlock = some g ∨ w.heap.size ≤ g) :
    DocV w' D v MB (A ++ y :: B) := by
  have hxm : x ∈ A ++ x :: B := by simp
  have hx := h.blk x hxm
  have hap := List.pairwise_append.1 h.apart
  obtain ⟨apA, apX, apAX⟩ := hap
  obtain ⟨apXB, apB⟩ := List.pairwise_cons.1 apX
  have other : ∀ z, (z ∈ A ∨ z ∈ B) → BlkV w' z ∧ apartB z x ∧ apartB x z := by
    intro z hz
    have hzm : z ∈ A ++ x :: B := by rcases hz with hz | hz <;> simp [hz]
    have hzx : apartB z x ∧ apartB x z := by
      rcases hz with hz | hz
      · have := apAX z hz x (by simp)
        exact ⟨this, fun e => this.1 e.symm, fun g h1 h2 => this.2 g h2 h1⟩
      · have := apXB z hz
        exact ⟨⟨fun e => this.1 e.symm, fun g h1 h2 => this.2 g h2 h1⟩, this⟩
    refine ⟨(h.blk z hzm).mod m ?_ ?_, hzx⟩
    · rintro (e | e)
      · exact hzx.1.1 e
      · obtain ⟨cs, hc⟩ := hx.apart_arr e
        exact Blk.apart (h.blk z hzm).b hc (by decide) rfl
    · rintro g hg (e | e)
      · obtain ⟨cs, hc⟩ := (h.blk z hzm).apart_arr hg
        exact Blk.apart hx.b hc (by decide) e.symm
      · exact hzx.1.2 g hg e
  refine ⟨h.doc.mod m ?_, ?_, ?_, ?_⟩
  · rintro (e | e)
    · exact Blk.apart h.doc hx.b (by decide) e
    · obtain ⟨cs, hc⟩ := hx.apart_arr e
      exact Blk.apart h.doc hc (by decide) rfl
  · have e1 : (A ++ y :: B).length = (A ++ x :: B).length := by simp
    have e2 : ptrsOf (A ++ y :: B) = ptrsOf (A ++ x :: B) := by simp [ptrsOf, hp]
    rw [e1, e2]
    refine ownsRow_mod h.ptrs m ?_
    rintro k hk (e | e)
    · obtain ⟨cs, hc⟩ := ownsRow_type h.ptrs hk
      exact Blk.apart hx.b hc (by decide) e.symm
    · obtain ⟨cs, hc⟩ := ownsRow_type h.ptrs hk
      obtain ⟨cs', hc'⟩ := hx.apart_arr e
      exact Blk.apart hc hc' (by decide) rfl
  · intro z hz
    rcases List.mem_append.1 hz with hz | hz
    · exact (other z (.inl hz)).1
    · rcases List.mem_cons.1 hz with rfl | hz
      · exact hy
      · exact (other z (.inr hz)).1
  · have far : ∀ z, (z ∈ A ∨ z ∈ B) → apartB z y ∧ apartB y z := by
      intro z hz
      obtain ⟨_, ⟨h1, h2⟩, _⟩ := other z hz
      have hzm : z ∈ A ++ x :: B := by rcases hz with hz | hz <;> simp [hz]
      have key : ∀ g, z.v.ownBlock = some g → y.v.ownBlock ≠ some g := fun g hg e => by
        rcases hv g e with h3 | h3
        · exact h2 g hg h3
        · have := ((h.blk z hzm).o.lt g hg).2
          omega
      exact ⟨⟨by rw [hp]; exact h1, key⟩, ⟨by rw [hp]; exact fun e => h1 e.symm, fun g e1 e2 => key g e2 e1⟩⟩
    refine List.pairwise_append.2 ⟨apA, List.pairwise_cons.2 ⟨fun z hz => (far z (.inr hz)).2, apB⟩, fun z hz u hu => ?_⟩
    rcases List.mem_cons.1 hu with rfl | hu
    · exact (far z (.inl hz)).1
    · exact apAX z hz u (by simp [hu])

/-- Spans, none of them in F. -/
structure SpF (w : World) (F : Nat → Prop) (a : Option Addr) (n c : Nat) (r : List (Int × Int)) : Prop where
  sp : IsSpans w a n c r
  far : ∀ b off, a = some ⟨b, off, none⟩ → 0 < n → ¬ F b
theorem SpF.mod {w w' : World} {F S : Nat → Prop} {a : Option Addr} {n c : Nat} {r : List (Int × Int)} (h : SpF w F a n c r) (m : Mod S w w') (hs : ∀ k, S k → F k) : SpF w' F a n c r := by
  refine ⟨{ h.sp with cells := fun i x hx => ?_ }, h.far⟩
  obtain ⟨b, off, e, h0, h1⟩ := h.sp.cells i x hx
  have hi := (List.getElem?_eq_some_iff.1 hx).1
  have hn := h.sp.n
  have hf := h.far b off e (by omega)
  exact ⟨b, off, e, m.cell (fun s => hf (hs _ s)) h0, m.cell (fun s => hf (hs _ s)) h1⟩
theorem SpF.tail {w : World} {F : Nat → Prop} {b off n c : Nat} {x : Int × Int} {r : List (Int × Int)} (h : SpF w F (some ⟨b, off, none⟩) (n + 1) c (x :: r)) :
    (c = 1 → SpF w F (some ⟨b, off, none⟩) n 0 r) ∧ (c ≠ 1 → SpF w F (some ⟨b, off + 2, none⟩) n (c - 1) r) := by
  have hn := h.sp.n
  have hle := h.sp.le
  have hbig := h.sp.big
  rw [List.length_cons] at hn
  refine ⟨fun e => ⟨⟨by omega, by omega, by unfold maxLen; omega, fun y hy => h.sp.ok y (List.mem_cons_of_mem _ hy), fun i y hy => ?_⟩, fun _ _ _ hn' => by omega⟩,
    fun e => ⟨⟨by omega, by omega, by omega, fun y hy => h.sp.ok y (List.mem_cons_of_mem _ hy), fun i y hy => ?_⟩, fun b' off' e' hn' => ?_⟩⟩
  · have := (List.getElem?_eq_some_iff.1 hy).1
    omega
  · obtain ⟨b', off', e', h0, h1⟩ := h.sp.cells (i + 1) y (by simpa using hy)
    cases e'
    exact ⟨b, off + 2, rfl, by rw [show off + 2 + i * 2 = off + (i + 1) * 2 by omega]; exact h0, by rw [show off + 2 + i * 2 = off + (i + 1) * 2 by omega]; exact h1⟩
  · cases e'
    exact h.far b off rfl (by omega)
theorem SpF.head {w : World} {F : Nat → Prop} {a : Option Addr} {n c : Nat} {x : Int × Int} {r : List (Int × Int)} (h : SpF w F a n c (x :: r)) : ∃ b off m, a = some ⟨b, off, none⟩ ∧ n = m + 1 ∧ r.length = m ∧ m + 1 ≤ c ∧ c ≤ maxLen ∧ w.cell? ⟨b, off, none⟩ = some (.int .i64 x.1) ∧ w.cell? ⟨b, off + 1, none⟩ = some (.int .i64 x.2) := by
  obtain ⟨b, off, e, h0, h1⟩ := h.sp.cells 0 x rfl
  have hn := h.sp.n
  have hle := h.sp.le
  rw [List.length_cons] at hn
  exact ⟨b, off, n - 1, e, by omega, by omega, by omega, h.sp.big, h0, h1⟩
theorem SpF.nil {w : World} {F : Nat → Prop} {a : Option Addr} {n c : Nat} (h : SpF w F a n c []) : n = 0 := h.sp.n.symm

/-- Spans that may be rise. -/
theorem spans_rise : ∀ (A : List (Int × Int)) (last : Int) (x : Int × Int) (R : List (Int × Int)), spansFrom last (A ++ x :: R) = true → (0 ≤ x.1 ∧ 1 ≤ x.2 ∧ x.1 + x.2 ≤ 20000) ∧ spansFrom (x.1 - 1) (x :: R) = true
  | [], last, (f, n), R, h => by
    rw [List.nil_append, spansFrom_cons] at h
    simp only [Bool.and_eq_true, decide_eq_true_eq] at h
    obtain ⟨h1, h2⟩ := h
    refine ⟨by dsimp only; omega, ?_⟩
    rw [spansFrom_cons]
    simp only [Bool.and_eq_true, decide_eq_true_eq]
    exact ⟨by omega, h2⟩
  | (f, n) :: A, last, x, R, h => by
    rw [List.cons_append, spansFrom_cons] at h
    simp only [Bool.and_eq_true] at h
    exact spans_rise A _ x R h.2
theorem hasPl_append (a b : List (Int × Int)) (i : Nat) : hasPl (a ++ b) i = (hasPl a i || hasPl b i) := by unfold hasPl; rw [List.any_append]
theorem hasPl_one (x : Int × Int) (i : Nat) : hasPl [x] i = decide (x.1 ≤ (i : Int) ∧ (i : Int) < x.1 + x.2) := by simp [hasPl]
theorem hasPl_ahead {a : List (Int × Int)} {p : Nat} (h : ∀ x ∈ a, x.1 + x.2 ≤ p) (i : Nat) (hi : p ≤ i) : hasPl a i = false := by
  unfold hasPl
  rw [List.any_eq_false]
  intro x hx
  have := h x hx
  simp; omega
/-- Spans from a place on have no place ahead of it. -/
theorem hasPl_behind {A R : List (Int × Int)} {x : Int × Int} {last : Int} (h : spansFrom last (A ++ x :: R) = true) (i : Nat) (hi : (i : Int) < x.1) : hasPl (x :: R) i = false :=
  hasPl_past (x :: R) (x.1 - 1) i (spans_rise A last x R h).2 (by omega)
/-- A cell of a block is gone. -/
theorem own_gone {w : World} {P : Nat → Bool} {c : List CellV} {gc capc n i : Nat} (h : w.ownsRow 0 53 5 (.slice (some ⟨gc, 0, none⟩) n capc) n (flat CellV.cs (markP P c))) (hn : n = c.length) (hi : i < n) :
    (w.setCell ⟨gc, i * 5 + 4, none⟩ (.bool true)).ownsRow 0 53 5 (.slice (some ⟨gc, 0, none⟩) n capc) n (flat CellV.cs (markP (fun j => P j || decide (j = i)) c)) := by
  rcases ownsRow_blk h with ⟨e, _, _⟩ | ⟨g, cap, more, e, _, hb, h1, h2, h3⟩
  · cases e
  cases e
  obtain ⟨y, hy⟩ : ∃ y, (markP P c)[i]? = some y := ⟨(markP P c)[i]'(by rw [markP_len]; omega), by simp⟩
  obtain ⟨x, hx⟩ : ∃ x, c[i]? = some x := ⟨c[i]'(by omega), by simp⟩
  have e : (markP P c).set i (goneC y) = markP (fun j => P j || decide (j = i)) c := by
    rw [markP_set P c i x hx]
    rw [markP_get, hx] at hy
    simp only [Option.map_some, Option.some.injEq] at hy
    subst hy
    split <;> rfl
  have hb' := hb.set (i * 5 + 4) (.bool true)
  rw [flat_gone _ _ y hy, e] at hb'
  have l1 : (flat CellV.cs (markP (fun j => P j || decide (j = i)) c)).length = n * 5 := by rw [flat_length CellV.len, markP_len, hn]
  have l2 : (flat CellV.cs (markP P c)).length = n * 5 := by rw [flat_length CellV.len, markP_len, hn]
  exact blk_ownsRow (Nat.zero_le _) hb' l1 h1 h2 (by omega)
theorem own_form {w : World} {v : Value} {n : Nat} {xs : List Value} (h : w.ownsRow 0 53 5 v n xs) (hn : 0 < n) : ∃ g cap, v = .slice (some ⟨g, 0, none⟩) n cap ∧ n ≤ cap ∧ cap ≤ maxLen ∧ g < w.heap.size ∧ (∀ j, j < n * 5 → (w.cell? ⟨g, j, none⟩).isSome = true) ∧ ∀ j, w.frozen? ⟨g, j, none⟩ = false := by
  have hl := h.1
  rcases ownsRow_blk h with ⟨_, h0, _⟩ | ⟨g, cap, more, e, _, hb, h1, h2, h3⟩
  · omega
  · refine ⟨g, cap, e, h1, h2, hb.lt, fun j hj => ?_, fun j => hb.frozen j⟩
    rw [hb.cell, List.getElem?_append_left (by omega)]
    rw [List.getElem?_eq_getElem (by omega)]; rfl
end Go.Proofs.YtjgjjlolhdlofaaGreatDoor

namespace Go.Proofs.YtjgjjlolhdlofaaGreatDoor
open Go.RowKit Go.Shelf Go.Mine

set_option maxHeartbeats 4000000 in
set_option maxRecDepth 1000000 in
theorem mark_any (w : World) (D MB : Nat) (v : Value) (bl : List BV) (sa : Option Addr) (slen scap : Nat) (l : List (Int × Int)) (h : DocV w D v MB bl) (hlen : (cellsOf bl).length ≤ 1099511627776)
    (hs : SpF w (foot D v bl) sa slen scap l) (hok : spansOk l = true) :
    Calls Tryz.prog 95 #[.pointer (some ⟨D, 0, none⟩), .slice sa slen scap] w fun e w' => e = .returned (.tuple #[]) ∧ Mod (foot D v bl) w w' ∧ DocV w' D v MB (markBl l 0 bl) := by
  obtain ⟨F, hF⟩ : ∃ F, F = foot D v bl := ⟨_, rfl⟩
  rw [← hF] at hs ⊢
  obtain ⟨va, vc, rfl, hvc, hvm⟩ := h.form
  unfold maxLen at hvm
  have cd : w.cell? ⟨D, 0, none⟩ = some (.slice va bl.length vc) := h.doc.cell 0
  have H := Lib.hid (show DocV w D (.slice va bl.length vc) MB (markBl l 0 (bl.take 0) ++ bl.drop 0) from h)
  have HS := Lib.hid hs
  have HOK := Lib.hid hok
  have HF := Lib.hid hF
  have HP := Lib.hid (show ∃ pre : List (Int × Int), l = pre ++ l ∧ ∀ x ∈ pre, x.1 + x.2 ≤ ((cellsOf (bl.take 0)).length : Int) from ⟨[], rfl, by simp⟩)
  clear h hs hok hF
  go_enter Tryz.func95, Tryz.ntmps95
  go_wp2_with fail
  go_loopg [1, 4, 16] bl.length (fun g s1 s4 s16 wx => ∃ (k n' c' : Nat) (a' : Option Addr) (r : List (Int × Int)), g = bl.length - k ∧ s1 = .slice a' n' c' ∧ s4 = .int .i64 ((cellsOf (bl.take k)).length : Int) ∧ s16 = .int .i64 k ∧ k ≤ bl.length ∧ Mod F w wx ∧ RowKit.Hid (SpF wx F a' n' c' r) ∧ RowKit.Hid (∃ pre, l = pre ++ r ∧ ∀ x ∈ pre, x.1 + x.2 ≤ ((cellsOf (bl.take k)).length : Int)) ∧ RowKit.Hid (DocV wx D (.slice va bl.length vc) MB (markBl l 0 (bl.take k) ++ bl.drop k)))
  case atStart => exact ⟨0, slen, scap, sa, l, rfl, rfl, rfl, rfl, Nat.zero_le _, Mod.refl _ _, HS, HP, H⟩
  case round =>
    obtain ⟨k, n', c', a', r, rfl, rfl, rfl, rfl, hk, mx, hsp, hpre, hdoc⟩ := hrel
    have MX := Lib.hid mx
    by_cases hlk : k < bl.length
    · obtain ⟨x, hx⟩ : ∃ x, bl[k]? = some x := ⟨bl[k]'hlk, by simp⟩
      have hdr : bl.drop k = x :: bl.drop (k + 1) := by
        obtain ⟨hk', e⟩ := List.getElem?_eq_some_iff.1 hx
        rw [List.drop_eq_getElem_cons hk', e]
      have hdx := hdoc.out
      rw [hdr] at hdx
      have hLx : (markBl l 0 (bl.take k) ++ x :: bl.drop (k + 1))[k]? = some x := by
        have e : (markBl l 0 (bl.take k)).length = k := by rw [markBl_len, List.length_take]; omega
        rw [List.getElem?_append_right (by omega), e, Nat.sub_self]; rfl
      obtain ⟨g, rfl, c0⟩ := hdx.at_ hLx
      have hxm : x ∈ markBl l 0 (bl.take k) ++ x :: bl.drop (k + 1) := by simp
      have hbx := hdx.blk x hxm
      have b0 : wr.cell? ⟨x.p, 0, none⟩ = some (.int .i64 (x.c.length : Int)) := by rw [hbx.b.cell]; rfl
      have b2 : wr.cell? ⟨x.p, 2, none⟩ = some x.v := by rw [hbx.b.cell]; rfl
      have hs1 := cellsOf_step hx
      have e1 : (cellsOf bl).length = (cellsOf (bl.take k)).length + (x.c.length + (cellsOf (bl.drop (k + 1))).length) := by rw [hs1]; simp
      obtain ⟨p, hp⟩ : ∃ p, p = (cellsOf (bl.take k)).length := ⟨_, rfl⟩
      rw [← hp] at hpre e1 ⊢
      obtain ⟨n, hn⟩ : ∃ n, n = x.c.length := ⟨_, rfl⟩
      rw [← hn] at b0 e1
      have hpn : p + n ≤ 1099511627776 := by omega
      have HDX := Lib.hid hdx
      have HBX := Lib.hid hbx
      have HX := Lib.hid hx
      have HPP := Lib.hid hp
      have HN := Lib.hid hn
      have HDR := Lib.hid hdr
      clear hdx hbx hx hdr hLx hxm hs1 e1 hp hn mx
      obtain ⟨wo, rfl⟩ : ∃ wo : World, wo = wr := ⟨_, rfl⟩
      clear cd
      go_upto_block 2 with fail
      go_cut [1, 16] from 16 to 104 (fun s1 s16 wx => s16 = .int .i64 k ∧ ∃ (n2 c2 : Nat) (a2 : Option Addr) (r2 : List (Int × Int)), s1 = .slice a2 n2 c2 ∧ Mod none_ wo wx ∧ RowKit.Hid (SpF wo F a2 n2 c2 r2) ∧ RowKit.Hid (∃ pre, l = pre ++ r2 ∧ ∀ x ∈ pre, x.1 + x.2 ≤ (p : Int)))
      case first =>
        go_wp2_with fail
        go_loopg [1] n' (fun g' s1 wx => ∃ (n2 c2 : Nat) (a2 : Option Addr) (r2 : List (Int × Int)), n2 = g' ∧ s1 = .slice a2 n2 c2 ∧ Mod none_ wo wx ∧ RowKit.Hid (SpF wo F a2 n2 c2 r2) ∧ RowKit.Hid (∃ pre, l = pre ++ r2 ∧ ∀ x ∈ pre, x.1 + x.2 ≤ (p : Int)))
        case atStart => exact ⟨n', c', a', r, rfl, rfl, Mod.refl _ _, hsp, hpre⟩
        case round =>
          obtain ⟨n2, c2, a2, r2, rfl, rfl, my, hsp2, hpre2⟩ := hrel
          have MY := Lib.hid my
          cases r2 with
          | nil =>
            have h0 := hsp2.out.nil
            have hd : decide (0 < n2) = false := by simp [h0]
            have hd2 : decide ((0 : Int) < (n2 : Int)) = false := by simp [h0]
            clear h0
            go_wp2_with fail
            go_quiet (fail)
            go_wp2_with fail
            go_meet
            exact ⟨rfl, n2, c2, a2, [], rfl, MY.out.drewN _, hsp2, hpre2⟩
          | cons y r2 =>
            obtain ⟨b, off, m, rfl, rfl, hrl, hmc, hcm, y0, y1⟩ := hsp2.out.head
            unfold maxLen at hcm
            have hd : decide (0 < m + 1) = true := by simp
            have hd2 : decide ((0 : Int) < ((m + 1 : Nat) : Int)) = true := by simp
            have y0' := my.cell (fun e => e) y0
            have y1' := my.cell (fun e => e) y1
            obtain ⟨f, nn⟩ := y
            dsimp only at y0 y1 y0' y1'
            have hfn : 0 ≤ f ∧ 1 ≤ nn ∧ f + nn ≤ 20000 := by
              obtain ⟨pre, e, _⟩ := hpre2.out
              have := HOK.out
              unfold spansOk at this
              rw [e] at this
              exact (spans_rise _ _ _ _ this).1
            have hw : IntKind.i64.wrap (f + nn) = f + nn := by rw [IntKind.wrap_i64]; omega
            by_cases hle : f + nn ≤ (p : Int)
            · have hd3 : decide (f + nn ≤ (p : Int)) = true := by simpa using hle
              have HN2 := Lib.hid (show ∃ pre, l = pre ++ r2 ∧ ∀ x ∈ pre, x.1 + x.2 ≤ (p : Int) by
                obtain ⟨pre, e, hh⟩ := hpre2.out
                refine ⟨pre ++ [(f, nn)], by rw [e]; simp, fun x hx => ?_⟩
                rcases List.mem_append.1 hx with hx | hx
                · exact hh x hx
                · rw [List.mem_singleton.1 hx]; exact hle)
              have HT := Lib.hid hsp2.out.tail
              clear y0 y1 my hsp2 hpre2
              by_cases hc1 : c2 = 1
              · subst hc1
                have hs3 := Lib.hid (HT.out.1 rfl)
                go_wp2_with fail
                go_quiet (fail)
                go_wp2_with fail
                go_roundg m
                case measure => omega
                case rel => exact ⟨m, 0, _, r2, rfl, by rw [show m = 0 by omega], MY.out.drewN _, hs3, HN2⟩
              · have hs3 := Lib.hid (HT.out.2 hc1)
                go_wp2_with fail
                go_quiet (fail)
                go_wp2_with fail
                go_roundg m
                case measure => omega
                case rel => exact ⟨m, c2 - 1, _, r2, rfl, rfl, MY.out.drewN _, hs3, HN2⟩
            · have hd3 : decide (f + nn ≤ (p : Int)) = false := by simpa using hle
              clear y0 y1 my
              go_wp2_with fail
              go_quiet (fail)
              go_wp2_with fail
              go_meet
              exact ⟨rfl, m + 1, c2, _, _, rfl, MY.out.drewN _, hsp2, hpre2⟩
      case rest =>
        obtain ⟨rfl, n2, c2, a2, r2, rfl, my, hsp2, hpre2⟩ := hcut
        obtain ⟨w5, rfl⟩ : ∃ w5 : World, w5 = wc := ⟨_, rfl⟩
        obtain ⟨O, hO⟩ : ∃ O : Nat → Prop, O = fun b => x.v.ownBlock = some b := ⟨_, rfl⟩
        have hOF : ∀ b, O b → F b := by
          intro b hb
          rw [hO] at hb
          rw [HF.out]
          exact .inr (.inr ⟨x, List.mem_of_getElem? HX.out, .inr hb⟩)
        have HOF := Lib.hid hOF
        have HO := Lib.hid hO
        have c0' := my.cell (fun e => e) c0
        have x0 := my.cell (fun e => e) b0
        have x2 := my.cell (fun e => e) b2
        have HB0 := Lib.hid (HBX.out.mod my (fun e => e) (fun _ _ e => e))
        have HS2 := Lib.hid (hsp2.out.mod my (fun _ e => e.elim))
        have MXC := Lib.hid (MX.out.trans (my.mono (T := F) (fun _ _ e => e.elim)))
        have HD2 := Lib.hid (HDX.out.grown my)
        have h0 : x.c = markS [] p x.c := by unfold markS; rw [markP_none]; intro i _; rfl
        have HR0 := Lib.hid (show ∃ pre, l = pre ++ r2 ∧ w5.ownsRow 0 53 5 x.v n (flat CellV.cs (markS pre p x.c)) by
          obtain ⟨pre, e, hh⟩ := hpre2.out
          refine ⟨pre, e, ?_⟩
          have : markS pre p x.c = x.c := by
            unfold markS
            rw [markP_none]
            intro i _
            exact hasPl_ahead hh _ (by omega)
          rw [this, HN.out]
          exact HB0.out.o)
        have HPRE := hpre2
        clear hO hOF c0 b0 b2 my hsp2 hpre2 h0
        go_upto_block 4 with fail
        go_cut [7, 8, 9, 10, 16] from 16 to 104 (fun s7 s8 s9 s10 s16 wx => s16 = .int .i64 k ∧ Mod O w5 wx ∧ RowKit.Hid (wx.ownsRow 0 53 5 x.v n (flat CellV.cs (markS l p x.c))))
        case first =>
          go_wp2_with fail
          go_loopg [7, 8, 9, 10] n2 (fun g' s7 s8 s9 s10 wx => ∃ (n3 c3 : Nat) (a3 : Option Addr) (r3 : List (Int × Int)), n3 = g' ∧ s7 = .slice a3 n3 c3 ∧ Mod O w5 wx ∧ RowKit.Hid (SpF wx F a3 n3 c3 r3) ∧ RowKit.Hid (∃ pre, l = pre ++ r3 ∧ wx.ownsRow 0 53 5 x.v n (flat CellV.cs (markS pre p x.c))))
          case atStart => exact ⟨n2, c2, a2, r2, rfl, rfl, Mod.refl _ _, HS2, HR0⟩
          case round =>
            obtain ⟨n3, c3, a3, r3, rfl, rfl, mz, hsp3, hpre3⟩ := hrel
            have hxO : ¬ O x.p := fun e => by
              rw [HO.out] at e
              obtain ⟨cs, hc⟩ := HB0.out.apart_arr e
              exact Blk.apart HB0.out.b hc (by decide) rfl
            have z0 := mz.cell hxO x0
            have z2 := mz.cell hxO x2
            have MZ := Lib.hid mz
            cases r3 with
            | nil =>
              have h0 := hsp3.out.nil
              have hd : decide (0 < n3) = false := by simp [h0]
              have hd2 : decide ((0 : Int) < (n3 : Int)) = false := by simp [h0]
              have FIN := Lib.hid (show wr.ownsRow 0 53 5 x.v n (flat CellV.cs (markS l p x.c)) by
                obtain ⟨pre, e, hh⟩ := hpre3.out
                rw [List.append_nil] at e
                rw [e]; exact hh)
              clear h0 mz hxO
              go_wp2_with fail
              go_quiet (fail)
              go_wp2_with fail
              go_meet
              exact ⟨rfl, MZ.out.drewN _, Lib.hid (ownsRow_mod FIN.out ((Mod.refl none_ wr).drewN _) (fun _ _ e => e))⟩
            | cons y r3 =>
              obtain ⟨b, off, m, rfl, rfl, hrl, hmc, hcm, y0, y1⟩ := hsp3.out.head
              unfold maxLen at hcm
              have hd : decide (0 < m + 1) = true := by simp
              have hd2 : decide ((0 : Int) < ((m + 1 : Nat) : Int)) = true := by simp
              obtain ⟨f, nn⟩ := y
              dsimp only at y0 y1
              have hfn : 0 ≤ f ∧ 1 ≤ nn ∧ f + nn ≤ 20000 := by
                obtain ⟨pre, e, _⟩ := hpre3.out
                have := HOK.out
                unfold spansOk at this
                rw [e] at this
                exact (spans_rise _ _ _ _ this).1
              have hw : IntKind.i64.wrap ((p : Int) + n) = (p : Int) + n := by rw [IntKind.wrap_i64]; omega
              by_cases hle : f < (p : Int) + n
              · have hd3 : decide (f < (p : Int) + n) = true := by simpa using hle
                go_wp2_with fail
                go_quiet (fail)
                go_wp2_with fail
                generalize hwq : wr.drewN nq = wq
                have q0 : wq.cell? ⟨x.p, 0, none⟩ = some (.int .i64 (n : Int)) := by rw [← hwq]; exact ((Mod.refl none_ wr).drewN nq).cell (fun e => e) z0
                have q2 : wq.cell? ⟨x.p, 2, none⟩ = some x.v := by rw [← hwq]; exact ((Mod.refl none_ wr).drewN nq).cell (fun e => e) z2
                have q3 : wq.cell? ⟨b, off, none⟩ = some (.int .i64 f) := by rw [← hwq]; exact ((Mod.refl none_ wr).drewN nq).cell (fun e => e) y0
                have q4 : wq.cell? ⟨b, off + 1, none⟩ = some (.int .i64 nn) := by rw [← hwq]; exact ((Mod.refl none_ wr).drewN nq).cell (fun e => e) y1
                have MQ : RowKit.Hid (Mod O w5 wq) := by rw [← hwq]; exact Lib.hid (MZ.out.drewN nq)
                have HSQ : RowKit.Hid (SpF wq F (some ⟨b, off, none⟩) (m + 1) c3 ((f, nn) :: r3)) := by rw [← hwq]; exact Lib.hid (hsp3.out.mod ((Mod.refl none_ wr).drewN nq) (fun _ e => e.elim))
                have HPQ : RowKit.Hid (∃ pre, l = pre ++ (f, nn) :: r3 ∧ wq.ownsRow 0 53 5 x.v n (flat CellV.cs (markS pre p x.c))) := by
                  obtain ⟨pre, e, hh⟩ := hpre3.out
                  refine Lib.hid ⟨pre, e, ?_⟩
                  rw [← hwq]; exact ownsRow_mod hh ((Mod.refl none_ wr).drewN nq) (fun _ _ e => e)
                clear hwq z0 z2 y0 y1 mz hpre3 hsp3 MZ hd3 hd hd2 hw
                have hw1 : IntKind.i64.wrap (f - (p : Int)) = f - (p : Int) := by rw [IntKind.wrap_i64]; omega
                have hw2 : IntKind.i64.wrap (f + nn) = f + nn := by rw [IntKind.wrap_i64]; omega
                have hw3 : IntKind.i64.wrap (f + nn - (p : Int)) = f + nn - (p : Int) := by rw [IntKind.wrap_i64]; omega
                go_quiet (fail)
                go_wp2_with fail
                clear q0 q3 q4 hw1 hw2 hw3
                generalize hwk : wq.drewN nq = wk
                have k2 : wk.cell? ⟨x.p, 2, none⟩ = some x.v := by rw [← hwk]; exact ((Mod.refl none_ wq).drewN nq).cell (fun e => e) q2
                have MK := Lib.hid (show Mod O w5 wk by rw [← hwk]; exact MQ.out.drewN nq)
                have HSK := Lib.hid (show SpF wk F (some ⟨b, off, none⟩) (m + 1) c3 ((f, nn) :: r3) by rw [← hwk]; exact HSQ.out.mod ((Mod.refl none_ wq).drewN nq) (fun _ e => e.elim))
                obtain ⟨pre, hpe, hrq⟩ := HPQ.out
                have HPE := Lib.hid hpe
                obtain ⟨fr, hfr⟩ : ∃ fr : Nat, max (f - (p : Int)) 0 = (fr : Int) := ⟨(max (f - (p : Int)) 0).toNat, by omega⟩
                rw [hfr]
                generalize hT : min (f + nn - (p : Int)) (n : Int) = T
                have HRK := Lib.hid (show wk.ownsRow 0 53 5 x.v n (flat CellV.cs (markP (fun j => hasPl pre (p + j) || decide (fr ≤ j ∧ j < fr)) x.c)) by
                  rw [← hwk]
                  have e : markP (fun j => hasPl pre (p + j) || decide (fr ≤ j ∧ j < fr)) x.c = markS pre p x.c := markP_congr (fun i _ => by
                    have : decide (fr ≤ i ∧ i < fr) = false := by simp
                    rw [this, Bool.or_false])
                  rw [e]; exact ownsRow_mod hrq ((Mod.refl none_ wq).drewN nq) (fun _ _ e => e))
                have HFT := Lib.hid (show max (f - (p : Int)) 0 = (fr : Int) ∧ min (f + nn - (p : Int)) (n : Int) = T from ⟨hfr, hT⟩)
                have hfrb : (fr : Int) ≤ 20000 := by omega
                have hTn : T ≤ n := by omega
                clear hwk q2 hpe hrq hfr hT MQ HSQ HPQ
                go_loopg [10] (T - fr).toNat (fun g' s10 wx => ∃ i : Nat, g' = (T - i).toNat ∧ s10 = .int .i64 i ∧ (i = fr ∨ (i : Int) ≤ T) ∧ fr ≤ i ∧ Mod O wk wx ∧ RowKit.Hid (wx.ownsRow 0 53 5 x.v n (flat CellV.cs (markP (fun j => hasPl pre (p + j) || decide (fr ≤ j ∧ j < i)) x.c))))
                case atStart => exact ⟨fr, rfl, rfl, .inl rfl, Nat.le_refl _, Mod.refl _ _, HRK⟩
                case round =>
                  obtain ⟨i, rfl, rfl, hi1, hi2, mi, hri⟩ := hrel
                  have i2 := mi.cell hxO k2
                  have MI := Lib.hid mi
                  have hib : (i : Int) ≤ 1099511627776 := by omega
                  by_cases hlt : (i : Int) < T
                  · have hd4 : decide ((i : Int) < T) = true := by simpa using hlt
                    have hin : i < n := by omega
                    obtain ⟨gc, capc, hv, hc1, hc2, hgl, hce, hfz⟩ := own_form hri.out (by omega)
                    rw [hv] at i2
                    unfold maxLen at hc2
                    obtain ⟨old, hold⟩ := Option.isSome_iff_exists.1 (hce (i * 5 + 4) (by omega))
                    have hfi := hfz (i * 5 + 4)
                    have hin2 : (i : Int) < (n : Int) := by omega
                    have E := Lib.hid (show (wr.setCell ⟨gc, i * 5 + 4, none⟩ (.bool true)).ownsRow 0 53 5 x.v n (flat CellV.cs (markP (fun j => hasPl pre (p + j) || decide (fr ≤ j ∧ j < i + 1)) x.c)) by
                      have hh := hri.out
                      rw [hv] at hh ⊢
                      have := own_gone hh HN.out hin
                      have e : markP (fun j => hasPl pre (p + j) || decide (fr ≤ j ∧ j < i + 1)) x.c = markP (fun j => (hasPl pre (p + j) || decide (fr ≤ j ∧ j < i)) || decide (j = i)) x.c := markP_congr (fun j _ => by
                        rw [Bool.or_assoc]
                        congr 1
                        rw [Bool.eq_iff_iff]
                        simp; omega)
                      rw [e]; exact this)
                    have ME := Lib.hid (show Mod O wk (wr.setCell ⟨gc, i * 5 + 4, none⟩ (.bool true)) from mi.setCell _ (fun _ => by rw [HO.out]; show x.v.ownBlock = _; rw [hv]; rfl) _)
                    clear hfz hce mi hri
                    go_wp2_with fail
                    go_roundg (T - ((i + 1 : Nat) : Int)).toNat
                    case measure => omega
                    case rel => exact ⟨i + 1, rfl, by go_num, by omega, by omega, ME.out, E⟩
                  · have hd4 : decide ((i : Int) < T) = false := by simpa using hlt
                    have HT := Lib.hid (HSK.out.mod mi HOF.out).tail
                    have hft := HFT.out
                    have HPR := Lib.hid (show ∃ pre, l = pre ++ r3 ∧ wr.ownsRow 0 53 5 x.v n (flat CellV.cs (markS pre p x.c)) by
                      refine ⟨pre ++ [(f, nn)], by rw [HPE.out]; simp, ?_⟩
                      have e : markS (pre ++ [(f, nn)]) p x.c = markP (fun j => hasPl pre (p + j) || decide (fr ≤ j ∧ j < i)) x.c := by
                        unfold markS
                        refine markP_congr (fun j hj => ?_)
                        rw [← HN.out] at hj
                        rw [hasPl_append, hasPl_one]
                        congr 1
                        rw [Bool.eq_iff_iff]
                        simp; omega
                      rw [e]; exact hri.out)
                    have MII := Lib.hid (MK.out.trans mi)
                    clear hri mi hft hlt
                    by_cases hc1 : c3 = 1
                    · subst hc1
                      have hs3 := Lib.hid (HT.out.1 rfl)
                      go_wp2_with fail
                      go_roundg m
                      case measure => omega
                      case rel => exact ⟨m, 0, _, r3, rfl, by rw [show m = 0 by omega], MII.out, hs3, HPR⟩
                    · have hs3 := Lib.hid (HT.out.2 hc1)
                      go_wp2_with fail
                      go_roundg m
                      case measure => omega
                      case rel => exact ⟨m, c3 - 1, _, r3, rfl, rfl, MII.out, hs3, HPR⟩
              · have hd3 : decide (f < (p : Int) + n) = false := by simpa using hle
                have FIN := Lib.hid (show wr.ownsRow 0 53 5 x.v n (flat CellV.cs (markS l p x.c)) by
                  obtain ⟨pre, e, hh⟩ := hpre3.out
                  have : markS l p x.c = markS pre p x.c := by
                    unfold markS
                    refine markP_congr (fun i hi => ?_)
                    rw [← HN.out] at hi
                    have hok := HOK.out
                    unfold spansOk at hok
                    rw [e] at hok ⊢
                    rw [hasPl_append, hasPl_behind hok (p + i) (by dsimp only; omega), Bool.or_false]
                  rw [this]; exact hh)
                clear mz hxO
                go_wp2_with fail
                go_quiet (fail)
                go_wp2_with fail
                go_meet
                exact ⟨rfl, MZ.out.drewN _, Lib.hid (ownsRow_mod FIN.out ((Mod.refl none_ wr).drewN _) (fun _ _ e => e))⟩
        case rest =>
          obtain ⟨rfl, mz, hrow⟩ := hcut
          obtain ⟨w8, rfl⟩ : ∃ w8 : World, w8 = wc := ⟨_, rfl⟩
          have hxO : ¬ O x.p := fun e => by
            rw [HO.out] at e
            obtain ⟨cs, hc⟩ := HB0.out.apart_arr e
            exact Blk.apart HB0.out.b hc (by decide) rfl
          have z0 := mz.cell hxO x0
          have z2 := mz.cell hxO x2
          have kz := Lib.hid (HB0.out.b.mod mz hxO)
          have hno : x.v.ownBlock ≠ some x.p := fun e => hxO (by rw [HO.out]; exact e)
          have MZ := Lib.hid mz
          have HNO := Lib.hid hno
          have hmn : (markS l p x.c).length = n := by rw [markS_len, HN.out]
          have HMN := Lib.hid hmn
          clear hxO x0 x2 mz hno hmn
          go_wp2_with fail
          refine (count_any w8 x.p 0 _ _ x.v n (markS l p x.c) (by have := kz.out; exact this) hrow.out HNO.out HMN.out (by omega)).mono ?_
          rintro e w9 ⟨rfl, kc, mc⟩
          have HROW := Lib.hid (ownsRow_mod hrow.out mc (fun g hg e => HNO.out (by have e' : g = x.p := e; rw [hg, e'])))
          have E1 := Lib.hid (show ((cellsOf (bl.take (k + 1))).length : Int) = (p : Int) + n by
            rw [cellsOf_succ HX.out, List.length_append, HPP.out, HN.out]; simp)
          have hxb : x ∈ bl := List.mem_of_getElem? HX.out
          have m59 : Mod (fun b => b = x.p ∨ x.v.ownBlock = some b) w5 w9 := (MZ.out.mono (fun b _ hb => .inr (by rw [HO.out] at hb; exact hb))).trans (mc.mono (fun b _ hb => .inl hb))
          have hxF : ∀ b, (b = x.p ∨ x.v.ownBlock = some b) → F b := by
            intro b hb
            rw [HF.out]
            exact .inr (.inr ⟨x, hxb, hb⟩)
          have MF := Lib.hid (MXC.out.trans (m59.mono (fun b _ => hxF b)))
          have SF := Lib.hid (HS2.out.mod m59 hxF)
          have PF := Lib.hid (show ∃ pre, l = pre ++ r2 ∧ ∀ x ∈ pre, x.1 + x.2 ≤ ((cellsOf (bl.take (k + 1))).length : Int) by
            obtain ⟨pre, e, hh⟩ := HPRE.out
            exact ⟨pre, e, fun y hy => by have := hh y hy; rw [E1.out]; omega⟩)
          have DF := Lib.hid (show DocV w9 D (.slice (some ⟨g, 0, none⟩) bl.length vc) MB (markBl l 0 (bl.take (k + 1)) ++ bl.drop (k + 1)) by
            have hy : BlkV w9 ⟨x.p, x.v, markS l p x.c⟩ := ⟨by rw [HMN.out]; exact kc, by rw [HMN.out]; exact HROW.out⟩
            have := HD2.out.upd (y := ⟨x.p, x.v, markS l p x.c⟩) m59 hy rfl (fun g hg => .inl hg)
            obtain ⟨hk', e⟩ := List.getElem?_eq_some_iff.1 HX.out
            rw [List.take_succ_eq_append_getElem hk', e, markBl_append, Nat.zero_add, ← HPP.out, List.append_assoc]
            exact this)
          clear kc mc m59 hxF hxb
          go_wp2_with fail
          go_roundg (bl.length - (k + 1))
          case measure => omega
          case rel => exact ⟨k + 1, n2, c2, a2, r2, rfl, rfl, by rw [E1.out], by go_num, by omega, MF.out, SF, PF, DF⟩
    · obtain rfl : k = bl.length := by omega
      have DF := Lib.hid (show DocV wr D (.slice va bl.length vc) MB (markBl l 0 bl) by
        have := hdoc.out
        rw [List.take_length, List.drop_length, List.append_nil] at this
        exact this)
      clear hdoc mx
      go_wp2_with fail
      go_end0
      exact ⟨rfl, MX.out, DF.out⟩

end Go.Proofs.YtjgjjlolhdlofaaGreatDoor

namespace Go.Proofs.YtjgjjlolhdlofaaGreatDoor
open Go.RowKit Go.Shelf Go.Mine
open Classical

/-- The parts, behind i cells that lie in them. -/
def PartI (w : World) (a : Option Addr) (len cap : Nat) (l : List CellV) (D bs bn : Nat) (i : Nat) (W : World) : Prop :=
  Mod none_ w W ∧ Blk W bs [.slice a len cap] 22 ∧ Blk W bn [.int .i64 64] 3 ∧
    ∃ v bl, Blk W D [v] 137 ∧ DocBs W w.heap.size v bl ∧ bl.flatMap Prod.snd = l.take i ∧ bl.length * 64 = i ∧ Apart W bl ∧ ∀ y ∈ bl, y.2 ≠ []
theorem PartI.stable {w : World} {a : Option Addr} {len cap : Nat} {l : List CellV} {D bs bn B : Nat} (hB : w.heap.size ≤ B) (i : Nat) (W W' : World) (h : PartI w a len cap l D bs bn i W) (m : Mod (loopOwn B W) W W') : PartI w a len cap l D bs bn i W' := by
  obtain ⟨m0, k2, k3, v, bl, kd, hdb, e, e2, hap⟩ := h
  exact ⟨m0.transOwn m hB, k2.own m, k3.own m, v, bl, kd.own m, hdb.own m, e, e2, hap.1.mod hdb.2 m (fun k cs hk s => by have := s.2 _ hk; cases this), hap.2⟩

/-- What append and newBlock leave behind them. -/
theorem partArm {w W w3 : World} {D p nb vc : Nat} {va : Option Addr} {ptrs : List Value} (ho : W.ownsRow w.heap.size 141 1 (.slice va nb vc) nb ptrs) (hnb : nb ≤ 1099511627776) (hB : w.heap.size ≤ W.heap.size) (m3 : Mod none_ W.drew w3)
    (kd : Blk W D [.slice va nb vc] 137) :
    ∃ va' vc' w4, (appSem #[137, 137] 137 #[.slice va nb vc, .slice (some ⟨w3.heap.size, 0, none⟩) 1 1]).run Tryz.prog (w3.alloc (.cells #[.pointer (some ⟨p, 0, none⟩)] 141)) = .ok (.slice va' (nb + 1) vc') w4 ∧
      w4.ownsRow w.heap.size 141 1 (.slice va' (nb + 1) vc') (nb + 1) (ptrs ++ [.pointer (some ⟨p, 0, none⟩)]) ∧ Mod (fun k => (Value.slice va nb vc).ownBlock = some k) w3 w4 ∧ Blk w4 D [.slice va nb vc] 137 := by
  have hsz : W.heap.size ≤ w3.heap.size := m3.size
  obtain ⟨va', vc', w4, hrun, hown, hgrow⟩ := appPtr (p := p) (ownsRow_mod ho ((Mod.drew (Mod.refl none_ W)).trans m3) (fun _ _ e => e)) hnb (by omega)
  have mg : Mod (fun k => (Value.slice va nb vc).ownBlock = some k) w3 w4 := ((Mod.refl _ w3).alloc (.cells #[.pointer (some ⟨p, 0, none⟩)] 141)).grown hgrow (fun k e _ => e)
  refine ⟨va', vc', w4, hrun, hown, mg, (kd.drew.mod m3 (fun e => e)).mod mg (fun e => ?_)⟩
  obtain ⟨cs, hk⟩ := ownsRow_type ho e
  exact Blk.apart kd hk (by decide) rfl

/-- A round. -/
theorem partEnd {w W w3 w4 : World} {a : Option Addr} {len cap D bs bn x p nb vc vc' : Nat} {va va' : Option Addr} {l : List CellV} {bl : List (Nat × List CellV)} (hD : w.heap.size ≤ D) (hN : l.length = len)
    (m0 : Mod none_ w W) (ks : Blk W bs [.slice a len cap] 22) (kn : Blk W bn [.int .i64 64] 3)
    (ho : W.ownsRow w.heap.size 141 1 (.slice va nb vc) nb (bl.map fun x => .pointer (some ⟨x.1, 0, none⟩))) (hbl : ∀ x ∈ bl, BlkIs W w.heap.size x.1 x.2) (hfl : bl.flatMap Prod.snd = l.take x) (hbn : bl.length * 64 = x) (hap : Apart W bl ∧ ∀ y ∈ bl, y.2 ≠ []) (hxl : x < len) (hnb : nb = bl.length)
    (m3 : Mod none_ W.drew w3) (hB : BlkIs w3 W.drew.heap.size p ((l.drop x).take (min 64 (len - x)))) (hown : w4.ownsRow w.heap.size 141 1 (.slice va' (nb + 1) vc') (nb + 1) ((bl.map fun x => .pointer (some ⟨x.1, 0, none⟩)) ++ [.pointer (some ⟨p, 0, none⟩)]))
    (mg : Mod (fun k => (Value.slice va nb vc).ownBlock = some k) w3 w4) (k4 : Blk w4 D [.slice va nb vc] 137) :
    KeepsOthers W (w4.setCell ⟨D, 0, none⟩ (.slice va' (nb + 1) vc')) ∧ PartI w a len cap l D bs bn (x + 64) (w4.setCell ⟨D, 0, none⟩ (.slice va' (nb + 1) vc')) := by
  have ht : ∀ {k : Nat}, (Value.slice va nb vc).ownBlock = some k → ∃ cs, Blk W k cs 141 := fun e => ownsRow_type ho e
  have m4 : Mod (fun k => (Value.slice va nb vc).ownBlock = some k) W w4 := ((Mod.drew (Mod.refl none_ W)).trans m3).mono (T := fun k => (Value.slice va nb vc).ownBlock = some k) (fun _ _ e => e.elim) |>.trans mg
  have hge : ∀ k, (Value.slice va nb vc).ownBlock = some k → w.heap.size ≤ k := fun k hk => (ho.lt k hk).1
  have ms : Mod (one D) w4 (w4.setCell ⟨D, 0, none⟩ (.slice va' (nb + 1) vc')) := (Mod.refl (one D) w4).setCell ⟨D, 0, none⟩ (fun _ => rfl) _
  have k5 := k4.set 0 (.slice va' (nb + 1) vc')
  have far : ∀ {b : Nat} {cs : List Value} {t : TypeId}, Blk W b cs t → t ≠ 141 → b ≠ D → Blk (w4.setCell ⟨D, 0, none⟩ (.slice va' (nb + 1) vc')) b cs t := fun hb h1 h2 =>
    (hb.mod m4 (fun e => by obtain ⟨cs, hk⟩ := ht e; exact Blk.apart hb hk h1 rfl)).mod ms h2
  have ne : ∀ {b : Nat} {cs : List Value} {t : TypeId}, Blk W b cs t → t ≠ 141 → t ≠ 137 → b ≠ D := fun hb h0 h1 e => by
    subst e
    exact Blk.apart (hb.mod m4 (fun e => by obtain ⟨cs, hk⟩ := ht e; exact Blk.apart hb hk h0 rfl)) k4 h1 rfl
  refine ⟨(keeps_of_mod m4 (fun k hk o ho' => ?_)).trans (KeepsOthers.setCell _ _ _), ?_, far ks (by decide) (ne ks (by decide) (by decide)), far kn (by decide) (ne kn (by decide) (by decide)), .slice va' (nb + 1) vc', bl ++ [(p, (l.drop x).take (min 64 (len - x)))], k5, ⟨?_, ?_⟩, ?_, ?_, ?_, ?_⟩
  · obtain ⟨cs, hb⟩ := ht hk
    unfold Blk at hb
    rw [hb] at ho'
    cases ho'
    rfl
  · exact (m0.transIn m4 (fun k hk e => absurd (hge k e) (by omega))).transIn ms (fun k hk e => by have e' : k = D := e; omega)
  · have e1 : (bl ++ [(p, (l.drop x).take (min 64 (len - x)))]).length = nb + 1 := by simp [hnb]
    rw [e1, List.map_append]
    refine ownsRow_mod hown ms (fun k hk e => ?_)
    have e' : k = D := e
    subst e'
    obtain ⟨cs, hb⟩ := ownsRow_type hown hk
    exact Blk.apart hb k4 (by decide) rfl
  · intro y hy
    rcases List.mem_append.1 hy with hy | hy
    · refine ((hbl y hy).mod m4 (fun k cs t hk ht' e => ?_)).mod ms (fun k cs t hk ht' e => ?_)
      · obtain ⟨cs', hb⟩ := ht e
        exact Blk.apart hk hb (by rcases ht' with rfl | rfl <;> decide) rfl
      · have e' : k = D := e
        subst e'
        exact Blk.apart hk k4 (by rcases ht' with rfl | rfl <;> decide) rfl
    · rw [List.mem_singleton.1 hy]
      have hsz := m0.size
      refine ((hB.base (B' := w.heap.size) hsz).mod mg (fun k cs t hk ht' e => ?_)).mod ms (fun k cs t hk ht' e => ?_)
      · obtain ⟨cs', hb⟩ := ht e
        exact Blk.apart hk ((hb.drew).mod m3 (fun e => e)) (by rcases ht' with rfl | rfl <;> decide) rfl
      · have e' : k = D := e
        subst e'
        exact Blk.apart hk k4 (by rcases ht' with rfl | rfl <;> decide) rfl
  · rw [List.flatMap_append, hfl]
    simp only [List.flatMap_cons, List.flatMap_nil, List.append_nil]
    rw [List.take_add, List.append_cancel_left_eq, List.take_eq_take_iff, List.length_drop]
    omega
  · rw [List.length_append, List.length_singleton]
    omega
  · have keep : ∀ {q : Nat} {cs : List Value}, Blk w3 q cs 145 → (w4.setCell ⟨D, 0, none⟩ (.slice va' (nb + 1) vc')).heap[q]? = w3.heap[q]? := fun {q cs} hq => by
      rw [ms.block q (Nat.lt_of_lt_of_le hq.lt mg.size) (fun e => ?_), mg.block q hq.lt (fun e => ?_)]
      · obtain ⟨cs', hb⟩ := ht e
        exact Blk.apart hq ((hb.drew).mod m3 (fun e => e)) (by decide) rfl
      · have e' : q = D := e
        subst e'
        exact Blk.apart (hq.mod mg (fun e => by obtain ⟨cs', hb⟩ := ht e; exact Blk.apart hq ((hb.drew).mod m3 (fun e => e)) (by decide) rfl)) k4 (by decide) rfl
    have ap3 : Apart w3 bl := Apart.of_heap (W := W) (fun y hy => by obtain ⟨⟨v, k, _⟩, _⟩ := hbl y hy; exact ((Mod.drew (Mod.refl none_ W)).trans m3).block _ k.lt (fun e => e)) hap.1
    have hb3 : ∀ y ∈ bl, BlkIs w3 w.heap.size y.1 y.2 := fun y hy => (hbl y hy).grown ((Mod.drew (Mod.refl none_ W)).trans m3)
    refine List.pairwise_append.2 ⟨Apart.of_heap (W := w3) (fun y hy => by obtain ⟨⟨v, k, _⟩, _⟩ := hb3 y hy; exact keep k) ap3, List.pairwise_singleton _ _, fun y hy z hz => ?_⟩
    rw [List.mem_singleton.1 hz]
    have hlo : W.heap.size ≤ p := hB.lo
    have hy1 := (hbl y hy).lt
    refine ⟨by show y.1 ≠ p; omega, fun g h1 h2 => ?_⟩
    obtain ⟨⟨v1, k1, _⟩, _⟩ := hb3 y hy
    obtain ⟨⟨v2, k2, _⟩, _⟩ := id hB
    have a1 := h1.of_heap (keep k1)
    have a2 := hB.arr (h2.of_heap (keep k2))
    have a3 := (hbl y hy).arr (a1.of_heap (((Mod.drew (Mod.refl none_ W)).trans m3).block _ hy1 (fun e => e)))
    have : W.drew.heap.size = W.heap.size := rfl
    omega
  · intro y hy
    rcases List.mem_append.1 hy with hy | hy
    · exact hap.2 y hy
    · rw [List.mem_singleton.1 hy]
      intro e
      have := congrArg List.length e
      simp only [List.length_take, List.length_drop, List.length_nil, hN] at this
      omega
end Go.Proofs.YtjgjjlolhdlofaaGreatDoor

namespace Go.Mine
open Go.RowKit

theorem setRow_mod (w : World) (g : Nat) (cs : Array Value) : Mod (one g) w (w.setRow g cs) :=
  ⟨rfl, rfl, rfl, by rw [setRow_size]; exact Nat.le_refl _, fun k _ hk => setRow_other w g k cs hk⟩
theorem run_copyN {P : Program} {w : World} {T E t : TypeId} {i0 : TypeInfo} {sz : Nat} (hu : P.underlying T = some (.slice E)) (hi : P.info? E = some i0) (hs : i0.size = sz)
    (ty : TypeId) (g o dLen dCap : Nat) (a : Addr) (sLen sCap : Nat) (cur cs : List Value) (hg : Blk w g cur t) (hn : cs.length = Nat.min sLen dLen * sz)
    (hsrc : ∀ j v, cs[j]? = some v → w.cell? (a.add j) = some v) (hfit : o + cs.length ≤ cur.length) (h1 : ∀ v ∈ cs, v.oneCell' = true) :
    ∃ w', (Builtin.copy_ #[T, T] ty #[.slice (some ⟨g, o, none⟩) dLen dCap, .slice (some a) sLen sCap]).run P w = .ok (goInt (Nat.min sLen dLen)) w' ∧ Blk w' g (cur.take o ++ cs ++ cur.drop (o + cs.length)) t ∧ Mod (one g) w w' := by
  have hl := run_loadCells_list (P := P) w a cs hsrc
  have hst := run_storeCells_at P g o t cs 0 cur.toArray w hg (by simpa using hfit) h1
  refine ⟨w.setRow g (cur.toArray.toList.take (o + 0) ++ cs ++ cur.toArray.toList.drop (o + 0 + cs.length)).toArray, ?_, ?_, setRow_mod w g _⟩
  · simp only [Builtin.copy_]
    simp [run_underlying hu, Builtin.lenOf, Builtin.firstCells, sizeOf, typeInfo, hi, hs, ← hn, hl, hst]
  · have := setRow_heap w g cur.toArray (cur.toArray.toList.take (o + 0) ++ cs ++ cur.toArray.toList.drop (o + 0 + cs.length)).toArray t (0, 0) hg
    unfold Blk
    rw [this]; simp
theorem Blk.shape {w : World} {b : Nat} {cs : List Value} {t : TypeId} (h : Blk w b cs t) : w.shape? b = some (t, cs.length) := by
  unfold Blk at h
  simp [World.shape?, h]
theorem Blk.row {w : World} {b : Nat} {cs : List Value} {t : TypeId} (h : Blk w b cs t) (k j : Nat) (v : Value) (hv : (cs.drop k)[j]? = some v) : w.cell? ((⟨b, k, none⟩ : Addr).add j) = some v := by
  rw [Addr.add_lit, h.cell, ← List.getElem?_drop]; exact hv
/-- append, and where its row lies: where it lay, or in new memory. -/
theorem append_fresh {P : Program} {w : World} {base : Nat} {t ty e : TypeId} {i : TypeInfo} {z : Value} {size bytes : Nat} (ht : P.underlying t = some (.slice e)) (hi : P.info? e = some i) (hz : i.zero = some z)
    (hsize : i.size = size) (hby : i.bytes = bytes) (hzs : z.cells.size = size) (hsz : 0 < size)
    {v : Value} {n : Nat} {xs : List Value} (hown : w.ownsRow base e size v n xs)
    (a : Addr) (m c : Nat) (news : List Value) (hl : news.length = m * size) (hnews : ∀ j u, news[j]? = some u → w.cell? (a.add j) = some u) (h1 : ∀ u ∈ news, u.oneCell' = true)
    (h63 : n + m ≤ maxLen) (hbytes : (n + m) * bytes ≤ 140737488355328) (hbase : base ≤ w.heap.size) (hm : 0 < m) :
    ∃ v' w', (Builtin.append_ #[t, t] ty #[v, .slice (some a) m c]).run P w = .ok v' w' ∧ w'.ownsRow base e size v' (n + m) (xs ++ news) ∧ w.grownBy w' v.ownBlock ∧ ∀ g, v'.ownBlock = some g → v.ownBlock = some g ∨ w.heap.size ≤ g := by
  obtain ⟨v', w', hrun, ho, hg, _⟩ := run_append_own (P := P) w base t ty e i z size bytes ht hi hz hsize hby hzs hsz v n xs hown a m c news hl hnews h1 h63 hbytes hbase
  refine ⟨v', w', hrun, ho, hg, ?_⟩
  subst hsize
  have hs : Src P i.size t (.slice (some a) m c) m news w := Src.ofSlice (w := w) ht a m c news hl hnews h1
  unfold maxLen at h63
  rcases ownsRow_blk hown with ⟨rfl, rfl, rfl⟩ | ⟨g, cap, more, rfl, _, hb, hnc, hcm, hln⟩
  · have := run_append_grow_src (P := P) (w := w) t t ty e i z ht hi hz none 0 0 [] (by simpa using run_firstCells_none (P := P) w.drew i.size 0 0 0) _ m news hs (by omega) (by omega) (growslice_fits (by omega) (by rw [hby]; simpa using hbytes))
    rw [this] at hrun
    cases hrun
    intro g hg
    cases hg
    exact .inr (Nat.le_refl _)
  · have hxl := hown.1
    by_cases hroom : n + m ≤ cap
    · have h2 : n * i.size + news.length ≤ cap * i.size := by
        rw [hl, ← Nat.add_mul]; exact Nat.mul_le_mul_right _ hroom
      have := run_append_room (P := P) w t ty e i ht hi g n cap (xs ++ more).toArray hb a m c news hl hnews h1 hroom (by simp; omega)
      rw [this] at hrun
      cases hrun
      intro g' hg'
      exact .inl hg'
    · have hold : (Builtin.firstCells i.size n (.slice (some ⟨g, 0, none⟩) n cap)).run P w.drew = .ok xs.toArray w.drew := run_firstCells_some (P := P) w.drew i.size n ⟨g, 0, none⟩ n cap xs hxl (fun j u hu => by
        rw [Addr.add_lit, Nat.zero_add]
        have := hb.cell j
        rw [List.getElem?_append_left (List.getElem?_eq_some_iff.1 hu).1, hu] at this
        exact this)
      have := run_append_grow_src (P := P) (w := w) t t ty e i z ht hi hz (some ⟨g, 0, none⟩) n cap xs hold _ m news hs (by omega) (by omega) (growslice_fits (by omega) (by rw [hby]; exact hbytes))
      rw [this] at hrun
      cases hrun
      intro g' hg'
      cases hg'
      exact .inr (Nat.le_refl _)
end Go.Mine

namespace Go.Proofs.YtjgjjlolhdlofaaGreatDoor
open Go.RowKit Go.Shelf Go.Mine

theorem size_drewN (w : World) : ∀ n : Nat, (w.drewN n).heap.size = w.heap.size
  | 0 => rfl
  | n + 1 => size_drewN w n
/-- What Replace leaves. -/
def RepTo (w : World) (B : Nat) (v : Value) (k : Nat) (l : List Value) (e : Ending) (w' : World) : Prop :=
  ∃ v', e = .returned v' ∧ w'.ownsRow B 141 1 v' k l ∧ Mod (fun b => v.ownBlock = some b) w w' ∧ ∀ g, v'.ownBlock = some g → v.ownBlock = some g ∨ w.heap.size ≤ g

set_option maxHeartbeats 2000000 in
set_option maxRecDepth 1000000 in
theorem repEnd_any (w : World) (B g cap k m vb vc : Nat) (ps vs more vmore : List Value) (hb : Blk w g (ps ++ more) 141) (hBg : B ≤ g) (hB : B ≤ w.heap.size) (hn : ps.length = k + 1) (hl : k + 1 + more.length = cap) (hs : Blk w vb (vs ++ vmore) 141) (hm : vs.length = m) (h0 : 2 ≤ m) (hbig : k + m ≤ 4398046511104) (hcm : cap ≤ maxLen) (h1 : ∀ u ∈ vs, u.oneCell' = true) :
    Calls Tryz.prog 120 #[.slice (some ⟨g, 0, none⟩) (k + 1) cap, .int .i64 (k : Int), .int .i64 ((k : Int) + 1), .slice (some ⟨vb, 0, none⟩) m vc] w (RepTo w B (.slice (some ⟨g, 0, none⟩) (k + 1) cap) (k + m) (ps.take k ++ vs)) := by
  obtain ⟨L, hL⟩ : ∃ L, L = ps.take k ++ vs := ⟨_, rfl⟩
  rw [← hL]
  have hcm0 := hcm
  unfold maxLen at hcm
  obtain ⟨i0, hi0, hz0, hz1, hz2⟩ := info_parts infoPtr
  have hpre : w.ownsRow B 141 1 (.slice (some ⟨g, 0, none⟩) k cap) k (ps.take k) := by
    refine blk_ownsRow hBg (more := ps.drop k ++ more) (by rw [← List.append_assoc, List.take_append_drop]; exact hb) (by rw [List.length_take]; omega) (by omega) hcm0 (by simp [hn]; omega)
  obtain ⟨v', w', hrun, ho, hg, hf⟩ := append_fresh (P := Tryz.prog) (ty := 137) Tryz.underlying137 hi0 hz0 hz1 hz2 rfl (by decide) hpre ⟨vb, 0, none⟩ m vc vs (by omega) (fun j u hu => by rw [Addr.add_lit, Nat.zero_add, hs.cell, List.getElem?_append_left (List.getElem?_eq_some_iff.1 hu).1]; exact hu) h1 (by unfold maxLen; omega) (by omega) hB (by omega)
  obtain ⟨va', vc', hv'⟩ : ∃ va' vc', v' = .slice va' (k + m) vc' := by
    rcases ownsRow_blk ho with ⟨_, e, _⟩ | ⟨g, c', _, e, _⟩
    · omega
    · exact ⟨_, _, e⟩
  subst hv'
  have FIN : RepTo w B (.slice (some ⟨g, 0, none⟩) (k + 1) cap) (k + m) L (.returned (.slice va' (k + m) vc')) w' := ⟨_, rfl, by rw [hL]; exact ho, (Mod.refl _ w).grown hg (fun k e _ => e), hf⟩
  have FIN := Lib.hid FIN
  have HR := Lib.hid hrun
  have hd1 : ((k : Int) == (k : Int) + 1) = false := by simp; omega
  have hd2 : ((k : Int) + 1 == ((k + 1 : Nat) : Int)) = true := by simp
  have hd3 : decide (k + m < k + 1) = false := by simp; omega
  have hd4 : decide (((k + m : Nat) : Int) < ((k + 1 : Nat) : Int)) = false := by simp; omega
  have htn : ((k : Int) + 1).toNat = k + 1 := by omega
  have hb1 : (0 : Int) ≤ (k : Int) + 1 := by omega
  have hcn : ¬ (cap = k) := by omega
  clear ho hg hf hrun hb hs hi0 hz0 hz1 hz2 hL hpre
  go_enter Tryz.func120, Tryz.ntmps120
  go_wp2_with (at_builtin; refine Lib.wpList_append_run _ rfl (.tmp 32) (.tmp 33) 137 137 rfl _ _ rfl rfl _ _ HR.out ?_)
  go_ret
  exact FIN.out

theorem repList {ps vs more : List Value} {n k m cap : Nat} (hk : k + 1 ≤ n) (hn : ps.length = n) (hm : vs.length = m) (h0 : 1 ≤ m) (hr : k + m + (n - (k + 1)) ≤ cap) (hl : n + more.length = cap) :
    ((ps ++ more).take (k + m) ++ ps.drop (k + 1) ++ (ps ++ more).drop (k + m + (ps.drop (k + 1)).length)).take k ++ vs ++ ((ps ++ more).take (k + m) ++ ps.drop (k + 1) ++ (ps ++ more).drop (k + m + (ps.drop (k + 1)).length)).drop (k + vs.length) =
    (ps.take k ++ vs ++ ps.drop (k + 1)) ++ (ps ++ more).drop (k + m + (n - (k + 1))) := by
  have lc : (ps ++ more).length = cap := by rw [List.length_append, hn]; exact hl
  have e0 : (ps ++ more).take k = ps.take k := List.take_append_of_le_length (by omega)
  have l1 : (ps.drop (k + 1)).length = n - (k + 1) := by rw [List.length_drop, hn]
  rw [l1, hm]
  generalize ps ++ more = cur at *
  have hX : (cur.take (k + m)).length = k + m := by rw [List.length_take]; omega
  rw [List.append_assoc (cur.take (k + m))]
  rw [List.take_append_of_le_length (by rw [hX]; omega), List.take_take, show min k (k + m) = k by omega, e0]
  have e1 : ∀ t : List Value, (cur.take (k + m) ++ t).drop (k + m) = t := fun t => by
    conv => lhs; rw [← hX]
    rw [hX]
    have := List.drop_left (l₁ := cur.take (k + m)) (l₂ := t)
    rw [hX] at this; exact this
  rw [e1]
  simp only [List.append_assoc]
theorem repList2 {ps vs R : List Value} {n k m : Nat} (_hk : k + 1 ≤ n) (hn : ps.length = n) (hm : vs.length = m) (hR : k + m + (n - (k + 1)) ≤ R.length) (ht : R.take k = ps.take k) :
    (R.take k ++ vs ++ R.drop (k + vs.length)).take (k + m) ++ ps.drop (k + 1) ++ (R.take k ++ vs ++ R.drop (k + vs.length)).drop (k + m + (ps.drop (k + 1)).length) =
    (ps.take k ++ vs ++ ps.drop (k + 1)) ++ R.drop (k + m + (n - (k + 1))) := by
  have l1 : (ps.drop (k + 1)).length = n - (k + 1) := by rw [List.length_drop, hn]
  have hX : (R.take k ++ vs).length = k + m := by rw [List.length_append, List.length_take, hm]; omega
  rw [List.take_append_of_le_length (by rw [hX]; exact Nat.le_refl _), List.take_of_length_le (by rw [hX]; exact Nat.le_refl _)]
  rw [List.drop_append, hX, List.drop_of_length_le (l := R.take k ++ vs) (by rw [hX]; omega), List.nil_append, List.drop_drop, l1, hm]
  rw [show k + m + (k + m + (n - (k + 1)) - (k + m)) = k + m + (n - (k + 1)) by omega, ht]

set_option maxHeartbeats 4000000 in
set_option maxRecDepth 1000000 in
theorem repShift_any (w : World) (B g cap n k m vb vc T : Nat) (ps vs more vmore : List Value) (hb : Blk w g (ps ++ more) 141) (hBg : B ≤ g) (hn : ps.length = n) (hk : k + 1 < n) (hl : n + more.length = cap) (hs : Blk w vb (vs ++ vmore) 141) (hne : vb ≠ g) (hm : vs.length = m) (h0 : 2 ≤ m) (hT : T = k + m + (n - (k + 1))) (hroom : T ≤ cap) (hcm : cap ≤ maxLen) (h1 : ∀ u ∈ vs, u.oneCell' = true) (h2 : ∀ u ∈ ps, u.oneCell' = true) :
    Calls Tryz.prog 120 #[.slice (some ⟨g, 0, none⟩) n cap, .int .i64 (k : Int), .int .i64 ((k : Int) + 1), .slice (some ⟨vb, 0, none⟩) m vc] w (RepTo w B (.slice (some ⟨g, 0, none⟩) n cap) T (ps.take k ++ vs ++ ps.drop (k + 1))) := by
  obtain ⟨L, hL⟩ : ∃ L, L = ps.take k ++ vs ++ ps.drop (k + 1) := ⟨_, rfl⟩
  rw [← hL]
  have hcm0 := hcm
  unfold maxLen at hcm
  obtain ⟨i0, hi0, hz0, hz1, hz2⟩ := info_parts infoPtr
  have l1 : (ps.drop (k + 1)).length = n - (k + 1) := by rw [List.length_drop, hn]
  have HB := Lib.hid hb
  have HSV := Lib.hid hs
  have HLL := Lib.hid hL
  have HTT := Lib.hid hT
  have hd1 : ((k : Int) == (k : Int) + 1) = false := by simp; omega
  have hd2 : ((k : Int) + 1 == (n : Int)) = false := by simp; omega
  have hd3 : decide ((cap : Int) < (T : Int)) = false := by simp; omega
  have hd4 : decide ((k : Int) + m ≤ (k : Int) + 1) = false := by simp; omega
  have htn : ((k : Int) + 1).toNat = k + 1 := by omega
  have htm : ((k : Int) + m).toNat = k + m := by omega
  have hb1' : (0 : Int) ≤ (k : Int) + 1 := by omega
  have hb2' : (0 : Int) ≤ (k : Int) + m := by omega
  have hb3' : (k : Int) + 1 ≤ (n : Int) := by omega
  have hb4' : (k : Int) + m ≤ (T : Int) := by omega
  have hcn : ¬ (cap = k) := by omega
  have hcn1 : ¬ (cap = k + 1) := by omega
  have hcn2 : ¬ (cap = k + m) := by omega
  have hw1 : IntKind.i64.wrap ((k : Int) + m) = (k : Int) + m := by rw [IntKind.wrap_i64]; omega
  have hw2 : IntKind.i64.wrap ((k : Int) + m + ((n - (k + 1) : Nat) : Int)) = (T : Int) := by rw [IntKind.wrap_i64]; omega
  have hkn : k ≤ n := by omega
  have hkT : k ≤ T := by omega
  have HI0 := Lib.hid hi0
  have HZ1 := Lib.hid hz1
  have L1 := Lib.hid l1
  clear hs hi0 hz0 hz1 hz2 l1 hb hL hT
  go_enter Tryz.func120, Tryz.ntmps120
  go_wp2_with fail
  go_quiet (fail)
  have mq : Mod none_ w (w.drewN nq) := (Mod.refl _ w).drewN nq
  have hbq := HB.out.mod mq (fun e => e)
  have hsq := HSV.out.mod mq (fun e => e)
  generalize w.drewN nq = wq at mq hbq hsq ⊢
  have hi0 := HI0.out
  have hz1 := HZ1.out
  have l1 := L1.out
  have hL := HLL.out
  have hT := HTT.out
  have hov : ∀ la lb ca cb, (callFunc 130 #[.slice (some ⟨g, k + m, none⟩) la ca, .slice (some ⟨vb, 0, none⟩) lb cb]).run Tryz.prog wq = .ok (.value (.bool false)) wq := fun la lb ca cb => by
    rw [run_callFunc_extern Tryz.func130 (by kernel_rfl) (by kernel_rfl) (by kernel_rfl) (e := Extern.SlicesOverlaps.overlaps #[137, 137] #[4]) (by kernel_rfl),
      Lib.run_overlaps_apart wq 137 4 141 Tryz.underlying137 1 (fun w => by simp [sizeOf, typeInfo, hi0, hz1]) ⟨g, k + m, none⟩ ⟨vb, 0, none⟩ la ca lb cb (fun e => hne e.symm) _ _ _ _ hbq.shape hsq.shape (by rw [List.length_append]; omega) (hbq.frozen _) (hbq.frozen _)]
    rfl
  obtain ⟨w1, hc1, hb1, m1⟩ := run_copyN (P := Tryz.prog) (w := wq.drew) (sz := 1) Tryz.underlying137 hi0 hz1 3 g (k + m) (T - (k + m)) (cap - (k + m)) ⟨g, k + 1, none⟩ (n - (k + 1)) (cap - (k + 1)) _ (ps.drop (k + 1)) hbq.drew (by rw [l1]; simp only [Nat.min_def]; split <;> omega)
    (fun j u hu => by
      rw [Addr.add_lit]
      have := hbq.cell (k + 1 + j)
      rw [List.getElem?_drop] at hu
      rw [List.getElem?_append_left (List.getElem?_eq_some_iff.1 hu).1, hu] at this
      exact this) (by rw [List.length_append, l1]; omega) (fun u hu => h2 u (List.mem_of_mem_drop hu))
  have hs1 := (hsq.drew).mod m1 hne
  obtain ⟨w2, hc2, hb2, m2⟩ := run_copyN (P := Tryz.prog) (w := w1) (sz := 1) Tryz.underlying137 hi0 hz1 3 g k (T - k) (cap - k) ⟨vb, 0, none⟩ m vc _ vs hb1 (by rw [hm]; simp only [Nat.min_def]; split <;> omega)
    (fun j u hu => by rw [Addr.add_lit, Nat.zero_add, hs1.cell, List.getElem?_append_left (List.getElem?_eq_some_iff.1 hu).1]; exact hu) (by simp only [List.length_append, List.length_take, List.length_drop, hm, hn]; omega) h1
  rw [repList (by omega) hn hm (by omega) (by omega) hl, ← hL] at hb2
  have hLl : L.length = T := by rw [hL]; simp [hn, hm]; omega
  have FIN : RepTo w B (.slice (some ⟨g, 0, none⟩) n cap) T L (.returned (.slice (some ⟨g, 0, none⟩) T cap)) w2 := by
    refine ⟨_, rfl, blk_ownsRow hBg hb2 (by omega) hroom hcm0 ?_, (((mq.mono (fun _ _ e => e.elim)).drew).trans (m1.mono ?_)).trans (m2.mono ?_), fun g' e => .inl e⟩
    · rw [hLl, List.length_drop, List.length_append, hn]; omega
    · intro k _ e
      have e' : k = g := e
      rw [e']; rfl
    · intro k _ e
      have e' : k = g := e
      rw [e']; rfl
  have FIN := Lib.hid FIN
  have HC1 := Lib.hid hc1
  have HC2 := Lib.hid hc2
  clear hb1 m1 hb2 m2 hs1 hc1 hc2 hi0 hz1 l1 hL hLl hT hbq hsq mq
  go_wp2_with (simp only [hov])
  go_region_law (refine step_copy_runI rfl _ _ 137 137 rfl _ _ (by simp [Act.eval, Act.put]) (by simp [Act.eval, Act.put]) HC1.out ?_)
  have hc2 := HC2.out
  go_wp2_with fail
  go_ret
  exact FIN.out

set_option maxHeartbeats 4000000 in
set_option maxRecDepth 1000000 in
theorem repGrow_any (w : World) (B g cap n k m vb vc T : Nat) (ps vs more vmore : List Value) (hb : Blk w g (ps ++ more) 141) (hB : B ≤ w.heap.size) (hn : ps.length = n) (hk : k + 1 < n) (hnc : n ≤ cap) (hs : Blk w vb (vs ++ vmore) 141) (hm : vs.length = m) (h0 : 2 ≤ m) (hT : T = k + m + (n - (k + 1))) (hroom : cap < T) (hbig : T ≤ 4398046511104) (hcm : cap ≤ maxLen) (h1 : ∀ u ∈ vs, u.oneCell' = true) (h2 : ∀ u ∈ ps, u.oneCell' = true) :
    Calls Tryz.prog 120 #[.slice (some ⟨g, 0, none⟩) n cap, .int .i64 (k : Int), .int .i64 ((k : Int) + 1), .slice (some ⟨vb, 0, none⟩) m vc] w (RepTo w B (.slice (some ⟨g, 0, none⟩) n cap) T (ps.take k ++ vs ++ ps.drop (k + 1))) := by
  obtain ⟨L, hL⟩ : ∃ L, L = ps.take k ++ vs ++ ps.drop (k + 1) := ⟨_, rfl⟩
  rw [← hL]
  unfold maxLen at hcm
  obtain ⟨i0, hi0, hz0, hz1, hz2⟩ := info_parts infoPtr
  have HB := Lib.hid hb
  have HSV := Lib.hid hs
  have HLL := Lib.hid hL
  have HTT := Lib.hid hT
  have hd1 : ((k : Int) == (k : Int) + 1) = false := by simp; omega
  have hd2 : ((k : Int) + 1 == (n : Int)) = false := by simp; omega
  have hd3 : decide ((cap : Int) < (T : Int)) = true := by simp; omega
  have htn : ((k : Int) + 1).toNat = k + 1 := by omega
  have htm : ((k : Int) + m).toNat = k + m := by omega
  have hb1' : (0 : Int) ≤ (k : Int) + 1 := by omega
  have hb2' : (0 : Int) ≤ (k : Int) + m := by omega
  have hb3' : (k : Int) + 1 ≤ (n : Int) := by omega
  have hb4' : (k : Int) + m ≤ (T : Int) := by omega
  have hcn : ¬ (cap = k) := by omega
  have hcn1 : ¬ (cap = k + 1) := by omega
  have hw1 : IntKind.i64.wrap ((k : Int) + m) = (k : Int) + m := by rw [IntKind.wrap_i64]; omega
  have hw2 : IntKind.i64.wrap ((k : Int) + m + ((n - (k + 1) : Nat) : Int)) = (T : Int) := by rw [IntKind.wrap_i64]; omega
  have hkn : k ≤ n := by omega
  have hkT : k ≤ T := by omega
  have HI0 := Lib.hid hi0
  have HZ0 := Lib.hid hz0
  have HZ1 := Lib.hid hz1
  have HZ2 := Lib.hid hz2
  clear hs hi0 hz0 hz1 hz2 hb hL hT
  go_enter Tryz.func120, Tryz.ntmps120
  go_wp2_with fail
  go_quiet (fail)
  have mq : Mod none_ w (w.drewN nq) := (Mod.refl _ w).drewN nq
  have hbq := HB.out.mod mq (fun e => e)
  have hsq := HSV.out.mod mq (fun e => e)
  have hsz : (w.drewN nq).heap.size = w.heap.size := size_drewN w nq
  generalize w.drewN nq = wq at mq hbq hsq hsz ⊢
  have hi0 := HI0.out
  have hz0 := HZ0.out
  have hz1 := HZ1.out
  have hz2 := HZ2.out
  have hL := HLL.out
  have hT := HTT.out
  have l1 : (ps.drop (k + 1)).length = n - (k + 1) := by rw [List.length_drop, hn]
  have l3 : (ps.take k).length = k := by rw [List.length_take, hn]; omega
  have hold : (Builtin.firstCells i0.size k (.slice (some ⟨g, 0, none⟩) k cap)).run Tryz.prog wq.drew = .ok (ps.take k).toArray wq.drew := by
    rw [hz1]
    exact run_firstCells_some wq.drew 1 k ⟨g, 0, none⟩ k cap _ (by rw [l3]; omega) (fun j u hu => by
      rw [Addr.add_lit, Nat.zero_add]
      have := hbq.drew.cell j
      rw [List.getElem?_take] at hu
      split at hu
      · rw [List.getElem?_append_left (List.getElem?_eq_some_iff.1 hu).1, hu] at this
        exact this
      · cases hu)
  have hkk : (T : Int) - (k : Int) = ((T - k : Nat) : Int) := by omega
  have hik : k + (T - k) = T := by omega
  have hrz := Lib.run_append_grow_zeros (P := Tryz.prog) wq 137 3 137 141 i0 _ .i64 .i64 Tryz.underlying137 Tryz.underlying3 hi0 hz0 (some ⟨g, 0, none⟩) k cap _ hold (T - k) (by omega) (by omega) (by omega) (by omega) (by rw [hz2]; omega) (by rw [hz2, hik]; exact growslice_fits (by omega) (by omega))
  rw [hik, ← hkk] at hrz
  obtain ⟨G, hG⟩ : ∃ G, G = grownCap wq T cap 141 := ⟨_, rfl⟩
  have hGn : T ≤ G := by rw [hG]; exact grownCap_ge wq _ _ _
  have hGm : G ≤ maxLen := by rw [hG]; exact grownCap_le_maxLen wq T cap _ (by unfold maxLen; omega)
  have hG63 : G ≤ 9223372036854775807 := by unfold maxLen at hGm; omega
  rw [← hG] at hrz
  have hzl : ∀ k, (Builtin.zeroCells (Value.pointer none).cells k).size = k := fun k => by rw [size_zeroCells]; simp [Value.cells]
  obtain ⟨R, hR⟩ : ∃ R : List Value, R = ps.take k ++ (Builtin.zeroCells (Value.pointer none).cells (T - k)).toList ++ (Builtin.zeroCells (Value.pointer none).cells (G - T)).toList := ⟨_, rfl⟩
  have hRA : (ps.take k).toArray ++ Builtin.zeroCells (Value.pointer none).cells (T - k) ++ Builtin.zeroCells (Value.pointer none).cells (G - T) = R.toArray := by
    rw [hR]; simp
  have hRl : R.length = G := by
    rw [hR]
    simp only [List.length_append, l3, Array.length_toList, hzl]
    omega
  have hRt : R.take k = ps.take k := by
    rw [hR, List.append_assoc]
    have := List.take_left (l₁ := ps.take k) (l₂ := (Builtin.zeroCells (Value.pointer none).cells (T - k)).toList ++ (Builtin.zeroCells (Value.pointer none).cells (G - T)).toList)
    rw [l3] at this; exact this
  rw [hRA] at hrz
  have b0 : Blk (wq.drew.alloc (.cells R.toArray 141)) wq.heap.size R 141 := Blk.new (w := wq.drew)
  have m0 : Mod none_ wq (wq.drew.alloc (.cells R.toArray 141)) := (Mod.drew (Mod.refl _ wq)).alloc _
  have hs0 := hsq.mod m0 (fun e => e)
  have hb0 := hbq.mod m0 (fun e => e)
  generalize wq.drew.alloc (.cells R.toArray 141) = w1 at hrz b0 m0 hs0 hb0
  obtain ⟨N, hN⟩ : ∃ N, N = wq.heap.size := ⟨_, rfl⟩
  have hgN : g ≠ N := by have := hbq.lt; omega
  have hvN : vb ≠ N := by have := hsq.lt; omega
  rw [← hN] at hrz b0
  obtain ⟨w2, hc1, hb1, m1⟩ := run_copyN (P := Tryz.prog) (w := w1) (sz := 1) Tryz.underlying137 hi0 hz1 3 N k (T - k) (G - k) ⟨vb, 0, none⟩ m vc R vs b0 (by rw [hm]; simp only [Nat.min_def]; split <;> omega)
    (fun j u hu => by rw [Addr.add_lit, Nat.zero_add, hs0.cell, List.getElem?_append_left (List.getElem?_eq_some_iff.1 hu).1]; exact hu) (by rw [hRl, hm]; omega) h1
  have hb2 := (hb0.mod m1 hgN).drew
  obtain ⟨w3, hc2, hb3, m2⟩ := run_copyN (P := Tryz.prog) (w := w2.drew) (sz := 1) Tryz.underlying137 hi0 hz1 3 N (k + m) (T - (k + m)) (G - (k + m)) ⟨g, k + 1, none⟩ (n - (k + 1)) (cap - (k + 1)) _ (ps.drop (k + 1)) hb1.drew (by rw [l1]; simp only [Nat.min_def]; split <;> omega)
    (fun j u hu => by
      rw [Addr.add_lit]
      have := hb2.cell (k + 1 + j)
      rw [List.getElem?_drop] at hu
      rw [List.getElem?_append_left (List.getElem?_eq_some_iff.1 hu).1, hu] at this
      exact this) (by simp only [List.length_append, List.length_take, List.length_drop, hm, hn, hRl]; omega) (fun u hu => h2 u (List.mem_of_mem_drop hu))
  rw [repList2 (by omega) hn hm (by omega) hRt, ← hL] at hb3
  have hLl : L.length = T := by rw [hL]; simp [hn, hm]; omega
  have FIN : RepTo w B (.slice (some ⟨g, 0, none⟩) n cap) T L (.returned (.slice (some ⟨N, 0, none⟩) T G)) w3 := by
    refine ⟨_, rfl, blk_ownsRow (by omega) hb3 (by omega) hGn hGm ?_, ?_, fun g' e => ?_⟩
    · rw [hLl, List.length_drop, hRl]; omega
    · have far : ∀ k, k < wq.heap.size → one N k → False := fun k hk e => by have e' : k = N := e; omega
      exact (mq.trans ((m0.transIn m1 far).drew.transIn m2 far)).mono (fun _ _ e => e.elim)
    · have e' : N = g' := by simpa [Value.ownBlock] using e
      right; omega
  have FIN := Lib.hid FIN
  have HC1 := Lib.hid hc1
  have HC2 := Lib.hid hc2
  have HRZ := Lib.hid hrz
  have hcn3 : ¬ (G = k + m) := by omega
  have hcn4 : ¬ (G = k) := by omega
  clear hL hb1 m1 hb2 m2 hc1 hc2 hi0 hz0 hz1 hz2 l1 l3 hb0 hs0 b0 m0 hb3 hkk hik hold hG hzl hR hRA hRl hRt hrz hN hLl hbq hsq mq hsz hT
  have hc1 := HC1.out
  go_wp2_with (at_builtin; refine Lib.wpList_append_run _ rfl _ _ _ _ rfl _ _ rfl rfl _ _ HRZ.out ?_)
  clear hc1
  go_region_law (refine step_copy_runI rfl _ _ 137 137 rfl _ _ (by simp [Act.eval, Act.put]) (by simp [Act.eval, Act.put]) HC2.out ?_)
  go_wp2_with fail
  go_ret
  exact FIN.out

theorem ptr_one {α : Type} (f : α → Nat) (l : List α) : ∀ u ∈ l.map (fun x => Value.pointer (some ⟨f x, 0, none⟩)), u.oneCell' = true := by
  intro u hu
  obtain ⟨x, _, rfl⟩ := List.mem_map.1 hu
  rfl
/-- Replace, whichever way. -/
theorem rep_any (w : World) (g cap n k m vb vc T : Nat) (ps vs vmore : List Value) (hv : w.ownsRow 0 141 1 (.slice (some ⟨g, 0, none⟩) n cap) n ps) (hk : k < n) (hs : Blk w vb (vs ++ vmore) 141) (hne : vb ≠ g) (hm : vs.length = m) (h0 : 2 ≤ m) (hT : T = k + m + (n - (k + 1))) (hbig : T ≤ 4398046511104) (h1 : ∀ u ∈ vs, u.oneCell' = true) (h2 : ∀ u ∈ ps, u.oneCell' = true) :
    Calls Tryz.prog 120 #[.slice (some ⟨g, 0, none⟩) n cap, .int .i64 (k : Int), .int .i64 ((k : Int) + 1), .slice (some ⟨vb, 0, none⟩) m vc] w (RepTo w 0 (.slice (some ⟨g, 0, none⟩) n cap) T (ps.take k ++ vs ++ ps.drop (k + 1))) := by
  have hn : ps.length = n := by have := hv.1; omega
  rcases ownsRow_blk hv with ⟨e, _, _⟩ | ⟨g', cap', more, e, _, hb, q1, q2, q3⟩
  · cases e
  cases e
  by_cases h : k + 1 = n
  · subst h
    have e : ps.take k ++ vs ++ ps.drop (k + 1) = ps.take k ++ vs := by rw [List.drop_eq_nil_of_le (by omega), List.append_nil]
    have eT : T = k + m := by omega
    rw [e, eT]
    exact repEnd_any w 0 g cap k m vb vc ps vs more vmore hb (Nat.zero_le _) (Nat.zero_le _) hn (by omega) hs hm h0 (by omega) q2 h1
  · by_cases hr : T ≤ cap
    · exact repShift_any w 0 g cap n k m vb vc T ps vs more vmore hb (Nat.zero_le _) hn (by omega) (by omega) hs hne hm h0 hT hr q2 h1 h2
    · exact repGrow_any w 0 g cap n k m vb vc T ps vs more vmore hb (Nat.zero_le _) hn (by omega) q1 hs hm h0 hT (by omega) hbig q2 h1 h2
end Go.Proofs.YtjgjjlolhdlofaaGreatDoor

namespace Go.Proofs.YtjgjjlolhdlofaaGreatDoor
open Go.RowKit Go.Shelf Go.Mine

/-- What Insert leaves. -/
def InsTo (w : World) (B : Nat) (v : Value) (k : Nat) (l : List CellV) (e : Ending) (w' : World) : Prop :=
  ∃ v', e = .returned v' ∧ w'.ownsRow B 53 5 v' k (flat CellV.cs l) ∧ Mod (fun b => v.ownBlock = some b) w w' ∧ ∀ g, v'.ownBlock = some g → v.ownBlock = some g ∨ w.heap.size ≤ g

set_option maxHeartbeats 2000000 in
set_option maxRecDepth 1000000 in
/-- At the end. -/
theorem insEnd_any (w : World) (B : Nat) (v : Value) (n m vb vc : Nat) (cs vs : List CellV) (hv : w.ownsRow B 53 5 v n (flat CellV.cs cs)) (hs : Blk w vb (flat CellV.cs vs) 53) (hm : vs.length = m) (h0 : 0 < m) (hbig : n + m ≤ 1099511627776) (hB : B ≤ w.heap.size) :
    Calls Tryz.prog 119 #[v, .int .i64 (n : Int), .slice (some ⟨vb, 0, none⟩) m vc] w (InsTo w B v (n + m) (cs ++ vs)) := by
  obtain ⟨va, vcap, rfl, hvn, hvm⟩ : ∃ va vcap, v = .slice va n vcap ∧ n ≤ vcap ∧ vcap ≤ maxLen := by
    rcases ownsRow_blk hv with ⟨rfl, rfl, _⟩ | ⟨g, c', _, rfl, _, _, h1, h2, _⟩
    · exact ⟨none, 0, rfl, Nat.le_refl _, Nat.zero_le _⟩
    · exact ⟨_, c', rfl, h1, h2⟩
  unfold maxLen at hvm
  obtain ⟨i0, hi0, hz0, hz1, hz2⟩ := info_parts infoCell
  have hl : (flat CellV.cs vs).length = m * 5 := by rw [flat_length CellV.len, hm]
  obtain ⟨v', w', hrun, ho, hg, hf⟩ := append_fresh (P := Tryz.prog) (ty := 22) Tryz.underlying22 hi0 hz0 hz1 hz2 rfl (by decide) hv ⟨vb, 0, none⟩ m vc (flat CellV.cs vs) hl (fun j u hu => by rw [Addr.add_lit, Nat.zero_add, hs.cell]; exact hu) (flat_ones vs) (by unfold maxLen; omega) (by omega) hB h0
  have FIN : InsTo w B (.slice va n vcap) (n + m) (cs ++ vs) (.returned v') w' := ⟨v', rfl, by rw [flat_append]; exact ho, (Mod.refl _ w).grown hg (fun k e _ => e), hf⟩
  have FIN := Lib.hid FIN
  have HR := Lib.hid hrun
  have hm0 : ((m : Int) == 0) = false := by simp; omega
  have hnn : ((n : Int) == (n : Int)) = true := by simp
  clear ho hg hf hrun hv hs hi0 hz0 hz1 hz2
  go_enter Tryz.func119, Tryz.ntmps119
  cases va with
  | none =>
    go_wp2_with (at_builtin; refine Lib.wpList_append_run _ rfl (.tmp 23) (.tmp 24) 22 22 rfl _ _ rfl rfl _ _ HR.out ?_)
    all_goals (go_ret; exact FIN.out)
  | some ad =>
    obtain ⟨ab, ao, asp⟩ := ad
    go_wp2_with (at_builtin; refine Lib.wpList_append_run _ rfl (.tmp 23) (.tmp 24) 22 22 rfl _ _ rfl rfl _ _ HR.out ?_)
    all_goals (go_ret; exact FIN.out)

theorem insList {cs vs : List CellV} {more : List Value} {i n m cap : Nat} (hi : i ≤ n) (hn : cs.length = n) (hm : vs.length = m) (hr : n + m ≤ cap) (hl : n * 5 + more.length = cap * 5) :
    ((((flat CellV.cs cs ++ more).take ((i + m) * 5) ++ flat CellV.cs (cs.drop i) ++ (flat CellV.cs cs ++ more).drop ((i + m) * 5 + (flat CellV.cs (cs.drop i)).length)).take (i * 5) ++ flat CellV.cs vs ++
      ((flat CellV.cs cs ++ more).take ((i + m) * 5) ++ flat CellV.cs (cs.drop i) ++ (flat CellV.cs cs ++ more).drop ((i + m) * 5 + (flat CellV.cs (cs.drop i)).length)).drop (i * 5 + (flat CellV.cs vs).length))) =
    flat CellV.cs (cs.take i ++ vs ++ cs.drop i) ++ (flat CellV.cs cs ++ more).drop ((n + m) * 5) := by
  have l1 : (flat CellV.cs (cs.drop i)).length = (n - i) * 5 := by rw [flat_length CellV.len, List.length_drop, hn]
  have l2 : (flat CellV.cs vs).length = m * 5 := by rw [flat_length CellV.len, hm]
  have l3 : (flat CellV.cs cs).length = n * 5 := by rw [flat_length CellV.len, hn]
  have e0 : (flat CellV.cs cs ++ more).take (i * 5) = flat CellV.cs (cs.take i) := by
    rw [List.take_append_of_le_length (by omega), flat_take CellV.len]
  rw [l1, l2, show (i + m) * 5 + (n - i) * 5 = (n + m) * 5 by omega]
  have lc : (flat CellV.cs cs ++ more).length = cap * 5 := by rw [List.length_append, l3]; omega
  generalize flat CellV.cs cs ++ more = cur at *
  have hX : (cur.take ((i + m) * 5)).length = (i + m) * 5 := by rw [List.length_take]; omega
  rw [List.append_assoc (cur.take ((i + m) * 5))]
  rw [List.take_append_of_le_length (by rw [hX]; omega), List.take_take, show min (i * 5) ((i + m) * 5) = i * 5 by omega, e0]
  rw [show i * 5 + m * 5 = (cur.take ((i + m) * 5)).length by rw [hX]; omega, List.drop_left]
  simp only [flat_append, List.append_assoc]

set_option maxHeartbeats 4000000 in
set_option maxRecDepth 1000000 in
/-- There is room: in place. -/
theorem insShift_any (w : World) (B g cap n i m vb vc : Nat) (cs vs : List CellV) (more : List Value) (hb : Blk w g (flat CellV.cs cs ++ more) 53) (hBg : B ≤ g) (hn : cs.length = n) (hl : n * 5 + more.length = cap * 5) (hs : Blk w vb (flat CellV.cs vs) 53) (hne : vb ≠ g) (hm : vs.length = m) (h0 : 0 < m) (hi : i < n)
    (hroom : n + m ≤ cap) (hcm : cap ≤ maxLen) :
    Calls Tryz.prog 119 #[.slice (some ⟨g, 0, none⟩) n cap, .int .i64 (i : Int), .slice (some ⟨vb, 0, none⟩) m vc] w (InsTo w B (.slice (some ⟨g, 0, none⟩) n cap) (n + m) (cs.take i ++ vs ++ cs.drop i)) := by
  obtain ⟨L, hL⟩ : ∃ L, L = cs.take i ++ vs ++ cs.drop i := ⟨_, rfl⟩
  rw [← hL]
  have hcm0 := hcm
  unfold maxLen at hcm
  obtain ⟨i0, hi0, hz0, hz1, hz2⟩ := info_parts infoCell
  have l0 : (flat CellV.cs cs).length = n * 5 := by rw [flat_length CellV.len, hn]
  have l1 : (flat CellV.cs (cs.drop i)).length = (n - i) * 5 := by rw [flat_length CellV.len, List.length_drop, hn]
  have l2 : (flat CellV.cs vs).length = m * 5 := by rw [flat_length CellV.len, hm]
  have hov : ∀ lb cb, (callFunc 127 #[.slice (some ⟨vb, 0, none⟩) m vc, .slice (some ⟨g, (i + m) * 5, none⟩) lb cb]).run Tryz.prog w = .ok (.value (.bool false)) w := fun lb cb => by
    rw [run_callFunc_extern Tryz.func127 (by kernel_rfl) (by kernel_rfl) (by kernel_rfl) (e := Extern.SlicesOverlaps.overlaps #[22, 22] #[4]) (by kernel_rfl),
      Lib.run_overlaps_apart w 22 4 53 Tryz.underlying22 5 (fun w => by simp [sizeOf, typeInfo, hi0, hz1]) ⟨vb, 0, none⟩ ⟨g, (i + m) * 5, none⟩ m vc lb cb hne _ _ _ _ hs.shape hb.shape (by rw [List.length_append, l0]; omega) (hs.frozen 0) (hs.frozen _)]
    rfl
  obtain ⟨w1, hc1, hb1, m1⟩ := run_copyN (P := Tryz.prog) (w := w.drew) (sz := 5) Tryz.underlying22 hi0 hz1 3 g ((i + m) * 5) (n + m - (i + m)) (cap - (i + m)) ⟨g, i * 5, none⟩ (n + m - i) (cap - i) _ (flat CellV.cs (cs.drop i)) hb.drew (by rw [l1]; simp only [Nat.min_def]; split <;> omega)
    (fun j u hu => by
      rw [Addr.add_lit]
      have := hb.cell (i * 5 + j)
      rw [← flat_drop CellV.len, List.getElem?_drop] at hu
      rw [List.getElem?_append_left (List.getElem?_eq_some_iff.1 hu).1, hu] at this
      exact this) (by rw [List.length_append, l0, l1]; omega) (flat_ones _)
  have hs1 := (hs.drew).mod m1 hne
  obtain ⟨w2, hc2, hb2, m2⟩ := run_copyN (P := Tryz.prog) (w := w1) (sz := 5) Tryz.underlying22 hi0 hz1 3 g (i * 5) (n + m - i) (cap - i) ⟨vb, 0, none⟩ m vc _ (flat CellV.cs vs) hb1 (by rw [l2]; simp only [Nat.min_def]; split <;> omega)
    (fun j u hu => by rw [Addr.add_lit, Nat.zero_add, hs1.cell]; exact hu) (by simp only [List.length_append, List.length_take, List.length_drop, l0, l1, l2]; omega) (flat_ones _)
  rw [insList (by omega) hn hm hroom hl] at hb2
  have FIN : InsTo w B (.slice (some ⟨g, 0, none⟩) n cap) (n + m) L (.returned (.slice (some ⟨g, 0, none⟩) (n + m) cap)) w2 := by
    rw [hL]
    refine ⟨_, rfl, blk_ownsRow hBg hb2 (by rw [flat_length CellV.len]; simp [hn, hm]; omega) (by omega) hcm0 ?_, ((Mod.drew (Mod.refl _ w)).trans (m1.mono ?_)).trans (m2.mono ?_), fun g' e => .inl e⟩
    · rw [flat_length CellV.len]
      simp only [List.length_append, List.length_take, List.length_drop, hn, hm, l0]
      omega
    · intro k _ e
      have e' : k = g := e
      rw [e']; rfl
    · intro k _ e
      have e' : k = g := e
      rw [e']; rfl
  have FIN := Lib.hid FIN
  have HC1 := Lib.hid hc1
  have HC2 := Lib.hid hc2
  have hm0 : ((m : Int) == 0) = false := by simp; omega
  have hnn : ((i : Int) == (n : Int)) = false := by simp; omega
  have hd1 : decide ((cap : Int) < (n : Int) + m) = false := by simp; omega
  have hw1 : IntKind.i64.wrap ((i : Int) + (m : Int)) = (i : Int) + (m : Int) := by rw [IntKind.wrap_i64]; omega
  have hb1' : (0 : Int) ≤ (i : Int) + (m : Int) := by omega
  have htn : ((i : Int) + (m : Int)).toNat = i + m := by omega
  have hcn1 : ¬ (cap = i + m) := by omega
  have hcn2 : ¬ (cap = i) := by omega
  have hb3 : (i : Int) ≤ (n : Int) + (m : Int) := by omega
  have hin : i ≤ n := by omega
  clear hL hb1 m1 hb2 m2 hs1 hs hc1 hc2 hi0 hz0 hz1 hz2 l0 l1 l2 hb
  go_enter Tryz.func119, Tryz.ntmps119
  go_wp2_with (simp only [hov])
  go_region_law (refine step_copy_runI rfl _ _ 22 22 rfl _ _ (by simp [Act.eval, Act.put]) (by simp [Act.eval, Act.put]) HC1.out ?_)
  have hc2 := HC2.out
  go_wp2_with fail
  go_ret
  exact FIN.out

theorem insList2 {cs vs : List CellV} {R : List Value} {i n m : Nat} (hi : i ≤ n) (hn : cs.length = n) (hm : vs.length = m) (hR : (n + m) * 5 ≤ R.length) (ht : R.take (i * 5) = flat CellV.cs (cs.take i)) :
    (R.take (i * 5) ++ flat CellV.cs vs ++ R.drop (i * 5 + (flat CellV.cs vs).length)).take ((i + m) * 5) ++ flat CellV.cs (cs.drop i) ++ (R.take (i * 5) ++ flat CellV.cs vs ++ R.drop (i * 5 + (flat CellV.cs vs).length)).drop ((i + m) * 5 + (flat CellV.cs (cs.drop i)).length) =
    flat CellV.cs (cs.take i ++ vs ++ cs.drop i) ++ R.drop ((n + m) * 5) := by
  have l1 : (flat CellV.cs (cs.drop i)).length = (n - i) * 5 := by rw [flat_length CellV.len, List.length_drop, hn]
  have l2 : (flat CellV.cs vs).length = m * 5 := by rw [flat_length CellV.len, hm]
  have hX : (R.take (i * 5) ++ flat CellV.cs vs).length = (i + m) * 5 := by rw [List.length_append, List.length_take, l2]; omega
  rw [List.take_append_of_le_length (by rw [hX]; exact Nat.le_refl _), List.take_of_length_le (by rw [hX]; exact Nat.le_refl _)]
  rw [List.drop_append, hX, List.drop_of_length_le (l := R.take (i * 5) ++ flat CellV.cs vs) (by rw [hX]; omega), List.nil_append, List.drop_drop, l1, l2]
  rw [show i * 5 + m * 5 + ((i + m) * 5 + (n - i) * 5 - (i + m) * 5) = (n + m) * 5 by omega, ht]
  simp only [flat_append]

set_option maxHeartbeats 4000000 in
set_option maxRecDepth 1000000 in
/-- There is no room: a new row. -/
theorem insGrow_any (w : World) (B g cap n i m vb vc : Nat) (cs vs : List CellV) (more : List Value) (hb : Blk w g (flat CellV.cs cs ++ more) 53) (hB : B ≤ w.heap.size) (hn : cs.length = n) (hnc : n ≤ cap) (hs : Blk w vb (flat CellV.cs vs) 53) (hm : vs.length = m) (h0 : 0 < m) (hi : i < n)
    (hroom : cap < n + m) (hbig : n + m ≤ 1099511627776) (hcm : cap ≤ maxLen) :
    Calls Tryz.prog 119 #[.slice (some ⟨g, 0, none⟩) n cap, .int .i64 (i : Int), .slice (some ⟨vb, 0, none⟩) m vc] w (InsTo w B (.slice (some ⟨g, 0, none⟩) n cap) (n + m) (cs.take i ++ vs ++ cs.drop i)) := by
  obtain ⟨L, hL⟩ : ∃ L, L = cs.take i ++ vs ++ cs.drop i := ⟨_, rfl⟩
  rw [← hL]
  unfold maxLen at hcm
  obtain ⟨i0, hi0, hz0, hz1, hz2⟩ := info_parts infoCell
  have l0 : (flat CellV.cs cs).length = n * 5 := by rw [flat_length CellV.len, hn]
  have l1 : (flat CellV.cs (cs.drop i)).length = (n - i) * 5 := by rw [flat_length CellV.len, List.length_drop, hn]
  have l2 : (flat CellV.cs vs).length = m * 5 := by rw [flat_length CellV.len, hm]
  have l3 : (flat CellV.cs (cs.take i)).length = i * 5 := by rw [flat_length CellV.len, List.length_take, hn]; omega
  have hold : (Builtin.firstCells i0.size i (.slice (some ⟨g, 0, none⟩) i cap)).run Tryz.prog w.drew = .ok (flat CellV.cs (cs.take i)).toArray w.drew := by
    rw [hz1]
    exact run_firstCells_some w.drew 5 i ⟨g, 0, none⟩ i cap _ l3 (fun j u hu => by
      rw [Addr.add_lit, Nat.zero_add]
      have := hb.drew.cell j
      rw [← flat_take CellV.len, List.getElem?_take] at hu
      split at hu
      · rw [List.getElem?_append_left (List.getElem?_eq_some_iff.1 hu).1, hu] at this
        exact this
      · cases hu)
  have hkk : (n : Int) + (m : Int) - (i : Int) = ((n + m - i : Nat) : Int) := by omega
  have hik : i + (n + m - i) = n + m := by omega
  have hrz := Lib.run_append_grow_zeros (P := Tryz.prog) w 22 3 22 53 i0 _ .i64 .i64 Tryz.underlying22 Tryz.underlying3 hi0 hz0 (some ⟨g, 0, none⟩) i cap _ hold (n + m - i) (by omega) (by omega) (by omega) (by omega) (by rw [hz2]; omega) (by rw [hz2, hik]; exact growslice_fits (by omega) (by omega))
  rw [hik, ← hkk] at hrz
  obtain ⟨G, hG⟩ : ∃ G, G = grownCap w (n + m) cap 53 := ⟨_, rfl⟩
  have hGn : n + m ≤ G := by rw [hG]; exact grownCap_ge w _ _ _
  have hGm : G ≤ maxLen := by rw [hG]; exact grownCap_le_maxLen w (n + m) cap _ (by unfold maxLen; omega)
  have hG63 : G ≤ 9223372036854775807 := by unfold maxLen at hGm; omega
  rw [← hG] at hrz
  have hzl : ∀ k, (Builtin.zeroCells (Value.agg #[.int .i64 0, .int .i64 0, .int .i64 0, .int .i32 0, .bool false]).cells k).size = k * 5 := fun k => by rw [size_zeroCells]; rfl
  obtain ⟨R, hR⟩ : ∃ R : List Value, R = flat CellV.cs (cs.take i) ++ (Builtin.zeroCells (Value.agg #[.int .i64 0, .int .i64 0, .int .i64 0, .int .i32 0, .bool false]).cells (n + m - i)).toList ++ (Builtin.zeroCells (Value.agg #[.int .i64 0, .int .i64 0, .int .i64 0, .int .i32 0, .bool false]).cells (G - (n + m))).toList := ⟨_, rfl⟩
  have hRA : (flat CellV.cs (cs.take i)).toArray ++ Builtin.zeroCells (Value.agg #[.int .i64 0, .int .i64 0, .int .i64 0, .int .i32 0, .bool false]).cells (n + m - i) ++ Builtin.zeroCells (Value.agg #[.int .i64 0, .int .i64 0, .int .i64 0, .int .i32 0, .bool false]).cells (G - (n + m)) = R.toArray := by
    rw [hR]; simp
  have hRl : R.length = G * 5 := by
    rw [hR]
    simp only [List.length_append, l3, Array.length_toList, hzl]
    omega
  have hRt : R.take (i * 5) = flat CellV.cs (cs.take i) := by
    rw [hR, List.append_assoc, ← l3, List.take_left]
  rw [hRA] at hrz
  have b0 : Blk (w.drew.alloc (.cells R.toArray 53)) w.heap.size R 53 := Blk.new (w := w.drew)
  have m0 : Mod none_ w (w.drew.alloc (.cells R.toArray 53)) := (Mod.drew (Mod.refl _ w)).alloc _
  have hs0 := hs.mod m0 (fun e => e)
  have hb0 := hb.mod m0 (fun e => e)
  generalize w.drew.alloc (.cells R.toArray 53) = w1 at hrz b0 m0 hs0 hb0
  obtain ⟨N, hN⟩ : ∃ N, N = w.heap.size := ⟨_, rfl⟩
  have hgN : g ≠ N := by have := hb.lt; omega
  have hvN : vb ≠ N := by have := hs.lt; omega
  rw [← hN] at hrz b0
  obtain ⟨w2, hc1, hb1, m1⟩ := run_copyN (P := Tryz.prog) (w := w1) (sz := 5) Tryz.underlying22 hi0 hz1 3 N (i * 5) (n + m - i) (G - i) ⟨vb, 0, none⟩ m vc R (flat CellV.cs vs) b0 (by rw [l2]; simp only [Nat.min_def]; split <;> omega)
    (fun j u hu => by rw [Addr.add_lit, Nat.zero_add, hs0.cell]; exact hu) (by rw [hRl, l2]; omega) (flat_ones _)
  have hb2 := (hb0.mod m1 hgN).drew
  obtain ⟨w3, hc2, hb3, m2⟩ := run_copyN (P := Tryz.prog) (w := w2.drew) (sz := 5) Tryz.underlying22 hi0 hz1 3 N ((i + m) * 5) (n + m - (i + m)) (G - (i + m)) ⟨g, i * 5, none⟩ (n - i) (cap - i) _ (flat CellV.cs (cs.drop i)) hb1.drew (by rw [l1]; simp only [Nat.min_def]; split <;> omega)
    (fun j u hu => by
      rw [Addr.add_lit]
      have := hb2.cell (i * 5 + j)
      rw [← flat_drop CellV.len, List.getElem?_drop] at hu
      rw [List.getElem?_append_left (List.getElem?_eq_some_iff.1 hu).1, hu] at this
      exact this) (by simp only [List.length_append, List.length_take, List.length_drop, l1, l2, hRl]; omega) (flat_ones _)
  rw [insList2 (by omega) hn hm (by omega) hRt, ← hL] at hb3
  have hLl : L.length = n + m := by rw [hL]; simp [hn, hm]; omega
  have FIN : InsTo w B (.slice (some ⟨g, 0, none⟩) n cap) (n + m) L (.returned (.slice (some ⟨N, 0, none⟩) (n + m) G)) w3 := by
    refine ⟨_, rfl, blk_ownsRow (by omega) hb3 (by rw [flat_length CellV.len, hLl]) hGn hGm ?_, ?_, fun g' e => ?_⟩
    · rw [flat_length CellV.len, hLl, List.length_drop, hRl]; omega
    · have far : ∀ k, k < w.heap.size → one N k → False := fun k hk e => by have e' : k = N := e; omega
      exact ((m0.transIn m1 far).drew.transIn m2 far).mono (fun _ _ e => e.elim)
    · have e' : N = g' := by simpa [Value.ownBlock] using e
      right; omega
  have FIN := Lib.hid FIN
  have HC1 := Lib.hid hc1
  have HC2 := Lib.hid hc2
  have HRZ := Lib.hid hrz
  have hm0 : ((m : Int) == 0) = false := by simp; omega
  have hnn : ((i : Int) == (n : Int)) = false := by simp; omega
  have hd1 : decide ((cap : Int) < (n : Int) + m) = true := by simp; omega
  have hw1 : IntKind.i64.wrap ((i : Int) + (m : Int)) = (i : Int) + (m : Int) := by rw [IntKind.wrap_i64]; omega
  have hb1' : (0 : Int) ≤ (i : Int) + (m : Int) := by omega
  have htn : ((i : Int) + (m : Int)).toNat = i + m := by omega
  have hcn1 : ¬ (G = i + m) := by omega
  have hcn2 : ¬ (G = i) := by omega
  have hcn3 : ¬ (cap = i) := by omega
  have hb3' : (i : Int) ≤ (n : Int) + (m : Int) := by omega
  have hin : i ≤ n := by omega
  clear hL hb1 m1 hb2 m2 hs hc1 hc2 hi0 hz0 hz1 hz2 l0 l1 l2 l3 hb hb0 hs0 b0 m0 hb3 hkk hik hold hG hzl hR hRA hRl hRt hrz hN hLl
  go_enter Tryz.func119, Tryz.ntmps119
  have hc1 := HC1.out
  go_wp2_with (at_builtin; refine Lib.wpList_append_run _ rfl _ _ _ _ rfl _ _ rfl rfl _ _ HRZ.out ?_)
  clear hc1
  go_region_law (refine step_copy_runI rfl _ _ 22 22 rfl _ _ (by simp [Act.eval, Act.put]) (by simp [Act.eval, Act.put]) HC2.out ?_)
  go_wp2_with fail
  go_ret
  exact FIN.out

/-- Insert, whichever way. -/
theorem ins_any (w : World) (v : Value) (n i m vb vc : Nat) (cs vs : List CellV) (hv : w.ownsRow 0 53 5 v n (flat CellV.cs cs)) (hn : cs.length = n) (hi : i ≤ n) (hs : Blk w vb (flat CellV.cs vs) 53) (hne : v.ownBlock ≠ some vb) (hm : vs.length = m) (h0 : 0 < m) (hbig : n + m ≤ 1099511627776) :
    Calls Tryz.prog 119 #[v, .int .i64 (i : Int), .slice (some ⟨vb, 0, none⟩) m vc] w (InsTo w 0 v (n + m) (cs.take i ++ vs ++ cs.drop i)) := by
  by_cases h : i = n
  · subst h
    have e : cs.take i ++ vs ++ cs.drop i = cs ++ vs := by rw [List.take_of_length_le (by omega), List.drop_eq_nil_of_le (by omega), List.append_nil]
    rw [e]
    exact insEnd_any w 0 v i m vb vc cs vs hv hs hm h0 hbig (Nat.zero_le _)
  · rcases ownsRow_blk hv with ⟨_, e, _⟩ | ⟨g, cap, more, rfl, _, hb, h1, h2, h3⟩
    · omega
    · have l0 : (flat CellV.cs cs).length = n * 5 := by rw [flat_length CellV.len, hn]
      have hvg : vb ≠ g := fun e => hne (by rw [e]; rfl)
      by_cases hr : n + m ≤ cap
      · exact insShift_any w 0 g cap n i m vb vc cs vs more hb (Nat.zero_le _) hn (by omega) hs hvg hm h0 (by omega) hr h2
      · exact insGrow_any w 0 g cap n i m vb vc cs vs more hb (Nat.zero_le _) hn h1 hs hm h0 (by omega) (by omega) hbig h2
end Go.Proofs.YtjgjjlolhdlofaaGreatDoor
