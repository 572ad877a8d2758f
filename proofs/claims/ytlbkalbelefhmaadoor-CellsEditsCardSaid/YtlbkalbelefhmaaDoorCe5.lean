/-
  Texts on which the claim rests, one behind the other: Typ1 Edt1 Alv1 Edt2 RowK.
-/
import Derived.Test.YtlbkalbelefhmaaDoorCe4
import Derived.Test.YtlbkalbelefhmaaDoorRows
import Derived.Test.YtlbkalbelefhmaaDoorCards
import Derived.Test.YtlbkalbelefhmaaDoorTie
import Derived.ProofKit
import Derived.OpenShut
import Derived.LaidMore
import Derived.Lay
import Derived.SevenTiedAt
import Derived.Stop.Joined
import Derived.Lib.LaidU8T
import Derived.PinnedBridge
import Derived.Lib.SmallJoins

namespace Go.Proofs.YtlbkalbelefhmaaDoor
open Go.RowKit Go.Mine Go.Deep
open Classical

theorem conv_sr (w : World) (rs : List Int) (hv : vR rs) (hl : rs.length ≤ 70368744177664) : (convert 9 39 (.string ⟨(bytesOf rs).toArray⟩)).run Tryd.prog w =
    .ok (.slice (some ⟨w.heap.size, 0, none⟩) rs.length (grownCap w rs.length 0 21)) (w.drew.alloc (.cells ((r32s rs).toArray ++ Array.replicate (grownCap w rs.length 0 21 - rs.length) (.int .i32 0)) 21)) := by
  have h1 := runes_str hv
  have h2 : (r32s rs).toArray.size = rs.length := by simp [r32s]
  have := run_runes_of_string (P := Tryd.prog) w 9 39 21 ⟨(bytesOf rs).toArray⟩ Tryd.underlying9 Tryd.underlying39 Tryd.underlying21 (by rw [h1, h2]; exact hl)
  rw [h1, h2] at this
  exact this
theorem conv_sr2 (w : World) (rs : List Int) (hv : vR rs) (hl : rs.length ≤ 70368744177664) : ∃ cap, rs.length ≤ cap ∧ (convert 9 39 (.string ⟨(bytesOf rs).toArray⟩)).run Tryd.prog w =
    .ok (.slice (some ⟨w.heap.size, 0, none⟩) rs.length cap) (w.drew.alloc (.cells (r32s rs ++ List.replicate (cap - rs.length) (Value.int .i32 0)).toArray 21)) := by
  refine ⟨grownCap w rs.length 0 21, grownCap_ge w rs.length 0 21, ?_⟩
  have e : ∀ n : Nat, (r32s rs).toArray ++ Array.replicate n (Value.int .i32 0) = (r32s rs ++ List.replicate n (Value.int .i32 0)).toArray := fun n => by apply Array.ext'; simp
  rw [conv_sr w rs hv hl, e]
theorem conv_rs (w : World) (b off len cap : Nat) (rs : List Int) (hn : rs.length = len) (hc : ∀ (j : Nat) (x : Int), rs[j]? = some x → w.cell? ⟨b, off + j, none⟩ = some (.int .i32 x)) (hv : vR rs) :
    (convert 39 9 (.slice (some ⟨b, off, none⟩) len cap)).run Tryd.prog w = .ok (.string ⟨(bytesOf rs).toArray⟩) w := by
  rw [run_convert_runes w _ _ 21 ⟨b, off, none⟩ len cap rs (by omega) Tryd.underlying39 Tryd.underlying21 Tryd.underlying9 (fun j hj => ?_), ← hn, List.take_length, str_runes hv]
  rw [Addr.add_lit, hc j rs[j] (List.getElem?_eq_getElem hj)]
  simp [List.getD, hj]

/-- Strings in memory. -/
structure IsStrs (w : World) (a : Option Addr) (len cap : Nat) (l : List ByteArray) : Prop where
  n : l.length = len
  le : len ≤ cap
  big : cap ≤ maxLen
  ok : ∀ s ∈ l, s.size ≤ maxLen
  cells : ∀ (i : Nat) (s : ByteArray), l[i]? = some s → ∃ b off, a = some ⟨b, off, none⟩ ∧ w.cell? ⟨b, off + i, none⟩ = some (.string s)
theorem IsStrs.grown {w w' : World} {a : Option Addr} {len cap : Nat} {l : List ByteArray} (h : IsStrs w a len cap l) (m : Mod none_ w w') : IsStrs w' a len cap l :=
  ⟨h.n, h.le, h.big, h.ok, fun i x hx => by
    obtain ⟨b, off, e, c0⟩ := h.cells i x hx
    exact ⟨b, off, e, m.cell (fun e => e) c0⟩⟩
section
variable {H : Type} {enc : TypeId × Value → H} {w : World} {base : Nat} {sp : Nat → Bool} {held : Bool}
theorem read_strs {fuel : Nat} {a : Option Addr} {len cap : Nat} {x : DataW H × List MemPlace} (h : DataW.trod enc Tryd.prog w base sp held fuel 72 [.slice a len cap] = some x) : ∃ l, IsStrs w a len cap l := by
  obtain ⟨a', len', cap', hcs, hl, hm, hf⟩ := slice_elems Tryd.underlying72 szString (by decide) h
  simp only [List.cons.injEq, Value.slice.injEq, and_true] at hcs
  obtain ⟨rfl, rfl, rfl⟩ := hcs
  have key : ∀ i, i < len → ∃ s : ByteArray, s.size ≤ maxLen ∧ ∃ b off, a = some ⟨b, off, none⟩ ∧ w.cell? ⟨b, off + i, none⟩ = some (.string s) := by
    intro i hi
    obtain ⟨b, off, cells, y, n, e, hlen, hr, ht⟩ := hf i hi
    obtain ⟨tx, e4, _, w4⟩ := DataW.trod_string Tryd.underlying9 ht
    subst e4
    have := hr 0 _ rfl
    rw [Nat.mul_one, Nat.add_zero] at this
    exact ⟨tx, w4, b, off, e, this⟩
  obtain ⟨f, hfk⟩ := Classical.axiomOfChoice (fun i : Fin len => key i.1 i.2)
  refine ⟨List.ofFn f, by simp, hl, hm, ?_, ?_⟩
  · intro y hy
    obtain ⟨i, rfl⟩ := List.mem_ofFn.1 hy
    exact (hfk i).1
  · intro i y hy
    have hi : i < len := by have := (List.getElem?_eq_some_iff.1 hy).1; simpa using this
    have : y = f ⟨i, hi⟩ := by
      rw [List.getElem?_eq_getElem (by simpa using hi)] at hy
      simp at hy; exact hy.symm
    subst this
    exact (hfk ⟨i, hi⟩).2
end

/-- What is typed. -/
def tyOp (k : Nat) (p : Int) (t : ByteArray) : OpV := ⟨3, 549755813888 + (k : Int), 0, 1, p, t, none, 0, 0⟩
theorem tyOp_ok {w : World} (k : Nat) (p : Int) (t : ByteArray) (hk : k ≤ 8) (hp : 0 ≤ p ∧ p ≤ 20000) (ht : txtOk w t) (hs : t.size ≤ 900) : (tyOp k p t).ok w [] :=
  { i1 := by unfold tyOp; dsimp only; omega, i2 := by unfold tyOp; dsimp only; omega, i3 := by unfold tyOp; dsimp only; omega, i4 := by unfold tyOp; dsimp only; omega, i5 := by unfold tyOp; dsimp only; omega, tx := ht, sz := Nat.lt_of_le_of_lt hs (by decide),
    sp := ⟨rfl, Nat.le_refl _, Nat.zero_le _, (fun x hx => by cases hx), (fun i x hx => by cases hx)⟩ }

theorem liveR_append (a b : List CellV) : liveR (a ++ b) = liveR a ++ liveR b := by simp [liveR]
theorem liveR_fresh (o : OpV) (rs : List Nat) : liveR (freshC o rs) = rs.map fun r : Nat => (r : Int) := by
  unfold liveR freshC
  rw [List.filter_eq_self.2 (fun c hc => ?_)]
  · apply List.ext_getElem
    · simp
    · intro i h1 h2; simp
  · obtain ⟨i, hi, rfl⟩ := List.mem_mapIdx.1 hc
    rfl
theorem liveR_valid {l : List CellV} (h : newE l = 0) : vR (liveR l) := by
  intro r hr
  unfold liveR at hr
  obtain ⟨c, hc, rfl⟩ := List.mem_map.1 hr
  have hm := (List.mem_filter.1 hc).1
  unfold newE at h
  by_cases h1 : l.all cellOk = true
  · have := List.all_eq_true.1 h1 c hm
    unfold cellOk at this
    simp only [Bool.and_eq_true] at this
    exact this.2
  · rw [if_neg h1] at h; omega
theorem textB_valid {l : List CellV} (h : vR (liveR l)) : textB l = ⟨(bytesOf (liveR l)).toArray⟩ := by
  unfold textB
  rw [if_pos (List.all_eq_true.2 h)]

/-- Behind some of what was typed at place i of l: the document's cells are L, the caret is at p, the runes typed are rs. -/
structure Typ (l : List CellV) (i : Nat) (L : List CellV) (p : Nat) (rs : List Int) : Prop where
  hp : p ≤ L.length
  le : liveR (L.take p) = (liveR l).take i ++ rs
  ri : liveR (L.drop p) = (liveR l).drop i
  va : vR rs
theorem Typ.start {l : List CellV} {i : Int} (h : gapBad l i = false) : Typ l i.toNat l (gapN l i).toNat [] := by
  obtain ⟨h1, h2⟩ := gapN_le h
  have h3 := seen_gapN h
  have hlen : (liveR (l.take (gapN l i).toNat)).length = i.toNat := by
    rw [liveR_len]
    unfold seenN at h3
    omega
  have happ : liveR l = liveR (l.take (gapN l i).toNat) ++ liveR (l.drop (gapN l i).toNat) := by rw [← liveR_append, List.take_append_drop]
  refine ⟨by omega, ?_, ?_, fun r hr => by cases hr⟩
  · rw [List.append_nil, happ, ← hlen, List.take_left]
  · rw [happ, ← hlen, List.drop_left]
theorem Typ.all {l L : List CellV} {i p : Nat} {rs : List Int} (h : Typ l i L p rs) : liveR L = (liveR l).take i ++ rs ++ (liveR l).drop i := by
  rw [← h.le, ← h.ri, ← liveR_append, List.take_append_drop]
theorem Typ.step {l L : List CellV} {i p k : Nat} {rs : List Int} {t : ByteArray} (h : Typ l i L p rs) (he : doE (tyOp k p t) [] L = 0) :
    ∃ ns : List Nat, t = ⟨(bytesOf (ns.map fun r : Nat => (r : Int))).toArray⟩ ∧ addsOf (tyOp k p t) = ns.length ∧ ns.length ≤ 200 ∧ Typ l i (doL (tyOp k p t) [] L) (p + ns.length) (rs ++ ns.map fun r : Nat => (r : Int)) := by
  obtain ⟨hm, hh⟩ := doE_zero he
  rcases hh with ⟨hk, _⟩ | ⟨hk, hins, _, hL⟩
  · exact absurd rfl hk
  obtain ⟨ns, h1, h2, h3, h4, h5, h6, h7, h8, h9⟩ := ins_runes hins
  obtain ⟨b1, b2⟩ := runesD_bytes h1
  rw [h2] at hL
  have hat : (tyOp k p t).at_.toNat = p := by unfold tyOp; simp
  rw [hat] at hL
  have hlt : (L.take p).length = p := by rw [List.length_take]; have := h.hp; omega
  have e1 : (doL (tyOp k p t) [] L).take (p + ns.length) = L.take p ++ freshC (tyOp k p t) ns := by
    rw [hL]
    have : p + ns.length = (L.take p ++ freshC (tyOp k p t) ns).length := by rw [List.length_append, hlt]; simp [freshC]
    rw [this, List.take_left]
  have e2 : (doL (tyOp k p t) [] L).drop (p + ns.length) = L.drop p := by
    rw [hL]
    have : p + ns.length = (L.take p ++ freshC (tyOp k p t) ns).length := by rw [List.length_append, hlt]; simp [freshC]
    rw [this, List.drop_left]
  refine ⟨ns, b1, ?_, h5, ⟨?_, ?_, ?_, ?_⟩⟩
  · unfold addsOf
    rw [if_pos hk, h3]
    omega
  · have := congrArg List.length e2
    have hh := congrArg List.length hL
    simp only [List.length_append, hlt, List.length_drop, freshC, List.length_mapIdx] at hh
    omega
  · rw [e1, liveR_append, h.le, liveR_fresh, List.append_assoc]
  · rw [e2, h.ri]
  · intro r hr
    rcases List.mem_append.1 hr with hr | hr
    · exact h.va r hr
    · exact b2 r hr
theorem Typ.move {p k n : Nat} {t : ByteArray} (ha : addsOf (tyOp k p t) = n) : movP (tyOp k p t) p false = ((p + n : Nat) : Int) := by
  unfold movP
  rw [if_pos (show (tyOp k p t).kind = 1 from rfl), ha]
  unfold pointOf
  rw [if_pos (.inr ⟨rfl, rfl⟩)]
  omega
/-- What is shown then, and the text. -/
theorem Typ.shown {l L : List CellV} {i p : Nat} {rs : List Int} (h : Typ l i L p rs) (hi : i ≤ liveN l) (hb : L.length ≤ 20000) : shownV L 3 p p = .tuple #[.int .i64 ((i : Int) + (rs.length : Int)), .int .i64 ((i : Int) + (rs.length : Int)), .int .i64 0] := by
  have hp := h.hp
  have hm : markOk 3 p p L.length = true := by simp [markOk, inB]; omega
  have b1 : seenBad L p = false := by unfold seenBad; simp; omega
  have hs : (seenN L p : Int) = (i : Int) + (rs.length : Int) := by
    unfold seenN
    have := congrArg List.length h.le
    rw [liveR_len, List.length_append, List.length_take, liveR_len] at this
    omega
  unfold shownV seenM
  rw [hm, b1]
  simp only [if_true, Bool.false_eq_true, if_false, Int.toNat_natCast, hs]
theorem Typ.text {l L : List CellV} {i p : Nat} {rs : List Int} (h : Typ l i L p rs) (hv : vR (liveR l)) : textB L = ⟨(bytesOf ((liveR l).take i) ++ bytesOf rs ++ bytesOf ((liveR l).drop i)).toArray⟩ := by
  have hvL : vR (liveR L) := by
    rw [h.all]
    intro r hr
    rcases List.mem_append.1 hr with hr | hr
    · rcases List.mem_append.1 hr with hr | hr
      · exact hv r (List.mem_of_mem_take hr)
      · exact h.va r hr
    · exact hv r (List.mem_of_mem_drop hr)
  rw [textB_valid hvL, h.all, bytesOf_append, bytesOf_append]
end Go.Proofs.YtlbkalbelefhmaaDoor

namespace Go.Proofs.YtlbkalbelefhmaaDoor
open Go.RowKit Go.Mine
open Classical

theorem Typ.stepO {l L : List CellV} {i p : Nat} {rs : List Int} {o : OpV} (h : Typ l i L p rs) (hk : o.kind = 1) (hat : o.at_ = (p : Int)) (he : doE o [] L = 0) :
    ∃ ns : List Nat, o.text = ⟨(bytesOf (ns.map fun r : Nat => (r : Int))).toArray⟩ ∧ ns.length ≤ 200 ∧ Typ l i (doL o [] L) (p + ns.length) (rs ++ ns.map fun r : Nat => (r : Int)) := by
  obtain ⟨hm, hh⟩ := doE_zero he
  rcases hh with ⟨hk', _⟩ | ⟨_, hins, _, hL⟩
  · exact absurd hk hk'
  obtain ⟨ns, h1, h2, h3, h4, h5, h6, h7, h8, h9⟩ := ins_runes hins
  obtain ⟨b1, b2⟩ := runesD_bytes h1
  rw [h2, hat, Int.toNat_natCast] at hL
  have hlt : (L.take p).length = p := by rw [List.length_take]; have := h.hp; omega
  have e1 : (Go.Proofs.YtlbkalbelefhmaaDoor.doL o [] L).take (p + ns.length) = L.take p ++ freshC o ns := by
    rw [hL]
    have : p + ns.length = (L.take p ++ freshC o ns).length := by rw [List.length_append, hlt]; simp [freshC]
    rw [this, List.take_left]
  have e2 : (Go.Proofs.YtlbkalbelefhmaaDoor.doL o [] L).drop (p + ns.length) = L.drop p := by
    rw [hL]
    have : p + ns.length = (L.take p ++ freshC o ns).length := by rw [List.length_append, hlt]; simp [freshC]
    rw [this, List.drop_left]
  refine ⟨ns, b1, h5, ⟨?_, ?_, ?_, ?_⟩⟩
  · have hh := congrArg List.length hL
    simp only [List.length_append, hlt, List.length_drop, freshC, List.length_mapIdx] at hh
    omega
  · rw [e1, liveR_append, h.le, liveR_fresh, List.append_assoc]
  · rw [e2, h.ri]
  · intro r hr
    rcases List.mem_append.1 hr with hr | hr
    · exact h.va r hr
    · exact b2 r hr

theorem liveR_cons (c : CellV) (r : List CellV) : liveR (c :: r) = (if c.gone then [] else [c.r]) ++ liveR r := by
  unfold liveR
  cases h : c.gone <;> simp [h]
theorem seenN_cons (c : CellV) (r : List CellV) (j : Nat) : seenN (c :: r) (j + 1) = (if c.gone then 0 else 1) + seenN r j := by
  unfold seenN
  rw [List.take_succ_cons, liveN_cons]
/-- The runes of what is left live where a run of live cells goes (k live ones stand ahead of the list). -/
theorem mark_run (i n : Nat) : ∀ (l : List CellV) (k : Nat), liveR (markP (fun j => (l[j]?.map fun c => runB c.gone (k + seenN l j) i n).getD false) l) = (liveR l).take (i - k) ++ (liveR l).drop (i + n - k)
  | [], k => by simp [markP, liveR]
  | c :: r, k => by
    have ih := mark_run i n r (k + if c.gone then 0 else 1)
    have hm : markP (fun j => ((c :: r)[j]?.map fun d => runB d.gone (k + seenN (c :: r) j) i n).getD false) (c :: r) = (if runB c.gone k i n then goneC c else c) :: markP (fun j => (r[j]?.map fun d => runB d.gone ((k + if c.gone then 0 else 1) + seenN r j) i n).getD false) r := by
      have h0 : seenN (c :: r) 0 = 0 := by simp [seenN, liveN]
      unfold markP
      rw [List.mapIdx_cons]
      simp only [List.getElem?_cons_zero, List.getElem?_cons_succ, Option.map_some, Option.getD_some, h0, Nat.add_zero, seenN_cons, Nat.add_assoc]
    rw [hm, liveR_cons, ih, liveR_cons]
    cases hg : c.gone
    · have hgn : (goneC c).gone = true := rfl
      simp only [Bool.false_eq_true, if_false, List.singleton_append]
      by_cases h1 : k < i
      · have hr : runB false k i n = false := by unfold runB; simp; omega
        rw [hr]
        simp only [Bool.false_eq_true, if_false, hg]
        rw [show i - k = (i - (k + 1)) + 1 by omega, List.take_succ_cons, show i + n - k = (i + n - (k + 1)) + 1 by omega, List.drop_succ_cons]
        rfl
      · by_cases h2 : k < i + n
        · have hr : runB false k i n = true := by unfold runB; simp; omega
          rw [hr]
          simp only [if_true, hgn]
          rw [show i - k = 0 by omega, show i - (k + 1) = 0 by omega, show i + n - k = (i + n - (k + 1)) + 1 by omega, List.drop_succ_cons]
          rfl
        · have hr : runB false k i n = false := by unfold runB; simp; omega
          rw [hr]
          simp only [Bool.false_eq_true, if_false, hg]
          rw [show i - k = 0 by omega, show i - (k + 1) = 0 by omega, show i + n - k = 0 by omega, show i + n - (k + 1) = 0 by omega]
          rfl
    · have hr : runB true k i n = false := by unfold runB; simp
      rw [hr]
      simp only [Bool.false_eq_true, if_false, if_true, hg, List.nil_append, Nat.add_zero]
theorem runL_ok {l : List CellV} {i n : Int} (h : l.length ≤ 20000) : spansOk (runL l i n) = true := (plsOf_ok _ _ h).1
theorem runL_last {l : List CellV} {i n : Int} : lastLe (runL l i n) l.length = true := by
  unfold lastLe
  cases h : (runL l i n).getLast? with
  | none => rfl
  | some x =>
    have := plsOf_in _ _ x (List.mem_of_getLast? h)
    simp only [decide_eq_true_eq]
    omega
theorem runL_len {l : List CellV} {i n : Int} (h : l.length ≤ 20000) : (runL l i n).length ≤ 20000 := by
  have := plsOf_len (runP l i n) l.length
  unfold runL
  omega
/-- What is left of the text where a run goes. -/
theorem run_mark {l : List CellV} {i n : Nat} (h : l.length ≤ 20000) : liveR (markS (runL l i n) 0 l) = (liveR l).take i ++ (liveR l).drop (i + n) := by
  have hp := (plsOf_ok (runP l i n) l.length h).2
  have e : markS (runL l i n) 0 l = markP (fun j => (l[j]?.map fun c => runB c.gone (0 + seenN l j) i n).getD false) l := by
    unfold markS
    refine markP_congr (fun j hj => ?_)
    rw [Nat.zero_add]
    unfold runL
    rw [hp, decide_eq_true hj, Bool.true_and]
    unfold runP
    simp only [Nat.zero_add]
  rw [e, mark_run i n l 0]
  rfl
/-- The deletion of a run. -/
def edDel (a : Option Addr) (n c : Nat) : OpV := ⟨16, 549755813888, 0, 2, 0, ⟨#[]⟩, a, n, c⟩
/-- The insertion at a gap. -/
def edIns (p : Int) : OpV := ⟨16, 549755813888, 0, 1, p, xy, none, 0, 0⟩
theorem edDel_ok {w : World} {a : Option Addr} {n c : Nat} {sp : List (Int × Int)} (h : IsSpans w a n c sp) : (edDel a n c).ok w sp :=
  { i1 := by unfold edDel; dsimp only; omega, i2 := by unfold edDel; dsimp only; omega, i3 := by unfold edDel; dsimp only; omega, i4 := by unfold edDel; dsimp only; omega, i5 := by unfold edDel; dsimp only; omega, tx := .inr (fun i hi => absurd (show i < 0 from hi) (by omega)), sz := (by decide : (0 : Nat) < 4611686018427387904), sp := h }
theorem edIns_ok {w : World} {p : Int} (hp : 0 ≤ p ∧ p ≤ 20000) : (edIns p).ok w [] :=
  { i1 := by unfold edIns; dsimp only; omega, i2 := by unfold edIns; dsimp only; omega, i3 := by unfold edIns; dsimp only; omega, i4 := by unfold edIns; dsimp only; omega, i5 := by unfold edIns; dsimp only; omega, tx := .inr ascii_xy, sz := (by decide : xy.size < 4611686018427387904), sp := ⟨rfl, Nat.le_refl _, Nat.zero_le _, (fun x hx => by cases hx), (fun i x hx => by cases hx)⟩ }
theorem edDel_do {l : List CellV} {i n : Int} (h : l.length ≤ 20000) (a : Option Addr) (m c : Nat) : doE (edDel a m c) (runL l i n) l = 0 ∧ doL (edDel a m c) (runL l i n) l = markS (runL l i n) 0 l := by
  have hm : opMay (edDel a m c) (runL l i n) l.length = true := by
    unfold opMay
    rw [if_neg (show ¬ (edDel a m c).kind = 1 by show ¬ (2 : Int) = 1; decide), if_pos (show (edDel a m c).kind = 2 from rfl)]
    have hd : delOk (edDel a m c) l.length (runL l i n) = true := by
      simp [delOk, edDel, runL_ok h, runL_last]
    rw [hd]
    rfl
  constructor
  · unfold doE
    rw [if_pos hm, if_pos (show (edDel a m c).kind = 2 from rfl)]
  · unfold doL
    rw [if_pos hm, if_pos (show (edDel a m c).kind = 2 from rfl)]
/-- Why the insertion may be refused. -/
theorem edIns_no {l : List CellV} {p : Nat} (hl : l.length ≤ 20000) (hp : p ≤ l.length) (h : ¬ doE (edIns p) [] l = 0) : doE (edIns p) [] l = 15 ∨ 19998 < (l.length : Int) := by
  by_cases hb : 19998 < (l.length : Int)
  · exact .inr hb
  left
  have hs : xy.size = 2 := by decide
  have hm : opMay (edIns p) [] l.length = true := by
    unfold opMay
    rw [if_pos (show (edIns p).kind = 1 from rfl)]
    have hi : insOk (edIns p) l.length = true := by
      simp [insOk, edIns, textOk, ulen_xy, inB, hs]
      omega
    rw [hi]
    rfl
  unfold doE at h ⊢
  rw [if_pos hm, if_neg (show ¬ (edIns p).kind = 2 by show ¬ (1 : Int) = 2; decide)] at h ⊢
  by_cases hn : (edIns (p : Int)).name ∈ l.map CellV.name
  · rw [if_pos hn]
  · rw [if_neg hn] at h
    exact absurd rfl h
end Go.Proofs.YtlbkalbelefhmaaDoor

namespace Go.Proofs.YtlbkalbelefhmaaDoor
open Go.RowKit Go.Mine
open Classical

def abc : ByteArray := ⟨#[97, 98, 99]⟩
theorem runesOf_abc : runesOf abc = some [97, 98, 99] := by
  have h0 : Lib.decodeGo abc = (97, 1) := by decide
  have h1 : tl abc 1 = ⟨#[98, 99]⟩ := by decide
  have h2 : Lib.decodeGo ⟨#[98, 99]⟩ = (98, 1) := by decide
  have h3 : tl ⟨#[98, 99]⟩ 1 = ⟨#[99]⟩ := by decide
  have h4 : Lib.decodeGo ⟨#[99]⟩ = (99, 1) := by decide
  have h5 : tl ⟨#[99]⟩ 1 = ⟨#[]⟩ := by decide
  rw [runesOf_step (by decide) (by unfold bad1; rw [h0]; decide), h0]
  dsimp only
  rw [h1, runesOf_step (by decide) (by unfold bad1; rw [h2]; decide), h2]
  dsimp only
  rw [h3, runesOf_step (by decide) (by unfold bad1; rw [h4]; decide), h4]
  dsimp only
  rw [h5, runesOf_nil (by decide)]
  rfl
theorem ulen_abc : ulen abc = 3 := by rw [ulen_some runesOf_abc]; rfl
theorem ascii_abc : ascii abc := by unfold ascii abc; decide
def alv1 : OpV := ⟨1, 1, 0, 1, 0, abc, none, 0, 0⟩
def alv2 (b : Nat) : OpV := ⟨1, 2, 0, 2, 0, ⟨#[]⟩, some ⟨b, 0, none⟩, 1, 1⟩
def alvL : List CellV := [⟨1, 1, 0, 97, false⟩, ⟨1, 1, 1, 98, false⟩, ⟨1, 1, 2, 99, false⟩]
def alvM : List CellV := [⟨1, 1, 0, 97, false⟩, ⟨1, 1, 1, 98, true⟩, ⟨1, 1, 2, 99, false⟩]
theorem alv1_ok (w : World) : alv1.ok w [] := by
  refine ⟨?_, ?_, ?_, ?_, ?_, .inr ascii_abc, (by decide : abc.size < 4611686018427387904), ⟨rfl, Nat.le_refl _, Nat.zero_le _, (fun x hx => by cases hx), (fun i x hx => by cases hx)⟩⟩ <;> simp [alv1]
theorem alv1_may : opMay alv1 [] 0 = true := by
  have h : abc.size = 3 := by decide
  simp [opMay, insOk, alv1, textOk, ulen_abc, inB, h, nameOk]
theorem alv1_do : doE alv1 [] [] = 0 ∧ doL alv1 [] [] = alvL := by
  have hm : opMay alv1 [] (([] : List CellV).length : Int) = true := alv1_may
  have hr : runesD alv1.text = [97, 98, 99] := by unfold runesD alv1; dsimp only; rw [runesOf_abc]; rfl
  constructor
  · unfold doE
    rw [if_pos hm, if_neg (by decide), if_neg (by simp)]
  · unfold doL
    rw [if_pos hm, if_neg (by decide), if_neg (by simp), hr]
    rfl
theorem alv2_may (b : Nat) : opMay (alv2 b) [(1, 1)] 3 = true := by
  simp [opMay, delOk, alv2, spansOk, spansFrom, lastLe, inB, nameOk]
theorem alv2_do (b : Nat) : doE (alv2 b) [(1, 1)] alvL = 0 ∧ doL (alv2 b) [(1, 1)] alvL = alvM := by
  have hm : opMay (alv2 b) [(1, 1)] (alvL.length : Int) = true := alv2_may b
  constructor
  · unfold doE
    rw [if_pos hm, if_pos (show (alv2 b).kind = 2 from rfl)]
  · unfold doL
    rw [if_pos hm, if_pos (show (alv2 b).kind = 2 from rfl)]
    rfl
theorem alvM_text : textB alvM = ⟨#[97, 99]⟩ := by
  have h : liveR alvM = [97, 99] := by decide
  unfold textB
  rw [h, if_pos (by decide)]
  decide
theorem alvM_gap : gapV alvM 1 = .tuple #[.int .i64 2, .int .i64 0] := by
  have h1 : liveN alvM = 2 := by decide
  have h2 : gapPos alvM 1 = 2 := by decide
  unfold gapV
  rw [h1, if_neg (by decide), if_neg (by decide)]
  have e : (1 : Int).toNat = 1 := rfl
  rw [e, h2]
  rfl

set_option maxHeartbeats 4000000 in
set_option maxRecDepth 1000000 in
theorem alive12_any (w : World) : Calls Tryd.prog 9 #[] w fun e w' => e = .returned (.bool true) ∧ Mod none_ w w' := by
  have HN := Lib.hid (new_any w none 0 0 [] ⟨rfl, Nat.le_refl _, Nat.zero_le _, (fun x hx => by cases hx), (fun i x hx => by cases hx)⟩ (by omega))
  go_enter Tryd.func9, Tryd.ntmps9
  go_wp2_with fail
  refine HN.out.mono ?_
  rintro e w1 ⟨m1, _, hgood⟩
  have hne : newE [] = 0 := by
    unfold newE
    simp
  obtain ⟨D, rfl, hdoc⟩ := hgood hne
  have hP : DocP w none_ w1 D [] := ⟨⟨m1, ⟨_, hdoc.s, fun k hk => ⟨hk, fun e => e⟩⟩, fun k hk => hk.elim, Cl.new hne (fun c hc => by cases hc) (by decide)⟩, Good.of hne (fun c hc => by cases hc) (by decide)⟩
  have P1 := Lib.hid hP
  have HD1 := hP.do_ alv1 [] (alv1_ok w1) (by decide) (fun b off e => by cases e)
  rw [alv1_do.1, alv1_do.2] at HD1
  have HD1 := Lib.hid HD1
  clear hP hgood hdoc m1 HN hne
  go_wp2_with fail
  refine HD1.out.mono ?_
  rintro e w2 ⟨rfl, hQ⟩
  have P2 := Lib.hid hQ.p
  have kS := Blk.new (w := w2) (cs := [.int .i64 1, .int .i64 1]) (t := 82)
  have mS := (Mod.refl none_ w2).alloc (.cells #[.int .i64 1, .int .i64 1] 82)
  have hB := hQ.p.box mS
  have hsp : IsSpans (w2.alloc (.cells #[.int .i64 1, .int .i64 1] 82)) (some ⟨w2.heap.size, 0, none⟩) 1 1 [(1, 1)] :=
    ⟨rfl, Nat.le_refl _, by unfold maxLen; omega, (fun x hx => by rw [List.mem_singleton.1 hx]; dsimp only; omega), (fun i x hx => by
      match i, hx with
      | 0, hx =>
        cases hx
        exact ⟨w2.heap.size, 0, rfl, kS.cell 0, kS.cell 1⟩)⟩
  have HD2 := hB.do_ (alv2 w2.heap.size) [(1, 1)] (by
    refine ⟨?_, ?_, ?_, ?_, ?_, .inr (fun i hi => absurd (show i < 0 from hi) (by omega)), (by decide : (0 : Nat) < 4611686018427387904), hsp⟩ <;> simp [alv2]) (by show (0 : Nat) ≤ _; omega) (box_far hsp (fun b off e _ => by cases e; exact Nat.le_refl _))
  rw [(alv2_do w2.heap.size).1, (alv2_do w2.heap.size).2] at HD2
  have HD2 := Lib.hid HD2
  clear hQ kS mS hB hsp HD1 P1
  go_wp2_with fail
  refine HD2.out.mono ?_
  rintro e w3 ⟨rfl, hQ⟩
  have P3 := Lib.hid hQ.p
  have HG := gap_any w3 0 D alvM 1 hQ.p.f.is (by decide)
  rw [alvM_gap] at HG
  have HG := Lib.hid HG
  clear hQ HD2
  go_wp2_with fail
  refine HG.out.mono ?_
  rintro e w4 ⟨rfl, m4⟩
  have P4 := Lib.hid (P3.out.grown m4)
  have HT : RowKit.Hid (Calls Tryd.prog 13 #[.pointer (some ⟨D, 0, none⟩)] w4 fun e w' => e = .returned (.string ⟨#[97, 99]⟩) ∧ Mod none_ w4 w') := by
    obtain ⟨S, h1⟩ := P4.out.doc
    obtain ⟨v, MB, bl, hv, _, hl, _⟩ := h1.ex
    have := text_cells w4 D MB v bl hv (by rw [hl]; exact P4.out.f.cl.ok) (by rw [hl]; decide)
    rw [hl, alvM_text] at this
    exact Lib.hid this
  clear m4 HG P3 P2
  go_wp2_with fail
  refine HT.out.mono ?_
  rintro e w5 ⟨rfl, m5⟩
  have P5 := Lib.hid (P4.out.grown m5)
  clear m5 HT
  go_wp2_with fail
  refine (size_any w5 0 D alvM P5.out.f.is (by decide)).mono ?_
  rintro e w6 ⟨rfl, m6⟩
  have P6 := Lib.hid (P5.out.grown m6)
  have HL := live_any w6 0 D alvM (P5.out.grown m6).f.is (by decide)
  rw [show liveN alvM = 2 from by decide] at HL
  have HL := Lib.hid HL
  have hl3 : ((alvM.length : Nat) : Int) = 3 := rfl
  clear m6
  go_wp2_with fail
  refine HL.out.mono ?_
  rintro e w7 ⟨rfl, m7⟩
  have P7 := Lib.hid (P6.out.grown m7).f.m
  clear m7
  go_wp2_with fail
  go_ret
  exact ⟨rfl, P7.out⟩
end Go.Proofs.YtlbkalbelefhmaaDoor

namespace Go.Proofs.YtlbkalbelefhmaaDoor
open Go.RowKit Go.Mine Go.Deep
open Classical

theorem liveR_good {l : List CellV} (h : Good l) : vR (liveR l) := liveR_valid h.new
theorem IsSpans.mod {T : Nat → Prop} {w w' : World} {a : Option Addr} {len cap : Nat} {l : List (Int × Int)} (h : IsSpans w a len cap l) (m : Mod T w w') (hT : ∀ b off, a = some ⟨b, off, none⟩ → 0 < len → ¬ T b) : IsSpans w' a len cap l :=
  ⟨h.n, h.le, h.big, h.ok, fun i x hx => by
    obtain ⟨b, off, e, c0, c1⟩ := h.cells i x hx
    have hi := (List.getElem?_eq_some_iff.1 hx).1
    have hp : 0 < len := by rw [← h.n]; omega
    exact ⟨b, off, e, m.cell (hT b off e hp) c0, m.cell (hT b off e hp) c1⟩⟩
theorem IsSpans.lt {w : World} {a : Option Addr} {len cap : Nat} {l : List (Int × Int)} (h : IsSpans w a len cap l) : ∀ b off, a = some ⟨b, off, none⟩ → 0 < len → b < w.heap.size := by
  intro b off e hn
  have hl : 0 < l.length := by rw [h.n]; exact hn
  obtain ⟨b', off', e', hc, _⟩ := h.cells 0 l[0] (List.getElem?_eq_getElem hl)
  rw [e] at e'
  cases e'
  exact block_lt_of_cell hc
theorem act_cell {w : World} {b o : Nat} {x : ActV} (h0 : w.cell? ⟨b, o, none⟩ = some (.int .u8 x.k)) (h1 : w.rangeAt b (o + 1) x.o.cs) : w.rangeAt b o x.cs := by
  intro j v hj
  match j, hj with
  | 0, hj => cases hj; exact h0
  | j + 1, hj =>
    have := h1 j v hj
    rw [← this]
    congr 1
    congr 1
    omega

set_option maxHeartbeats 16000000 in
set_option maxRecDepth 1000000 in
theorem cellsEdits_any (w : World) (ca : Option Addr) (clen ccap : Nat) (l : List CellV) (hc : IsCells w ca clen ccap l) (aa : Option Addr) (alen acap : Nat) (acts : List ActV) (ha : IsActs w aa alen acap acts) (i n : Int) (hib : -9223372036854775808 ≤ i ∧ i ≤ 9223372036854775807) (hnb : -9223372036854775808 ≤ n ∧ n ≤ 9223372036854775807) :
    Calls Tryd.prog 3 #[.slice ca clen ccap, .slice aa alen acap, .agg #[.int .i64 i, .int .i64 n]] w fun e w' => e = .returned (.bool true) ∧ Mod none_ w w' := by
  obtain ⟨W0, hW0⟩ : ∃ W0, w.alloc (.cells #[.int .i64 i, .int .i64 n] 24) = W0 := ⟨_, rfl⟩
  obtain ⟨K, hK⟩ : ∃ K, K = w.heap.size := ⟨_, rfl⟩
  have m0 : Mod none_ w W0 := by rw [← hW0]; exact (Mod.refl none_ w).alloc _
  have k0 : Blk W0 K [.int .i64 i, .int .i64 n] 24 := by
    rw [← hW0, hK]
    exact Blk.new (w := w) (cs := [.int .i64 i, .int .i64 n]) (t := 24)
  have hKw : w.heap.size ≤ K := by omega
  have hale := ha.le
  have habig := ha.big
  unfold maxLen at habig
  have HC := Lib.hid hc
  have HA := Lib.hid ha
  have HAN := Lib.hid ha.n
  have M0 := Lib.hid m0
  have K0 := Lib.hid k0
  clear hc ha m0 k0
  go_enter Tryd.func3, Tryd.ntmps3
  go_upto_region 1 with fail
  rw [← hK]
  clear hW0 hK
  go_wp2_with fail
  refine (alive12_any W0).mono ?_
  rintro e w1 ⟨rfl, m1⟩
  have M1 := Lib.hid (M0.out.trans m1)
  have K1 := Lib.hid (K0.out.mod m1 (fun e => e))
  have HG := Lib.hid (great_acts w1 ca clen ccap HC.out.le HC.out.big aa alen acap acts (HA.out.grown M1.out))
  clear m1 M0 K0
  go_wp2_with fail
  refine HG.out.mono ?_
  rintro e w2 ⟨rfl, m2⟩
  have M2 := Lib.hid (M1.out.trans m2)
  have K2 := Lib.hid (K1.out.mod m2 (fun e => e))
  clear m2 HG M1 K1
  cases hg : greatB clen acts
  case true =>
    go_wp2_with fail
    go_ret
    exact ⟨rfl, M2.out⟩
  have HGB := Lib.hid hg
  have hcl : clen ≤ 250 := by unfold greatB at hg; simp at hg; omega
  have hal : alen ≤ 25 := by have := HAN.out; unfold greatB at hg; simp at hg; omega
  clear hg
  have HN := Lib.hid (new_any w2 ca clen ccap l (HC.out.grown M2.out) (by omega))
  go_wp2_with fail
  refine HN.out.mono ?_
  rintro e w3 ⟨m3, hbad, hgood⟩
  have M3 := Lib.hid (M2.out.trans m3)
  by_cases hne0 : ¬ newE l = 0
  · have hne := hne0
    obtain ⟨E, hE⟩ : ∃ E, E = newE l := ⟨_, rfl⟩
    rw [hbad hne, ← hE]
    rw [← hE] at hne
    have hne2 : (E == 0) = false := by simpa using hne
    clear hE hbad hgood m3 HN hne0
    go_wp2_with fail
    go_ret
    exact ⟨rfl, M3.out⟩
  have hne : newE l = 0 := Classical.not_not.1 hne0
  clear hne0
  obtain ⟨D, rfl, hdoc⟩ := hgood hne
  obtain ⟨E, hE⟩ : ∃ E : Nat → Prop, E = fun k => k = K := ⟨_, rfl⟩
  have hK2 := K2.out.lt
  have hP3 : DocP w E w3 D l := by
    have hlen : l.length ≤ 20000 := by rw [HC.out.n]; omega
    refine ⟨⟨M3.out, ⟨_, hdoc.s, fun k hk => ⟨Nat.le_trans M2.out.size hk, fun e => ?_⟩⟩, fun k hk => ?_, Cl.new hne HC.out.ok hlen⟩, Good.of hne HC.out.ok hlen⟩
    · rw [hE] at e
      have e' : k = K := e
      omega
    · rw [hE] at hk
      have e' : k = K := hk
      have := m3.size
      omega
  have hEK : E K := by rw [hE]
  have hEw : ∀ k, E k → w.heap.size ≤ k := fun k hk => by rw [hE] at hk; have e' : k = K := hk; omega
  have P3 := Lib.hid (And.intro hP3 (K2.out.mod m3 (fun e => e)))
  have HEK := Lib.hid (And.intro hEK hEw)
  clear hdoc hne hbad hgood m3 HN hP3 hE M3 K2 hEK hEw hK2
  go_wp2_with fail
  go_loopg [9] alen (fun g s9 wx => ∃ (k : Nat) (L : List CellV), g = alen - k ∧ s9 = .int .i64 k ∧ k ≤ alen ∧ RowKit.Hid (DocP w E wx D L ∧ Blk wx K [.int .i64 i, .int .i64 n] 24))
  case atStart => exact ⟨0, l, rfl, rfl, Nat.zero_le _, P3⟩
  case round =>
    obtain ⟨k, L, rfl, rfl, hk, hst⟩ := hrel
    by_cases hlk : k < alen
    · obtain ⟨x, hx⟩ : ∃ x, acts[k]? = some x := ⟨acts[k]'(by rw [HAN.out]; exact hlk), by simp⟩
      have HAX := HA.out.grown hst.out.1.f.m
      obtain ⟨b, off, rfl, hk0, hr0⟩ := HAX.acts k x hx
      have hr := act_cell hk0 hr0
      have hmem := List.mem_of_getElem? hx
      have hbig : bigOp x.o = false := by
        have h := HGB.out
        unfold greatB at h
        simp only [Bool.or_eq_false_iff] at h
        have := List.any_eq_false.1 h.2 x hmem
        simpa using this
      have hsz : x.o.text.size ≤ 1000 := by unfold bigOp at hbig; simp at hbig; omega
      have hok : x.o.ok w x.sp := (HA.out.ok x hmem).1.ok (by omega)
      have HACT := Lib.hid (hst.out.1.act x hok (by omega) (HA.out.ok x hmem).2)
      have c0 := hr 0 _ rfl
      have c1 := hr 1 _ rfl
      have c2 := hr 2 _ rfl
      have c3 := hr 3 _ rfl
      have c4 := hr 4 _ rfl
      have c5 := hr 5 _ rfl
      have c6 := hr 6 _ rfl
      have c7 := hr 7 _ rfl
      rw [Nat.add_zero] at c0
      clear hr hx HAX hmem hbig hok hk0 hr0
      go_wp2_with fail
      refine HACT.out.mono ?_
      rintro e w8 ⟨rfl, hQ⟩
      have DD := Lib.hid (And.intro hQ.p (hQ.bs HEK.out.1 hst.out.2))
      clear hQ c0 c1 c2 c3 c4 c5 c6 c7 hst HACT
      go_wp2_with fail
      go_roundg (alen - (k + 1))
      all_goals first
        | omega
        | exact ⟨k + 1, actL x L, rfl, by go_num, by omega, DD⟩
    · obtain rfl : k = alen := by omega
      have hLb := hst.out.1.f.cl.big
      have c0 := hst.out.2.cell 0
      have c1 := hst.out.2.cell 1
      simp only [List.getElem?_cons_zero, List.getElem?_cons_succ] at c0 c1
      go_upto_region 12 with fail
      go_quiet (fail)
      have P4 := Lib.hid (hst.out.1.grown ((Mod.refl none_ wr).drewN nq))
      generalize wr.drewN nq = w4 at P4 ⊢
      have HGD := Lib.hid hst.out.1.g
      have HEW := Lib.hid HEK.out.2
      clear c0 c1 hst HEK HGB
      have hva := liveR_good HGD.out
      have htx := textB_valid hva
      obtain ⟨R, hR⟩ : ∃ R, R = liveR L := ⟨_, rfl⟩
      have hRl : R.length = liveN L := by rw [hR, liveR_len]
      have hlv := liveN_le L
      rw [← hR] at hva htx
      have HVA := Lib.hid hva
      have HTX := Lib.hid htx
      have HR := Lib.hid hR
      have HTE : RowKit.Hid (Calls Tryd.prog 13 #[.pointer (some ⟨D, 0, none⟩)] w4 fun e w' => e = .returned (.string ⟨(bytesOf R).toArray⟩) ∧ Mod none_ w4 w') := by
        obtain ⟨S, h1⟩ := P4.out.doc
        obtain ⟨v, MB, bl, hv, _, hl, _⟩ := h1.ex
        have := text_cells w4 D MB v bl hv (by rw [hl]; exact P4.out.f.cl.ok) (by rw [hl]; omega)
        rw [hl, HTX.out] at this
        exact Lib.hid this
      clear hva htx hR
      go_wp2_with fail
      refine HTE.out.mono ?_
      rintro e w6 ⟨rfl, m6⟩
      have hRb : R.length ≤ 20000 := by omega
      obtain ⟨cw, hcw, CV⟩ := conv_sr2 w6 R HVA.out (by omega)
      have hR0 : (r32s R).length = R.length := by simp [r32s]
      obtain ⟨W7, hW7⟩ : ∃ W7, w6.drew.alloc (.cells (r32s R ++ List.replicate (cw - R.length) (Value.int .i32 0)).toArray 21) = W7 := ⟨_, rfl⟩
      rw [hW7] at CV
      obtain ⟨KW, hKW⟩ : ∃ KW, KW = w6.heap.size := ⟨_, rfl⟩
      have m7 : Mod none_ w6 W7 := by rw [← hW7]; exact (Mod.drew (Mod.refl none_ w6)).alloc _
      have kW : Blk W7 KW (r32s R ++ List.replicate (cw - R.length) (Value.int .i32 0)) 21 := by rw [← hW7, hKW]; exact Blk.new (w := w6.drew)
      rw [← hKW] at CV
      have P7 := Lib.hid (P4.out.grown (m6.trans m7))
      have KW7 := Lib.hid kW
      have HGA := Lib.hid (gap_any W7 0 D L i (P4.out.grown (m6.trans m7)).f.is (by omega))
      have M47 := Lib.hid (m6.trans m7)
      have hKW4 : w4.heap.size ≤ KW := by have := m6.size; omega
      clear kW m7 hW7 hKW m6 HTE
      go_wp2_with fail
      refine HGA.out.mono ?_
      rintro e w8 ⟨rfl, m8⟩
      clear CV HGA
      have P8 := Lib.hid (P7.out.grown m8)
      have KW8 := Lib.hid (KW7.out.mod m8 (fun e => e))
      have HRU : RowKit.Hid (Calls Tryd.prog 15 #[.pointer (some ⟨D, 0, none⟩), .int .i64 i, .int .i64 n] w8 fun e w' => ((runBad L i n = true ∧ e = .returned (.tuple #[.slice none 0 0, .int .i64 3])) ∨ (runBad L i n = false ∧ ∃ va n' vc, e = .returned (.tuple #[.slice va n' vc, .int .i64 0]) ∧ w'.ownsRow w8.heap.size 82 2 (.slice va n' vc) n' (flat spCs (runL L i n)))) ∧ Mod none_ w8 w') := by
        obtain ⟨S, h1⟩ := P8.out.doc
        exact Lib.hid (run_any w8 S D L i n hib h1 hLb)
      have M48 := Lib.hid (M47.out.trans m8)
      clear m8 P7 KW7 M47
      cases hgb : gapBad L i
      case true =>
        rw [gapV_bad hgb]
        have hrb : runBad L i n = true := by
          unfold gapBad at hgb
          unfold runBad
          rw [hgb]; rfl
        have hgb' : decide (i < 0) = true ∨ (decide (i < 0) = false ∧ decide ((liveN L : Int) < i) = true) := by
          unfold gapBad at hgb
          cases h : decide (i < 0) <;> simp_all
        have HRB := Lib.hid hrb
        clear hgb hrb
        go_wp2_with fail
        refine HRU.out.mono ?_
        rintro e w9 ⟨⟨_, rfl⟩ | ⟨h, _⟩, m9⟩
        · have M9 := Lib.hid (P8.out.grown m9).f.m
          clear m9 HRU
          rcases hgb' with h1 | ⟨h1, h2⟩
          · go_wp2_with fail
            go_ret
            exact ⟨rfl, M9.out⟩
          · go_wp2_with fail
            go_ret
            exact ⟨rfl, M9.out⟩
        · rw [HRB.out] at h; cases h
      rw [gapV_ok hgb]
      obtain ⟨hg3, hg4⟩ := gapN_le hgb
      have TY := Lib.hid (Typ.start hgb)
      obtain ⟨G, hG⟩ : ∃ G : Nat, gapN L i = G := ⟨(gapN L i).toNat, by omega⟩
      rw [hG]
      rw [hG, Int.toNat_natCast] at TY
      have hGL : G ≤ L.length := by omega
      obtain ⟨a, rfl⟩ : ∃ a : Nat, i = a := by simp [gapBad] at hgb; exact ⟨i.toNat, by omega⟩
      rw [Int.toNat_natCast] at TY
      have haL : a ≤ liveN L := by simp [gapBad] at hgb; omega
      clear hgb hg3 hg4 hG
      go_wp2_with fail
      refine HRU.out.mono ?_
      rintro e w9 ⟨⟨_, rfl⟩ | ⟨hrb, va, sn, vc, rfl, ho⟩, m9⟩
      · have M9 := Lib.hid (P8.out.grown m9).f.m
        clear m9 HRU
        go_wp2_with fail
        go_ret
        exact ⟨rfl, M9.out⟩
      obtain ⟨nn, rfl⟩ : ∃ nn : Nat, n = nn := by simp [runBad] at hrb; exact ⟨n.toNat, by omega⟩
      have hnL : a + nn ≤ liveN L := by simp [runBad] at hrb; omega
      obtain ⟨hsp, hsb⟩ := spans_owned ho (runL_ok hLb) (runL_len hLb)
      have P9 := Lib.hid (P8.out.grown m9)
      have KW9 := Lib.hid (KW8.out.mod m9 (fun e => e))
      have M49 := Lib.hid (M48.out.trans m9)
      have HSPN := Lib.hid hsp
      have h48 := M48.out.size
      have HSB := Lib.hid (show ∀ b off, va = some ⟨b, off, none⟩ → 0 < sn → w4.heap.size ≤ b from fun b off e h => Nat.le_trans h48 (hsb b off e h))
      have HCP : RowKit.Hid (Calls Tryd.prog 16 #[.pointer (some ⟨D, 0, none⟩)] w9 fun e w' => ∃ D2, e = .returned (.pointer (some ⟨D2, 0, none⟩)) ∧ Mod none_ w9 w' ∧ DocS w' (fun k => w9.heap.size ≤ k) D2 L) := by
        obtain ⟨S, h1⟩ := P9.out.doc
        exact Lib.hid (copy_any w9 S D L h1 HGD.out)
      clear hrb ho m9 hsp hsb P8 KW8 M48 HRU h48
      go_wp2_with fail
      refine HCP.out.mono ?_
      rintro e wA ⟨D2, rfl, mA, hd2⟩
      have kN := Blk.new (w := wA) (cs := [.int .i64 16, .int .i64 549755813888]) (t := 33)
      have mB := (Mod.refl none_ wA).alloc (.cells #[.int .i64 16, .int .i64 549755813888] 33)
      have HD2 := Lib.hid hd2
      have MA := Lib.hid mA
      clear hd2 mA HCP
      go_upto_region 20 with fail
      generalize wA.alloc (.cells #[.int .i64 16, .int .i64 549755813888] 33) = wB at kN mB ⊢
      obtain ⟨KN, hKN⟩ : ∃ KN, KN = wA.heap.size := ⟨_, rfl⟩
      rw [← hKN] at kN ⊢
      have hKNl : wA.heap.size ≤ KN := by omega
      clear hKN
      have MB := Lib.hid mB
      have d0 := kN.cell 0
      have d1 := kN.cell 1
      simp only [List.getElem?_cons_zero, List.getElem?_cons_succ] at d0 d1
      have KNB := Lib.hid kN
      have hA9 := MA.out.size
      have h49 := M49.out.size
      have hBA := mB.size
      have hKNb := kN.lt
      have PB := Lib.hid (P4.out.box (M49.out.trans (MA.out.trans mB)))
      have HDO := Lib.hid (PB.out.do_ (edIns G) [] (edIns_ok (by omega)) (show xy.size ≤ _ by decide) (fun b off e => by cases e))
      clear mB kN
      go_wp2_with fail
      refine HDO.out.mono ?_
      rintro e wC ⟨rfl, hQ⟩
      have HQ := Lib.hid hQ
      have kNC := hQ.bs (.inr ⟨by omega, hKNb⟩) KNB.out
      have KWC := Lib.hid (hQ.bs (.inr ⟨hKW4, by have := KW9.out.lt; omega⟩) ((KW9.out.mod MA.out (fun e => e)).mod MB.out (fun e => e)))
      have hd2C : DocS wC (fun k => w9.heap.size ≤ k ∧ k < wB.heap.size) D2 L :=
        ((HD2.out.mono (T := fun k => w9.heap.size ≤ k ∧ k < wB.heap.size) (fun k hk hs => ⟨hs, by omega⟩)).grown MB.out).mod hQ.mo (fun k hk h => h (.inr ⟨by omega, hk.2⟩))
      have hspC : IsSpans wC va sn vc (runL L a nn) := ((HSPN.out.grown MA.out).grown MB.out).mod hQ.mo (fun b off e hn h => h (.inr ⟨HSB.out b off e hn, by have := HSPN.out.lt b off e hn; omega⟩))
      have HDC := do_any wC (fun k => w9.heap.size ≤ k ∧ k < wB.heap.size) D2 L (edDel va sn vc) (runL L a nn) hd2C hLb HGD.out.cl.ok (edDel_ok hspC) (show (0 : Nat) ≤ _ by omega) (fun b off e hn h => by
        have := HSPN.out.lt b off e hn
        omega)
      rw [(edDel_do hLb va sn vc).1, (edDel_do hLb va sn vc).2] at HDC
      have HDC := Lib.hid HDC
      clear hQ d0 d1 hd2C hspC HDO HD2
      have d0 := kNC.cell 0
      have d1 := kNC.cell 1
      simp only [List.getElem?_cons_zero, List.getElem?_cons_succ] at d0 d1
      clear kNC
      go_wp2_with fail
      refine HDC.out.mono ?_
      rintro e wD ⟨rfl, mD, hdD⟩
      have KWD := KWC.out.mod mD (fun h => by have := KW9.out.lt; omega)
      have HPD : RowKit.Hid (DocP w (fun k => E k ∨ (w4.heap.size ≤ k ∧ k < wB.heap.size)) wD D (doL (edIns G) [] L)) :=
        Lib.hid ⟨HQ.out.p.f.put (mD.mono (fun k _ h => .inr ⟨by omega, h.2⟩)) (fun k hk => by
          rcases hk with hk | hk
          · exact HEW.out k hk
          · have := P4.out.f.m.size; omega), HQ.out.p.g⟩
      have HDD := Lib.hid hdD
      clear d0 d1 mD hdD HDC HQ
      obtain ⟨qn, hqn⟩ : ∃ qn, qn = a + nn := ⟨_, rfl⟩
      have hsum : (a : Int) + (nn : Int) = (qn : Int) := by omega
      have hwq : IntKind.i64.wrap (qn : Int) = (qn : Int) := by rw [IntKind.wrap_i64]; omega
      obtain ⟨A, hA⟩ : ∃ A : ByteArray, A = ⟨(bytesOf (R.take a)).toArray⟩ := ⟨_, rfl⟩
      obtain ⟨C, hC⟩ : ∃ C : ByteArray, C = ⟨(bytesOf (R.drop a)).toArray⟩ := ⟨_, rfl⟩
      obtain ⟨C2, hC2⟩ : ∃ C2 : ByteArray, C2 = ⟨(bytesOf (R.drop qn)).toArray⟩ := ⟨_, rfl⟩
      have bnd : ∀ q : List Int, q.length ≤ 40000 → ByteArray.size ⟨(bytesOf q).toArray⟩ ≤ 160000 := fun q hq => by
        have h1 := flat_len q
        rw [← bytesOf_cells, List.length_map] at h1
        rw [Lib.size_eq]
        show (bytesOf q).length ≤ _
        omega
      have sA : A.size ≤ 160000 := by rw [hA]; exact bnd _ (by rw [List.length_take]; omega)
      have sC : C.size ≤ 160000 := by rw [hC]; exact bnd _ (by rw [List.length_drop]; omega)
      have sC2 : C2.size ≤ 160000 := by rw [hC2]; exact bnd _ (by rw [List.length_drop]; omega)
      have h1s : ¬ (9223372036854775807 < A.size + C2.size) := by omega
      have h2s : ¬ (9223372036854775807 < A.size + 2) := by omega
      have h3s : ¬ (9223372036854775807 < A.size + 2 + C.size) := by omega
      have HCW := Lib.hid (show ∀ (j : Nat) (x : Int), R[j]? = some x → wD.cell? ⟨KW, j, none⟩ = some (.int .i32 x) from fun j x hx => by
        obtain ⟨hj, _⟩ := List.getElem?_eq_some_iff.1 hx
        rw [KWD.cell, List.getElem?_append_left (by simp [r32s]; exact hj)]
        simp [r32s, hx])
      have conv0 : ∀ (m : Nat), m ≤ R.length → ∀ (w' : World), (∀ (j : Nat) (x : Int), R[j]? = some x → w'.cell? ⟨KW, j, none⟩ = some (.int .i32 x)) → (convert 39 9 (.slice (some ⟨KW, 0, none⟩) m cw)).run Tryd.prog w' = .ok (.string ⟨(bytesOf (R.take m)).toArray⟩) w' := fun m hm w' q => by
        refine conv_rs w' KW 0 m cw (R.take m) (by rw [List.length_take]; omega) (fun j x hx => ?_) (fun r hr => HVA.out r (List.mem_of_mem_take hr))
        rw [Nat.zero_add]
        refine q j x ?_
        rw [List.getElem?_take] at hx
        split at hx
        · exact hx
        · cases hx
      have conv1 : ∀ (m : Nat), m ≤ R.length → ∀ (w' : World), (∀ (j : Nat) (x : Int), R[j]? = some x → w'.cell? ⟨KW, j, none⟩ = some (.int .i32 x)) → (convert 39 9 (.slice (if cw = m then some ⟨KW, 0, none⟩ else some ⟨KW, m, none⟩) (liveN L - m) (cw - m))).run Tryd.prog w' = .ok (.string ⟨(bytesOf (R.drop m)).toArray⟩) w' := fun m hm w' q => by
        split
        · refine conv_rs w' KW 0 (liveN L - m) (cw - m) (R.drop m) (by rw [List.length_drop]; omega) (fun j x hx => ?_) (fun r hr => HVA.out r (List.mem_of_mem_drop hr))
          have := (List.getElem?_eq_some_iff.1 hx).1
          rw [List.length_drop] at this
          omega
        · refine conv_rs w' KW m (liveN L - m) (cw - m) (R.drop m) (by rw [List.length_drop]; omega) (fun j x hx => ?_) (fun r hr => HVA.out r (List.mem_of_mem_drop hr))
          rw [List.getElem?_drop] at hx
          exact q _ x hx
      obtain ⟨PA, hPA⟩ : ∃ PA : Option Addr, PA = (if cw = qn then some ⟨KW, 0, none⟩ else some ⟨KW, qn, none⟩) := ⟨_, rfl⟩
      obtain ⟨PB, hPB⟩ : ∃ PB : Option Addr, PB = (if cw = a then some ⟨KW, 0, none⟩ else some ⟨KW, a, none⟩) := ⟨_, rfl⟩
      have HPA := Lib.hid hPA
      have HPB := Lib.hid hPB
      have HCA := Lib.hid (conv0 a (by omega))
      rw [← hA] at HCA
      have HCC := Lib.hid (conv1 a (by omega))
      rw [← hC, ← hPB] at HCC
      have HCC2 := Lib.hid (conv1 qn (by omega))
      rw [← hC2, ← hPA] at HCC2
      have hcn1 : ¬ (cw < a) := by omega
      have hcn2 : ¬ (cw < qn) := by omega
      have hln1 : ¬ (liveN L < a) := by omega
      have hln2 : ¬ (liveN L < qn) := by omega
      have HTC := Lib.hid (show ∀ (w' : World), Mod none_ wD w' → Calls Tryd.prog 13 #[.pointer (some ⟨D2, 0, none⟩)] w' fun e w2 => e = .returned (.string (A ++ C2)) ∧ Mod none_ w' w2 from fun w' m => by
        obtain ⟨v, MB', bl, hv, _, hl, _⟩ := (HDD.out.grown m).ex
        have hgm : Good (markS (runL L a nn) 0 L) := by
          have := HGD.out.doL (o := edDel va sn vc) (sp := runL L a nn) (edDel_ok HSPN.out).i1 (edDel_ok HSPN.out).i2
          rw [(edDel_do hLb va sn vc).2] at this
          exact this
        have := text_cells w' D2 MB' v bl hv (by rw [hl]; exact hgm.cl.ok) (by rw [hl, markS_len]; omega)
        rw [hl, textB_valid (liveR_good hgm), run_mark hLb, ← HR.out, ← bytes_app, ← hqn, ← hA, ← hC2] at this
        exact this)
      have HHA := Lib.hid hA
      have HHC := Lib.hid hC
      clear hA hC hC2 hPA hPB bnd sA sC sC2 conv0 conv1 hqn KWD
      go_upto_region 22 with fail
      refine wp_region_held_drew (S := fun w' => Mod none_ wD w' ∧ ∀ (j : Nat) (x : Int), R[j]? = some x → w'.cell? ⟨KW, j, none⟩ = some (.int .i32 x)) (by kernel_rfl) ⟨Mod.drew (Mod.refl none_ wD), HCW.out⟩ (fun hS => ?_)
      refine wpAnyH_take (i := 0) (v := .int .i64 0) rfl (by kernel_rfl) (by kernel_rfl) (by kernel_rfl) (fun _ _ _ h => h) (Or.inl ⟨by kernel_rfl, ?_⟩) hS ?_
      · rintro w' ⟨_, q⟩; go_simp
      try simp only [Act.put, List.setIfInBounds_toArray]
      refine wpAnyH_take (i := 1) (v := .bool false) rfl (by kernel_rfl) (by kernel_rfl) (by kernel_rfl) (fun _ _ _ h => h) (Or.inl ⟨by kernel_rfl, ?_⟩) hS ?_
      · rintro w' ⟨_, q⟩; go_simp
      try simp only [Act.put]
      refine wpAnyH_take (i := 2) (v := .bool false) rfl (by kernel_rfl) (by kernel_rfl) (by kernel_rfl) (fun _ _ _ h => h) (Or.inl ⟨by kernel_rfl, ?_⟩) hS ?_
      · rintro w' ⟨_, q⟩; go_simp
      try simp only [Act.put]
      refine wpAnyH_take (i := 3) (v := .pointer (some ⟨D2, 0, none⟩)) rfl (by kernel_rfl) (by kernel_rfl) (by kernel_rfl) (fun _ _ _ h => h) (Or.inl ⟨by kernel_rfl, ?_⟩) hS ?_
      · rintro w' ⟨_, q⟩; go_simp
      try simp only [Act.put]
      refine wpAnyH_take (i := 5) (v := .slice (some ⟨KW, 0, none⟩) (liveN L) cw) rfl (by kernel_rfl) (by kernel_rfl) (by kernel_rfl) (fun _ _ _ h => h) (Or.inl ⟨by kernel_rfl, ?_⟩) hS ?_
      · rintro w' ⟨_, q⟩; go_simp
      try simp only [Act.put]
      refine wpAnyH_take (i := 6) (v := .int .i64 a) rfl (by kernel_rfl) (by kernel_rfl) (by kernel_rfl) (fun _ _ _ h => h) (Or.inl ⟨by kernel_rfl, ?_⟩) hS ?_
      · rintro w' ⟨_, q⟩; go_simp
      try simp only [Act.put]
      refine wpAnyH_take (i := 7) (v := .slice (some ⟨KW, 0, none⟩) a cw) rfl (by kernel_rfl) (by kernel_rfl) (by kernel_rfl) (fun _ _ _ h => h) (Or.inl ⟨by kernel_rfl, ?_⟩) hS ?_
      · rintro w' ⟨_, q⟩; go_simp
      try simp only [Act.put]
      refine wpAnyH_take (i := 8) (v := .string A) rfl (by kernel_rfl) (by kernel_rfl) (by kernel_rfl) (fun _ _ _ h => h) (Or.inl ⟨by kernel_rfl, ?_⟩) hS ?_
      · rintro w' ⟨_, q⟩; have cv := HCA.out w' q; go_simp
      try simp only [Act.put]
      refine wpAnyH_take (i := 9) (v := .slice (some ⟨KW, 0, none⟩) (liveN L) cw) rfl (by kernel_rfl) (by kernel_rfl) (by kernel_rfl) (fun _ _ _ h => h) (Or.inl ⟨by kernel_rfl, ?_⟩) hS ?_
      · rintro w' ⟨_, q⟩; go_simp
      try simp only [Act.put]
      refine wpAnyH_take (i := 10) (v := .int .i64 a) rfl (by kernel_rfl) (by kernel_rfl) (by kernel_rfl) (fun _ _ _ h => h) (Or.inl ⟨by kernel_rfl, ?_⟩) hS ?_
      · rintro w' ⟨_, q⟩; go_simp
      try simp only [Act.put]
      refine wpAnyH_take (i := 11) (v := .int .i64 nn) rfl (by kernel_rfl) (by kernel_rfl) (by kernel_rfl) (fun _ _ _ h => h) (Or.inl ⟨by kernel_rfl, ?_⟩) hS ?_
      · rintro w' ⟨_, q⟩; go_simp
      try simp only [Act.put]
      refine wpAnyH_take (i := 12) (v := .int .i64 (qn : Int)) rfl (by kernel_rfl) (by kernel_rfl) (by kernel_rfl) (fun _ _ _ h => h) (Or.inl ⟨by kernel_rfl, ?_⟩) hS ?_
      · rintro w' ⟨_, q⟩; go_simp
      try simp only [Act.put]
      refine wpAnyH_take (i := 13) (v := .slice PA (liveN L - qn) (cw - qn)) rfl (by kernel_rfl) (by kernel_rfl) (by kernel_rfl) (fun _ _ _ h => h) (Or.inl ⟨by kernel_rfl, ?_⟩) hS ?_
      · rintro w' ⟨_, q⟩; have hpa := HPA.out; go_simp
      try simp only [Act.put]
      refine wpAnyH_take (i := 14) (v := .string C2) rfl (by kernel_rfl) (by kernel_rfl) (by kernel_rfl) (fun _ _ _ h => h) (Or.inl ⟨by kernel_rfl, ?_⟩) hS ?_
      · rintro w' ⟨_, q⟩; have cv := HCC2.out w' q; go_simp
      try simp only [Act.put]
      refine wpAnyH_take (i := 15) (v := .string (A ++ C2)) rfl (by kernel_rfl) (by kernel_rfl) (by kernel_rfl) (fun _ _ _ h => h) (Or.inl ⟨by kernel_rfl, ?_⟩) hS ?_
      · rintro w' ⟨_, q⟩; go_simp
      try simp only [Act.put]
      refine wpAnyH_ready (rs := [4]) (by kernel_rfl) (by simp) (AllReadyH.cons rfl (fun K hK => ?_) <| AllReadyH.nil)
      rw [if_pos (by kernel_rfl)]
      go_simp
      refine (HTC.out _ hS.1).mono ?_
      rintro e wT ⟨rfl, mT⟩
      refine hK.out _ _ ⟨hS.1.trans mT, fun j x hx => mT.cell (fun e => e) (hS.2 j x hx)⟩ (fun hS => ?_)
      clear hK K
      try simp only [Act.put, List.setIfInBounds_toArray, List.set_cons_zero, List.set_cons_succ]
      refine wpAnyH_take (i := 16) (v := .bool false) rfl (by kernel_rfl) (by kernel_rfl) (by kernel_rfl) (fun _ _ _ h => h) (Or.inl ⟨by kernel_rfl, ?_⟩) hS ?_
      · rintro w' ⟨_, q⟩; go_simp
      try simp only [Act.put, List.setIfInBounds_toArray]
      refine wpAnyH_take (i := 17) (v := .bool false) rfl (by kernel_rfl) (by kernel_rfl) (by kernel_rfl) (fun _ _ _ h => h) (Or.inl ⟨by kernel_rfl, ?_⟩) hS ?_
      · rintro w' ⟨_, q⟩; go_simp
      try simp only [Act.put]
      refine wpAnyH_done (by kernel_rfl) ?_ _
      try simp only [List.getElem_toArray, List.getElem_cons_succ, List.getElem_cons_zero]
      try simp only [List.setIfInBounds_toArray, List.set_cons_zero, List.set_cons_succ]
      have HPE := Lib.hid (HPD.out.grown hS.1)
      have HCW2 := Lib.hid hS.2
      clear hS mT HTC HCC2 HPA HDD HPD hcn2 hln2 h1s hsum hwq HCW
      by_cases he : doE (edIns G) [] L = 0
      · rw [he]
        obtain ⟨ns, hns, _, hty⟩ := TY.out.stepO (o := edIns G) rfl rfl he
        have hX : A ++ ⟨#[120, 121]⟩ ++ C = (⟨(bytesOf ((liveR L).take a) ++ bytesOf ([] ++ ns.map fun r : Nat => (r : Int)) ++ bytesOf ((liveR L).drop a)).toArray⟩ : ByteArray) := by
          have hxy : (⟨#[120, 121]⟩ : ByteArray) = ⟨(bytesOf (ns.map fun r : Nat => (r : Int))).toArray⟩ := hns
          rw [hxy, HHA.out, HHC.out, bytes_app, bytes_app, bytesOf_append, bytesOf_append, ← HR.out, List.nil_append]
        have HTD := Lib.hid (show ∀ (w' : World), Mod none_ wT w' → Calls Tryd.prog 13 #[.pointer (some ⟨D, 0, none⟩)] w' fun e w2 => e = .returned (.string (A ++ ⟨#[120, 121]⟩ ++ C)) ∧ Mod none_ w' w2 from fun w' m => by
          obtain ⟨S, h1⟩ := (HPE.out.grown m).doc
          obtain ⟨v, MB', bl, hv, _, hl, _⟩ := h1.ex
          have hg2 := HPE.out.g
          have := text_cells w' D MB' v bl hv (by rw [hl]; exact hg2.cl.ok) (by rw [hl]; have := hg2.cl.big; omega)
          rw [hl, hty.text (by rw [← HR.out]; exact HVA.out), ← hX] at this
          exact this)
        clear hns hty hX he
        go_upto_region 26 with fail
        refine wp_region_held_drew (S := fun w' => Mod none_ wT w' ∧ ∀ (j : Nat) (x : Int), R[j]? = some x → w'.cell? ⟨KW, j, none⟩ = some (.int .i32 x)) (by kernel_rfl) ⟨Mod.drew (Mod.refl none_ wT), HCW2.out⟩ (fun hS => ?_)
        refine wpAnyH_take (i := 0) (v := .pointer (some ⟨D, 0, none⟩)) rfl (by kernel_rfl) (by kernel_rfl) (by kernel_rfl) (fun _ _ _ h => h) (Or.inl ⟨by kernel_rfl, ?_⟩) hS ?_
        · rintro w' ⟨_, q⟩; go_simp
        try simp only [Act.put, List.setIfInBounds_toArray]
        refine wpAnyH_take (i := 2) (v := .slice (some ⟨KW, 0, none⟩) (liveN L) cw) rfl (by kernel_rfl) (by kernel_rfl) (by kernel_rfl) (fun _ _ _ h => h) (Or.inl ⟨by kernel_rfl, ?_⟩) hS ?_
        · rintro w' ⟨_, q⟩; go_simp
        try simp only [Act.put]
        refine wpAnyH_take (i := 3) (v := .int .i64 a) rfl (by kernel_rfl) (by kernel_rfl) (by kernel_rfl) (fun _ _ _ h => h) (Or.inl ⟨by kernel_rfl, ?_⟩) hS ?_
        · rintro w' ⟨_, q⟩; go_simp
        try simp only [Act.put]
        refine wpAnyH_take (i := 4) (v := .slice (some ⟨KW, 0, none⟩) a cw) rfl (by kernel_rfl) (by kernel_rfl) (by kernel_rfl) (fun _ _ _ h => h) (Or.inl ⟨by kernel_rfl, ?_⟩) hS ?_
        · rintro w' ⟨_, q⟩; go_simp
        try simp only [Act.put]
        refine wpAnyH_take (i := 5) (v := .string A) rfl (by kernel_rfl) (by kernel_rfl) (by kernel_rfl) (fun _ _ _ h => h) (Or.inl ⟨by kernel_rfl, ?_⟩) hS ?_
        · rintro w' ⟨_, q⟩; have cv := HCA.out w' q; go_simp
        try simp only [Act.put]
        refine wpAnyH_take (i := 6) (v := .string (A ++ ⟨#[120, 121]⟩)) rfl (by kernel_rfl) (by kernel_rfl) (by kernel_rfl) (fun _ _ _ h => h) (Or.inl ⟨by kernel_rfl, ?_⟩) hS ?_
        · rintro w' ⟨_, q⟩; go_simp
        try simp only [Act.put]
        refine wpAnyH_take (i := 7) (v := .slice (some ⟨KW, 0, none⟩) (liveN L) cw) rfl (by kernel_rfl) (by kernel_rfl) (by kernel_rfl) (fun _ _ _ h => h) (Or.inl ⟨by kernel_rfl, ?_⟩) hS ?_
        · rintro w' ⟨_, q⟩; go_simp
        try simp only [Act.put]
        refine wpAnyH_take (i := 8) (v := .int .i64 a) rfl (by kernel_rfl) (by kernel_rfl) (by kernel_rfl) (fun _ _ _ h => h) (Or.inl ⟨by kernel_rfl, ?_⟩) hS ?_
        · rintro w' ⟨_, q⟩; go_simp
        try simp only [Act.put]
        refine wpAnyH_take (i := 9) (v := .slice PB (liveN L - a) (cw - a)) rfl (by kernel_rfl) (by kernel_rfl) (by kernel_rfl) (fun _ _ _ h => h) (Or.inl ⟨by kernel_rfl, ?_⟩) hS ?_
        · rintro w' ⟨_, q⟩; have hpb := HPB.out; go_simp
        try simp only [Act.put]
        refine wpAnyH_take (i := 10) (v := .string C) rfl (by kernel_rfl) (by kernel_rfl) (by kernel_rfl) (fun _ _ _ h => h) (Or.inl ⟨by kernel_rfl, ?_⟩) hS ?_
        · rintro w' ⟨_, q⟩; have cv := HCC.out w' q; go_simp
        try simp only [Act.put]
        refine wpAnyH_take (i := 11) (v := .string (A ++ ⟨#[120, 121]⟩ ++ C)) rfl (by kernel_rfl) (by kernel_rfl) (by kernel_rfl) (fun _ _ _ h => h) (Or.inl ⟨by kernel_rfl, ?_⟩) hS ?_
        · rintro w' ⟨_, q⟩; go_simp
        try simp only [Act.put]
        refine wpAnyH_ready (rs := [1]) (by kernel_rfl) (by simp) (AllReadyH.cons rfl (fun K hK => ?_) <| AllReadyH.nil)
        go_simp
        refine (HTD.out _ hS.1).mono ?_
        rintro e wU ⟨rfl, mU⟩
        refine hK.out _ _ ⟨hS.1.trans mU, fun j x hx => mU.cell (fun e => e) (hS.2 j x hx)⟩ (fun hS => ?_)
        clear hK K
        try simp only [Act.put, List.setIfInBounds_toArray, List.set_cons_zero, List.set_cons_succ]
        refine wpAnyH_take (i := 12) (v := .bool true) rfl (by kernel_rfl) (by kernel_rfl) (by kernel_rfl) (fun _ _ _ h => h) (Or.inl ⟨by kernel_rfl, ?_⟩) hS ?_
        · rintro w' ⟨_, q⟩; go_simp
        try simp only [Act.put, List.setIfInBounds_toArray]
        refine wpAnyH_take (i := 13) (v := .bool true) rfl (by kernel_rfl) (by kernel_rfl) (by kernel_rfl) (fun _ _ _ h => h) (Or.inl ⟨by kernel_rfl, ?_⟩) hS ?_
        · rintro w' ⟨_, q⟩; go_simp
        try simp only [Act.put]
        refine wpAnyH_done (by kernel_rfl) ?_ _
        try simp only [List.getElem_toArray, List.getElem_cons_succ, List.getElem_cons_zero]
        try simp only [List.setIfInBounds_toArray, List.set_cons_zero, List.set_cons_succ]
        have MF := Lib.hid (HPE.out.f.m.trans hS.1)
        clear hS
        go_wp2_with fail
        go_ret
        exact ⟨rfl, MF.out⟩
      · have hno := edIns_no hLb hGL he
        have hsame := doL_same he
        rw [hsame] at HPE
        obtain ⟨E8, hE8⟩ : ∃ E8, E8 = doE (edIns G) [] L := ⟨_, rfl⟩
        rw [← hE8] at he hno ⊢
        have he2 : (E8 == 0) = false := by simpa using he
        have MF := Lib.hid HPE.out.f.m
        clear hE8 hsame
        by_cases h15 : E8 = 15
        · have hb15 : (E8 == 15) = true := by simpa using h15
          clear h15 hno
          go_wp2_with fail
          go_ret
          exact ⟨rfl, MF.out⟩
        · have hb15 : (E8 == 15) = false := by simpa using h15
          have hbg : decide (19998 < (L.length : Int)) = true := by
            rcases hno with h | h
            · exact absurd h h15
            · simpa using h
          clear h15 hno
          go_wp2_with fail
          refine (size_any wT 0 D L HPE.out.f.is (by omega)).mono ?_
          rintro e wU ⟨rfl, mU⟩
          have MU := Lib.hid (MF.out.trans mU)
          clear mU
          go_wp2_with fail
          go_ret
          exact ⟨rfl, MU.out⟩
end Go.Proofs.YtlbkalbelefhmaaDoor

namespace Go.Proofs.YtlbkalbelefhmaaDoor
open Go.ChangeShapes Go.WideShapes Go.ChangeAt Go.RowKit Go.Mine Go.Deep

theorem Tryd.own5 : ownKnob Tryd.prog.godebug = none := by kernel_rfl
theorem Tryd.laidOut5 : laidOutB Tryd.prog = true := by kernel_rfl

theorem accept_eq : (Rows.laid_unicode_utf8_acceptRanges : DataW Unit) = Lib.acceptData := by kernel_rfl
theorem u8types : U8Types Tryd.prog Tryd.lays197_ren := { Tryd.lays197 with }
theorem tabs_of {W : World} (h : laidMetH Tryd.prog [("unicode/utf8.acceptRanges", Rows.laid_unicode_utf8_acceptRanges), ("unicode/utf8.first", Rows.laid_unicode_utf8_first)] W) : tabsOk W := by
  rw [MakeChecks.laidMetH_plain _ _ _ (by kernel_rfl)] at h
  have h4 := Lib.laidMet.reads h (n := "unicode/utf8.acceptRanges") (.head _)
  have h3 := Lib.laidMet.reads h (n := "unicode/utf8.first") (.tail _ (.head _))
  rw [accept_eq] at h4
  have h3' : Lib.VarReads Tryd.prog W "unicode/utf8.first" Lib.firstData := by
    have := h3
    unfold Rows.laid_unicode_utf8_first at this
    rwa [Pinned.utf8First_eq] at this
  exact utf8Tabs_of_readsT u8types ⟨by kernel_rfl, by kernel_rfl, by kernel_rfl, by kernel_rfl, by kernel_rfl, by kernel_rfl, by kernel_rfl⟩ h3' h4
theorem okWide_three {P : Program} {w : World} {r : Reach} {b0 : Nat} {t e : TypeId} {v : Value} (ht : P.underlying t = some (.array 3 e)) (hC : P.cellsOf t = 3) (h : Value.okWide P w r b0 t v) : ∃ c0 c1 c2, v = .agg #[c0, c1, c2] := by
  simp only [Value.okWide, ht] at h
  obtain ⟨cs, rfl, h2, _⟩ := h
  obtain ⟨c0, c1, c2, rfl⟩ := Go.Joins.array3 (h2.trans hC)
  exact ⟨c0, c1, c2, rfl⟩
theorem okWide_two {P : Program} {w : World} {r : Reach} {b0 : Nat} {t e : TypeId} {v : Value} (ht : P.underlying t = some (.array 2 e)) (hC : P.cellsOf t = 2) (h : Value.okWide P w r b0 t v) : ∃ c0 c1, v = .agg #[c0, c1] := by
  simp only [Value.okWide, ht] at h
  obtain ⟨cs, rfl, h2, _⟩ := h
  obtain ⟨l⟩ := cs
  match l, h2.trans hC with
  | [c0, c1], _ => exact ⟨c0, c1, rfl⟩
theorem ints_two {H : Type} {enc : TypeId × Value → H} {P : Program} {w : World} {base : Nat} {sp : Nat → Bool} {held : Bool} {fuel : Nat} {t e : TypeId} {v0 v1 : Value} {x : DataW H × List MemPlace} (ht : P.underlying t = some (.array 2 e)) (he : P.underlying e = some (.int .i64)) (hC : P.cellsOf e = 1) (h : DataW.trod enc P w base sp held fuel t [v0, v1] = some x) :
    ∃ m0 m1 : Int, (-9223372036854775808 ≤ m0 ∧ m0 ≤ 9223372036854775807) ∧ (-9223372036854775808 ≤ m1 ∧ m1 ≤ 9223372036854775807) ∧ v0 = .int .i64 m0 ∧ v1 = .int .i64 m1 := by
  obtain ⟨ys, m, _, _, _, hyl, hg⟩ := DataW.trod_array ht h
  have h0 := hg 0 (by omega)
  have h1 := hg 1 (by omega)
  rw [hC] at h0 h1
  rw [List.getElem?_eq_getElem (by omega)] at h0 h1
  obtain ⟨m0, e0, _, w0⟩ := DataW.trod_int he h0
  obtain ⟨m1, e1, _, w1⟩ := DataW.trod_int he h1
  simp only [Nat.zero_mul, Nat.one_mul, List.drop_zero, List.drop_succ_cons, List.take_succ_cons, List.take_zero, List.cons.injEq, and_true] at e0 e1
  exact ⟨m0, m1, bounds_i64 w0, bounds_i64 w1, e0, e1⟩
end Go.Proofs.YtlbkalbelefhmaaDoor
