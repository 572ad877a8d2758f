/-
  Texts on which the claim rests, one behind the other: His18 Open Read1 His19 Read2 Rdm1 His6 His23 RowK.
-/
import Derived.Test.YtlidmajcdjlcnaaGreatDoorMm5
import Derived.WalkKit
import Derived.ProofKit
import Derived.OpenShut
import Derived.ShutString
import Derived.ChangeOld
import Derived.ChangeSame
import Derived.Deep.Slices
import Derived.Deep.Fields
import Derived.Lib.SmallJoins
import Derived.Test.YtlidmajcdjlcnaaGreatDoorRows
import Derived.Test.YtlidmajcdjlcnaaGreatDoorCards
import Derived.Test.YtlidmajcdjlcnaaGreatDoorTie
import Derived.LaidMore
import Derived.Lay
import Derived.SevenTiedAt
import Derived.Stop.Joined
import Derived.Lib.LaidU8T
import Derived.PinnedBridge

set_option linter.unusedSimpArgs false
set_option linter.unusedVariables false

namespace Go.Proofs.YtlidmajcdjlcnaaGreatDoor
open Go.RowKit Go.Shelf Go.Mine
open Classical

set_option maxHeartbeats 4000000 in
set_option maxRecDepth 1000000 in
theorem sameList_any (w : World) (a a' : Option Addr) (n c c' : Nat) (l l' : List OpS) (h : IsOps w a n c l) (h' : IsOps w a' n c' l') (hs : ∀ (i : Nat) (x : OpS), l[i]? = some x → ∃ ya yc, l'[i]? = some (x.at ya yc)) :
    Calls Tryz.prog 25 #[.slice a n c, .slice a' n c'] w fun e w' => e = .returned (.bool true) ∧ Mine.Mod none_ w w' := by
  have hle := h.le
  have hcap := h.big
  have hle' := h'.le
  have hcap' := h'.big
  unfold maxLen at hcap hcap'
  have H := Lib.hid h
  have H' := Lib.hid h'
  have HS := Lib.hid hs
  have HN := Lib.hid h.n
  clear h h' hs
  go_enter Tryz.func25, Tryz.ntmps25
  go_wp2_with fail
  go_loopg [5] n (fun g s5 wx => ∃ k : Nat, g = n - k ∧ s5 = .int .i64 k ∧ k ≤ n ∧ Mine.Mod none_ w wx)
  case atStart => exact ⟨0, rfl, rfl, Nat.zero_le _, Mine.Mod.refl _ _⟩
  case round =>
    obtain ⟨k, rfl, rfl, hk, mx⟩ := hrel
    have MX := Lib.hid mx
    by_cases hlk : k < n
    · obtain ⟨x, hx⟩ : ∃ x, l[k]? = some x := ⟨l[k]'(by rw [HN.out]; exact hlk), by simp⟩
      obtain ⟨ya, yc, hy⟩ := HS.out k x hx
      have hxo := (H.out.grown mx).ok x (List.mem_of_getElem? hx)
      have hyo := (H'.out.grown mx).ok _ (List.mem_of_getElem? hy)
      obtain ⟨b, off, rfl, hr⟩ := (H.out.grown mx).ops k x hx
      obtain ⟨b', off', rfl, hr'⟩ := (H'.out.grown mx).ops k _ hy
      have HC := Lib.hid (rop_same wr.drew x ya yc (hxo.grown (Mine.Mod.drew (Mine.Mod.refl none_ wr))) (hyo.sp.grown (Mine.Mod.drew (Mine.Mod.refl none_ wr))))
      have c0 := hr 0 _ rfl
      have e0 := hr' 0 _ rfl
      have c1 := hr 1 _ rfl
      have e1 := hr' 1 _ rfl
      have c2 := hr 2 _ rfl
      have e2 := hr' 2 _ rfl
      have c3 := hr 3 _ rfl
      have e3 := hr' 3 _ rfl
      have c4 := hr 4 _ rfl
      have e4 := hr' 4 _ rfl
      have c5 := hr 5 _ rfl
      have e5 := hr' 5 _ rfl
      have c6 := hr 6 _ rfl
      have e6 := hr' 6 _ rfl
      rw [Nat.add_zero] at c0 e0
      clear mx hx hy hxo hyo hr hr'
      go_upto_region 6 with fail
      refine wp_region_held_drew (S := fun w' => w'.cell? ⟨b, off + k * 7, none⟩ = some (.int .i64 x.o.site) ∧ w'.cell? ⟨b, off + k * 7 + 1, none⟩ = some (.int .i64 x.o.seq) ∧ w'.cell? ⟨b, off + k * 7 + 2, none⟩ = some (.int .i64 x.o.num) ∧ w'.cell? ⟨b, off + k * 7 + 3, none⟩ = some (.int .i64 x.o.kind) ∧ w'.cell? ⟨b, off + k * 7 + 4, none⟩ = some (.int .i64 x.o.at_) ∧ w'.cell? ⟨b, off + k * 7 + 5, none⟩ = some (.string x.o.text) ∧ w'.cell? ⟨b, off + k * 7 + 6, none⟩ = some (.slice x.o.sa x.o.slen x.o.scap) ∧ w'.cell? ⟨b', off' + k * 7, none⟩ = some (.int .i64 x.o.site) ∧ w'.cell? ⟨b', off' + k * 7 + 1, none⟩ = some (.int .i64 x.o.seq) ∧ w'.cell? ⟨b', off' + k * 7 + 2, none⟩ = some (.int .i64 x.o.num) ∧ w'.cell? ⟨b', off' + k * 7 + 3, none⟩ = some (.int .i64 x.o.kind) ∧ w'.cell? ⟨b', off' + k * 7 + 4, none⟩ = some (.int .i64 x.o.at_) ∧ w'.cell? ⟨b', off' + k * 7 + 5, none⟩ = some (.string x.o.text) ∧ w'.cell? ⟨b', off' + k * 7 + 6, none⟩ = some (.slice ya x.o.slen yc)) (by kernel_rfl) ⟨c0, c1, c2, c3, c4, c5, c6, e0, e1, e2, e3, e4, e5, e6⟩ (fun hS => ?_)
      refine wpAnyH_take (i := 0) (v := .slice (some ⟨b, off, none⟩) n c) rfl (by kernel_rfl) (by kernel_rfl) (by kernel_rfl) (fun _ _ _ h => h) (Or.inl ⟨by kernel_rfl, ?_⟩) hS ?_
      · rintro w' ⟨q0, q1, q2, q3, q4, q5, q6, q7, q8, q9, q10, q11, q12, q13⟩; go_simp
      try simp only [Act.put, List.setIfInBounds_toArray, List.set_cons_zero, List.set_cons_succ]
      refine wpAnyH_take (i := 1) (v := .int .i64 (k : Int)) rfl (by kernel_rfl) (by kernel_rfl) (by kernel_rfl) (fun _ _ _ h => h) (Or.inl ⟨by kernel_rfl, ?_⟩) hS ?_
      · rintro w' ⟨q0, q1, q2, q3, q4, q5, q6, q7, q8, q9, q10, q11, q12, q13⟩; go_simp
      try simp only [Act.put, List.setIfInBounds_toArray, List.set_cons_zero, List.set_cons_succ]
      refine wpAnyH_take (i := 2) (v := .pointer (some ⟨b, off + k * 7, none⟩)) rfl (by kernel_rfl) (by kernel_rfl) (by kernel_rfl) (fun _ _ _ h => h) (Or.inl ⟨by kernel_rfl, ?_⟩) hS ?_
      · rintro w' ⟨q0, q1, q2, q3, q4, q5, q6, q7, q8, q9, q10, q11, q12, q13⟩; (go_simp <;> (intro h; omega))
      try simp only [Act.put, List.setIfInBounds_toArray, List.set_cons_zero, List.set_cons_succ]
      refine wpAnyH_take (i := 3) (v := .agg #[.int .i64 x.o.site, .int .i64 x.o.seq, .int .i64 x.o.num, .int .i64 x.o.kind, .int .i64 x.o.at_, .string x.o.text, .slice x.o.sa x.o.slen x.o.scap]) rfl (by kernel_rfl) (by kernel_rfl) (by kernel_rfl) (fun _ _ _ h => h) (Or.inl ⟨by kernel_rfl, ?_⟩) hS ?_
      · rintro w' ⟨q0, q1, q2, q3, q4, q5, q6, q7, q8, q9, q10, q11, q12, q13⟩; go_simp
      try simp only [Act.put, List.setIfInBounds_toArray, List.set_cons_zero, List.set_cons_succ]
      refine wpAnyH_take (i := 4) (v := .slice (some ⟨b', off', none⟩) n c') rfl (by kernel_rfl) (by kernel_rfl) (by kernel_rfl) (fun _ _ _ h => h) (Or.inl ⟨by kernel_rfl, ?_⟩) hS ?_
      · rintro w' ⟨q0, q1, q2, q3, q4, q5, q6, q7, q8, q9, q10, q11, q12, q13⟩; go_simp
      try simp only [Act.put, List.setIfInBounds_toArray, List.set_cons_zero, List.set_cons_succ]
      refine wpAnyH_take (i := 5) (v := .int .i64 (k : Int)) rfl (by kernel_rfl) (by kernel_rfl) (by kernel_rfl) (fun _ _ _ h => h) (Or.inl ⟨by kernel_rfl, ?_⟩) hS ?_
      · rintro w' ⟨q0, q1, q2, q3, q4, q5, q6, q7, q8, q9, q10, q11, q12, q13⟩; go_simp
      try simp only [Act.put, List.setIfInBounds_toArray, List.set_cons_zero, List.set_cons_succ]
      refine wpAnyH_take (i := 6) (v := .pointer (some ⟨b', off' + k * 7, none⟩)) rfl (by kernel_rfl) (by kernel_rfl) (by kernel_rfl) (fun _ _ _ h => h) (Or.inl ⟨by kernel_rfl, ?_⟩) hS ?_
      · rintro w' ⟨q0, q1, q2, q3, q4, q5, q6, q7, q8, q9, q10, q11, q12, q13⟩; (go_simp <;> (intro h; omega))
      try simp only [Act.put, List.setIfInBounds_toArray, List.set_cons_zero, List.set_cons_succ]
      refine wpAnyH_take (i := 7) (v := .agg #[.int .i64 x.o.site, .int .i64 x.o.seq, .int .i64 x.o.num, .int .i64 x.o.kind, .int .i64 x.o.at_, .string x.o.text, .slice ya x.o.slen yc]) rfl (by kernel_rfl) (by kernel_rfl) (by kernel_rfl) (fun _ _ _ h => h) (Or.inl ⟨by kernel_rfl, ?_⟩) hS ?_
      · rintro w' ⟨q0, q1, q2, q3, q4, q5, q6, q7, q8, q9, q10, q11, q12, q13⟩; go_simp
      try simp only [Act.put, List.setIfInBounds_toArray, List.set_cons_zero, List.set_cons_succ]
      refine wpAnyH_ready (rs := [8]) (by kernel_rfl) (by simp) (AllReadyH.cons rfl (fun K hK => ?_) <| AllReadyH.nil)
      go_simp
      refine HC.out.mono ?_
      rintro e w1 ⟨rfl, m1⟩
      have M1 := Lib.hid (MX.out.trans ((Mine.Mod.drew (Mine.Mod.refl none_ wr)).trans m1))
      refine hK.out _ _ ⟨m1.cell (fun e => e) c0, m1.cell (fun e => e) c1, m1.cell (fun e => e) c2, m1.cell (fun e => e) c3, m1.cell (fun e => e) c4, m1.cell (fun e => e) c5, m1.cell (fun e => e) c6, m1.cell (fun e => e) e0, m1.cell (fun e => e) e1, m1.cell (fun e => e) e2, m1.cell (fun e => e) e3, m1.cell (fun e => e) e4, m1.cell (fun e => e) e5, m1.cell (fun e => e) e6⟩ (fun hS => ?_)
      clear hK K
      try simp only [Act.put, List.setIfInBounds_toArray, List.set_cons_zero, List.set_cons_succ]
      refine wpAnyH_take (i := 9) (v := .bool false) rfl (by kernel_rfl) (by kernel_rfl) (by kernel_rfl) (fun _ _ _ h => h) (Or.inl ⟨by kernel_rfl, ?_⟩) hS ?_
      · rintro w' ⟨q0, q1, q2, q3, q4, q5, q6, q7, q8, q9, q10, q11, q12, q13⟩; go_simp
      try simp only [Act.put, List.setIfInBounds_toArray, List.set_cons_zero, List.set_cons_succ]
      refine wpAnyH_done (by kernel_rfl) ?_ _
      try simp only [List.getElem_toArray, List.getElem_cons_succ, List.getElem_cons_zero]
      try simp only [Act.put, List.setIfInBounds_toArray, List.set_cons_zero, List.set_cons_succ]
      clear m1 hS c0 e0 c1 e1 c2 e2 c3 e3 c4 e4 c5 e5 c6 e6
      go_wp2_with fail
      go_roundg (n - (k + 1))
      all_goals first
        | omega
        | exact ⟨k + 1, rfl, by go_num, by omega, M1.out⟩
    · obtain rfl : k = n := by omega
      clear mx
      go_wp2_with fail
      go_ret
      exact ⟨rfl, MX.out⟩

end Go.Proofs.YtlidmajcdjlcnaaGreatDoor

namespace Go.Mine
open Go.RowKit Go.ChangeShapes Go.WideShapes Go.Deep

section
variable {H : Type} {enc : TypeId × Value → H} {P : Program} {w : World} {base : Nat} {spare : Nat → Bool} {held : Bool}

/-- What is known of a slice of structs that came in: nil, or a row in which each field of each element reads by its type. -/
theorem slice_of_structs {t e : TypeId} {fs : Array Field} {fuel : Nat} {cs : List Value} {x : DataW H × List MemPlace} (ht : P.underlying t = some (.slice e)) (he : P.underlying e = some (.struct fs))
    (hone : oneCellFields P fs = true) (hC : P.cellsOf e = fs.size) (h : DataW.trod enc P w base spare held fuel t cs = some x) :
    cs = [.slice none 0 0] ∨
    ∃ (a : Addr) (len cap : Nat), cs = [.slice (some a) len cap] ∧ len ≤ cap ∧ cap ≤ maxLen ∧
      ∀ i, i < len → ∀ (j : Nat) (f : Field), fs[j]? = some f → ∃ (v : Value) (y : DataW H × List MemPlace) (n : Nat), w.cell? (a.add (i * fs.size + j)) = some v ∧ DataW.trod enc P w base spare held n f.type [v] = some y := by
  rcases open_slice ht h with ⟨h0, _⟩ | ⟨a, len, cap, m, n, D, Pl, hcs, _, hl, hm, hmm, _, hi⟩
  · exact .inl h0
  refine .inr ⟨a, len, cap, hcs, hl, hm, fun i hil j f hj => ?_⟩
  have him : i < m := by rw [hmm]; split <;> omega
  obtain ⟨cells, hc, hr⟩ := hi i him
  rw [hC] at hc
  obtain ⟨_, hlen, hat⟩ := World.cells?_some hc
  obtain ⟨ys, n', _, _, _, hyl, hf⟩ := DataW.trod_struct he hr
  obtain ⟨ho, hk⟩ := hone_of hone j f hj
  have hjs : j < fs.size := (Array.getElem?_eq_some_iff.1 hj).1
  have hfj := hf j f hj
  rw [ho, hk, List.drop_eq_getElem_cons (by omega)] at hfj
  have hy : ys[j]? = some ys[j] := List.getElem?_eq_getElem (by omega)
  refine ⟨cells[j], ys[j], n', ?_, hfj.trans hy⟩
  rw [← Go.Deep.add_add, hat j hjs]
  exact List.getElem?_eq_getElem _

theorem nat_of_u8 {n : Int} (h : (Lit.int .u8 n).wf = true) : 0 ≤ n ∧ n ≤ 255 := by
  have := bounds_u8 h; omega
end
end Go.Mine

namespace Go.Proofs.YtlidmajcdjlcnaaGreatDoor
open Go.ChangeShapes Go.WideShapes Go.ChangeAt Go.RowKit Go.Mine Go.Deep

set_option maxRecDepth 100000
section
variable {H : Type} {enc : TypeId × Value → H} {w : World} {base : Nat} {sp : Nat → Bool} {held : Bool}

theorem szOp : Tryz.prog.cellsOf 31 = 7 := by kernel_rfl
theorem szKind : Tryz.prog.cellsOf 5 = 1 := by kernel_rfl
theorem szCell : Tryz.prog.cellsOf 47 = 5 := by kernel_rfl
theorem szName : Tryz.prog.cellsOf 28 = 2 := by kernel_rfl
theorem szInt : Tryz.prog.cellsOf 3 = 1 := by kernel_rfl
theorem szRune : Tryz.prog.cellsOf 21 = 1 := by kernel_rfl
theorem szBool : Tryz.prog.cellsOf 4 = 1 := by kernel_rfl
theorem szString : Tryz.prog.cellsOf 9 = 1 := by kernel_rfl
theorem szSpans : Tryz.prog.cellsOf 29 = 1 := by kernel_rfl

theorem name_of {n : Nat} {a b : Value} {y : DataW H × List MemPlace} (h : DataW.trod enc Tryz.prog w base sp held n 28 [a, b] = some y) :
    ∃ s q : Int, a = .int .i64 s ∧ b = .int .i64 q ∧ (-9223372036854775808 ≤ s ∧ s ≤ 9223372036854775807) ∧ (-9223372036854775808 ≤ q ∧ q ≤ 9223372036854775807) := by
  obtain ⟨ys, m, _, _, _, hyl, hf⟩ := DataW.trod_struct Tryz.underlying28 h
  obtain ⟨y0, y1, rfl⟩ : ∃ y0 y1, ys = [y0, y1] := by
    match ys, (show ys.length = 2 from hyl) with
    | [y0, y1], _ => exact ⟨y0, y1, rfl⟩
  have h0 := hf 0 _ rfl
  have h1 := hf 1 _ rfl
  simp only [List.getElem_toArray, List.getElem_cons_zero, List.getElem_cons_succ, szInt, List.drop_zero, List.drop_succ_cons, List.take_succ_cons, List.take_zero, List.getElem?_cons_zero, List.getElem?_cons_succ] at h0 h1
  obtain ⟨s, e0, _, w0⟩ := DataW.trod_int Tryz.underlying3 h0
  obtain ⟨q, e1, _, w1⟩ := DataW.trod_int Tryz.underlying3 h1
  simp only [List.cons.injEq, and_true] at e0 e1
  exact ⟨s, q, e0, e1, bounds_i64 w0, bounds_i64 w1⟩

theorem cell_of {n : Nat} {cells : List Value} {y : DataW H × List MemPlace} (h : DataW.trod enc Tryz.prog w base sp held n 47 cells = some y) :
    ∃ c : CellV, cells = c.cs ∧ c.ok := by
  obtain ⟨ys, m, _, _, hl, hyl, hf⟩ := DataW.trod_struct Tryz.underlying47 h
  rw [szCell] at hl
  obtain ⟨a, b, c, d, e, rfl⟩ : ∃ a b c d e, cells = [a, b, c, d, e] := by
    match cells, hl with
    | [a, b, c, d, e], _ => exact ⟨a, b, c, d, e, rfl⟩
  obtain ⟨y0, y1, y2, y3, rfl⟩ : ∃ y0 y1 y2 y3, ys = [y0, y1, y2, y3] := by
    match ys, (show ys.length = 4 from hyl) with
    | [y0, y1, y2, y3], _ => exact ⟨y0, y1, y2, y3, rfl⟩
  have h0 := hf 0 _ rfl
  have h1 := hf 1 _ rfl
  have h2 := hf 2 _ rfl
  have h3 := hf 3 _ rfl
  simp only [List.getElem_toArray, List.getElem_cons_zero, List.getElem_cons_succ, szName, szInt, szRune, szBool, List.drop_zero, List.drop_succ_cons, List.take_succ_cons, List.take_zero, List.getElem?_cons_zero, List.getElem?_cons_succ] at h0 h1 h2 h3
  obtain ⟨s, q, rfl, rfl, hs, hq⟩ := name_of h0
  obtain ⟨f, e1, _, w1⟩ := DataW.trod_int Tryz.underlying3 h1
  obtain ⟨r, e2, _, w2⟩ := DataW.trod_int Tryz.underlying21 h2
  obtain ⟨g, e3, _⟩ := DataW.trod_bool Tryz.underlying4 h3
  simp only [List.cons.injEq, and_true] at e1 e2 e3
  subst e1 e2 e3
  exact ⟨⟨s, q, f, r, g⟩, rfl, hs, hq, bounds_i64 w1, bounds_i32 w2⟩

/-- A slice of structs of k cells: what each element's cells read as. -/
theorem slice_elems {t e : TypeId} {k fuel : Nat} {cs : List Value} {x : DataW H × List MemPlace} (ht : Tryz.prog.underlying t = some (.slice e)) (hk : Tryz.prog.cellsOf e = k) (h0k : 0 < k) (h : DataW.trod enc Tryz.prog w base sp held fuel t cs = some x) :
    ∃ (a : Option Addr) (len cap : Nat), cs = [.slice a len cap] ∧ len ≤ cap ∧ cap ≤ maxLen ∧
      ∀ i, i < len → ∃ (b off : Nat) (cells : List Value) (y : DataW H × List MemPlace) (n : Nat), a = some ⟨b, off, none⟩ ∧ cells.length = k ∧ w.rangeAt b (off + i * k) cells ∧ DataW.trod enc Tryz.prog w base sp held n e cells = some y := by
  rcases DataW.trod_slice ht h with ⟨h0, _⟩ | ⟨a, len, cap, elems, rest, n, _, hcs, _, _, hl, hm, hlen, hel, _, _⟩
  · exact ⟨none, 0, 0, h0, Nat.le_refl _, Nat.zero_le _, fun i hi => absurd hi (Nat.not_lt_zero _)⟩
  · rw [hk] at hel
    refine ⟨some a, len, cap, hcs, hl, hm, fun i hi => ?_⟩
    obtain ⟨b, off, spot⟩ := a
    have hspot : spot = none := by
      have h1 := hel 0 (by omega)
      rw [List.getElem?_eq_getElem (by omega)] at h1
      obtain ⟨cells, hc, hr⟩ := Option.bind_eq_some_iff.1 h1
      obtain ⟨_, hlen, hat⟩ := World.cells?_some hc
      have := hat 0 h0k
      rw [List.getElem?_eq_getElem (by omega)] at this
      have := World.cell?_spot this
      simpa [Addr.add] using this
    subst hspot
    have h1 := hel i hi
    rw [List.getElem?_eq_getElem (by omega)] at h1
    obtain ⟨cells, hc, hr⟩ := Option.bind_eq_some_iff.1 h1
    obtain ⟨_, hlen, hat⟩ := World.cells?_some hc
    refine ⟨b, off, cells, _, n, rfl, hlen, fun j v hv => ?_, hr⟩
    have hj : j < k := by have := (List.getElem?_eq_some_iff.1 hv).1; omega
    have := hat j hj
    rw [hv] at this
    simpa only [Addr.add_lit] using this

theorem read_cells {fuel : Nat} {a : Option Addr} {len cap : Nat} {x : DataW H × List MemPlace} (h : DataW.trod enc Tryz.prog w base sp held fuel 22 [.slice a len cap] = some x) : ∃ l, IsCells w a len cap l := by
  obtain ⟨a', len', cap', hcs, hl, hm, hf⟩ := slice_elems Tryz.underlying22 szCell (by decide) h
  simp only [List.cons.injEq, Value.slice.injEq, and_true] at hcs
  obtain ⟨rfl, rfl, rfl⟩ := hcs
  have key : ∀ i, i < len → ∃ c : CellV, c.ok ∧ ∃ b off, a = some ⟨b, off, none⟩ ∧ w.rangeAt b (off + i * 5) c.cs := by
    intro i hi
    obtain ⟨b, off, cells, y, n, e, _, hr, ht⟩ := hf i hi
    obtain ⟨c, rfl, hc⟩ := cell_of ht
    exact ⟨c, hc, b, off, e, hr⟩
  obtain ⟨f, hfk⟩ := Classical.axiomOfChoice (fun i : Fin len => key i.1 i.2)
  refine ⟨List.ofFn f, by simp, hl, hm, ?_, ?_⟩
  · intro y hy
    obtain ⟨i, rfl⟩ := List.mem_ofFn.1 hy
    exact (hfk i).1
  · intro i y hy
    have hi : i < len := by have := (List.getElem?_eq_some_iff.1 hy).1; simpa using this
    have : y = f ⟨i, hi⟩ := by
      rw [List.getElem?_eq_getElem (by simpa using hi)] at hy
      simp at hy; exact hy.symm
    subst this
    exact (hfk ⟨i, hi⟩).2

theorem szSpan : Tryz.prog.cellsOf 49 = 2 := by kernel_rfl
theorem read_spans {fuel : Nat} {a : Option Addr} {len cap : Nat} {x : DataW H × List MemPlace} (h : DataW.trod enc Tryz.prog w base sp held fuel 29 [.slice a len cap] = some x) : ∃ l, IsSpans w a len cap l := by
  obtain ⟨a', len', cap', hcs, hl, hm, hf⟩ := slice_elems Tryz.underlying29 szSpan (by decide) h
  simp only [List.cons.injEq, Value.slice.injEq, and_true] at hcs
  obtain ⟨rfl, rfl, rfl⟩ := hcs
  have key : ∀ i, i < len → ∃ y : Int × Int, ((-9223372036854775808 ≤ y.1 ∧ y.1 ≤ 9223372036854775807) ∧ (-9223372036854775808 ≤ y.2 ∧ y.2 ≤ 9223372036854775807)) ∧ ∃ b off, a = some ⟨b, off, none⟩ ∧ w.cell? ⟨b, off + i * 2, none⟩ = some (.int .i64 y.1) ∧ w.cell? ⟨b, off + i * 2 + 1, none⟩ = some (.int .i64 y.2) := by
    intro i hi
    obtain ⟨b, off, cells, y, n, e, hlen, hr, ht⟩ := hf i hi
    obtain ⟨u, v, rfl⟩ : ∃ u v, cells = [u, v] := by
      match cells, hlen with
      | [u, v], _ => exact ⟨u, v, rfl⟩
    obtain ⟨ys, m, _, _, _, hyl, hg⟩ := DataW.trod_struct Tryz.underlying49 ht
    obtain ⟨y0, y1, rfl⟩ : ∃ y0 y1, ys = [y0, y1] := by
      match ys, (show ys.length = 2 from hyl) with
      | [y0, y1], _ => exact ⟨y0, y1, rfl⟩
    have h0 := hg 0 _ rfl
    have h1 := hg 1 _ rfl
    simp only [List.getElem_toArray, List.getElem_cons_zero, List.getElem_cons_succ, szInt, List.drop_zero, List.drop_succ_cons, List.take_succ_cons, List.take_zero, List.getElem?_cons_zero, List.getElem?_cons_succ] at h0 h1
    obtain ⟨s, e0, _, w0⟩ := DataW.trod_int Tryz.underlying3 h0
    obtain ⟨q, e1, _, w1⟩ := DataW.trod_int Tryz.underlying3 h1
    simp only [List.cons.injEq, and_true] at e0 e1
    subst e0 e1
    exact ⟨(s, q), ⟨bounds_i64 w0, bounds_i64 w1⟩, b, off, e, hr 0 _ rfl, hr 1 _ rfl⟩
  obtain ⟨f, hfk⟩ := Classical.axiomOfChoice (fun i : Fin len => key i.1 i.2)
  refine ⟨List.ofFn f, by simp, hl, hm, ?_, ?_⟩
  · intro y hy
    obtain ⟨i, rfl⟩ := List.mem_ofFn.1 hy
    exact (hfk i).1
  · intro i y hy
    have hi : i < len := by have := (List.getElem?_eq_some_iff.1 hy).1; simpa using this
    have : y = f ⟨i, hi⟩ := by
      rw [List.getElem?_eq_getElem (by simpa using hi)] at hy
      simp at hy; exact hy.symm
    subst this
    exact (hfk ⟨i, hi⟩).2

theorem op_of {n : Nat} {cells : List Value} {y : DataW H × List MemPlace} (htab : tabsOk w) (h : DataW.trod enc Tryz.prog w base sp held n 31 cells = some y) :
    ∃ (o : OpV) (l : List (Int × Int)), cells = o.cs ∧ o.ok0 w l := by
  obtain ⟨ys, m, _, _, hl, hyl, hf⟩ := DataW.trod_struct Tryz.underlying31 h
  rw [szOp] at hl
  obtain ⟨c0, c1, c2, c3, c4, c5, c6, rfl⟩ : ∃ c0 c1 c2 c3 c4 c5 c6, cells = [c0, c1, c2, c3, c4, c5, c6] := by
    match cells, hl with
    | [c0, c1, c2, c3, c4, c5, c6], _ => exact ⟨c0, c1, c2, c3, c4, c5, c6, rfl⟩
  obtain ⟨y0, y1, y2, y3, y4, y5, rfl⟩ : ∃ y0 y1 y2 y3 y4 y5, ys = [y0, y1, y2, y3, y4, y5] := by
    match ys, (show ys.length = 6 from hyl) with
    | [y0, y1, y2, y3, y4, y5], _ => exact ⟨y0, y1, y2, y3, y4, y5, rfl⟩
  have h0 := hf 0 _ rfl
  have h1 := hf 1 _ rfl
  have h2 := hf 2 _ rfl
  have h3 := hf 3 _ rfl
  have h4 := hf 4 _ rfl
  have h5 := hf 5 _ rfl
  simp only [List.getElem_toArray, List.getElem_cons_zero, List.getElem_cons_succ, szName, szInt, szString, szSpans, List.drop_zero, List.drop_succ_cons, List.take_succ_cons, List.take_zero, List.getElem?_cons_zero, List.getElem?_cons_succ] at h0 h1 h2 h3 h4 h5
  obtain ⟨s, q, rfl, rfl, hs, hq⟩ := name_of h0
  obtain ⟨num, e1, _, w1⟩ := DataW.trod_int Tryz.underlying3 h1
  obtain ⟨kd, e2, _, w2⟩ := DataW.trod_int Tryz.underlying3 h2
  obtain ⟨at_, e3, _, w3⟩ := DataW.trod_int Tryz.underlying3 h3
  obtain ⟨tx, e4, _, w4⟩ := DataW.trod_string Tryz.underlying9 h4
  obtain ⟨a, len, cap, e5, _⟩ := slice_elems Tryz.underlying29 szSpan (by decide) h5
  simp only [List.cons.injEq, and_true] at e1 e2 e3 e4 e5
  subst e1 e2 e3 e4 e5
  obtain ⟨l, hsp⟩ := read_spans h5
  exact ⟨⟨s, q, num, kd, at_, tx, a, len, cap⟩, l, rfl, w4, hsp, fun hsz => { i1 := hs, i2 := hq, i3 := bounds_i64 w1, i4 := bounds_i64 w2, i5 := bounds_i64 w3, tx := .inl htab, sz := hsz, sp := hsp }⟩

end
end Go.Proofs.YtlidmajcdjlcnaaGreatDoor

namespace Go.Proofs.YtlidmajcdjlcnaaGreatDoor
open Go.RowKit Go.Shelf Go.Mine
open Classical

/-- An edit that came in. -/
structure EditV.ok0 (e : EditV) (w : World) : Prop where
  sz : e.text.size ≤ maxLen
  ok : e.text.size < 4611686018427387904 → e.ok w
theorem EditV.ok0.grown {e : EditV} {w w' : World} (h : e.ok0 w) (m : Mine.Mod none_ w w') : e.ok0 w' := ⟨h.sz, fun hs => (h.ok hs).grown m⟩
/-- Entries that came in, whatever long their texts are. -/
structure IsEnts0 (w : World) (a : Option Addr) (len cap : Nat) (l : List EntV) : Prop where
  n : l.length = len
  le : len ≤ cap
  big : cap ≤ maxLen
  ok : ∀ x ∈ l, x.o.ok0 w x.sp ∧ x.ed.ok0 w
  ents : ∀ (i : Nat) (x : EntV), l[i]? = some x → ∃ b off, a = some ⟨b, off, none⟩ ∧ w.rangeAt b (off + i * 14) x.cs
theorem IsEnts0.grown {w w' : World} {a : Option Addr} {len cap : Nat} {l : List EntV} (h : IsEnts0 w a len cap l) (m : Mine.Mod none_ w w') : IsEnts0 w' a len cap l :=
  ⟨h.n, h.le, h.big, fun x hx => ⟨(h.ok x hx).1.grown m, (h.ok x hx).2.grown m⟩, fun i c hc => by
    obtain ⟨b, off, e, hr⟩ := h.ents i c hc
    exact ⟨b, off, e, fun j v hv => m.cell (fun e => e) (hr j v hv)⟩⟩
/-- More than statements look at. -/
def bigEnt (x : EntV) : Bool := bigOp x.o || decide (1000 < (x.ed.text.size : Int))
theorem IsEnts0.small {w : World} {a : Option Addr} {len cap : Nat} {l : List EntV} (h : IsEnts0 w a len cap l) (hb : l.any bigEnt = false) : IsEnts w a len cap l := by
  refine ⟨h.n, h.le, h.big, fun x hx => ?_, h.ents⟩
  have hx0 : bigEnt x = false := by
    rw [List.any_eq_false] at hb
    simpa using hb x hx
  unfold bigEnt bigOp at hx0
  simp only [Bool.or_eq_false_iff, decide_eq_false_iff_not] at hx0
  obtain ⟨⟨_, h1⟩, h2⟩ := hx0
  exact ⟨(h.ok x hx).1.ok (by omega), (h.ok x hx).2.ok (by omega)⟩
def bigHist (h : HistV) (E : List EntV) : Bool := decide (60 < (h.bl : Int)) || decide (30 < (h.vl : Int)) || decide (14 < (h.ll : Int)) || E.any bigEnt

set_option maxHeartbeats 4000000 in
set_option maxRecDepth 1000000 in
theorem rgreatH_any (w : World) (h : HistV) (E : List EntV) (he : IsEnts0 w h.la h.ll h.lc E) :
    Calls Tryz.prog 9 #[h.v] w fun e w' => e = .returned (.bool (bigHist h E)) ∧ Mine.Mod none_ w w' := by
  obtain ⟨R, hR⟩ : ∃ R, R = bigHist h E := ⟨_, rfl⟩
  rw [← hR]
  have hle := he.le
  have hcap := he.big
  unfold maxLen at hcap
  obtain ⟨xba, xbl, xbc, xva, xvl, xvc, xfr, xnum, xla, xll, xlc⟩ := h
  dsimp only at hle hcap he
  have HR := Lib.hid (show R = (decide (60 < (xbl : Int)) || decide (30 < (xvl : Int)) || decide (14 < (xll : Int)) || E.any bigEnt) from hR)
  have H := Lib.hid he
  have HN := Lib.hid he.n
  clear he hR
  obtain ⟨W0, hW0⟩ : ∃ W0, w.alloc (.cells #[.slice xba xbl xbc, .slice xva xvl xvc, .int .i64 xfr, .int .i64 xnum, .slice xla xll xlc] 26) = W0 := ⟨_, rfl⟩
  obtain ⟨K, hK⟩ : ∃ K, w.heap.size = K := ⟨_, rfl⟩
  have m0 : Mine.Mod none_ w W0 := by rw [← hW0]; exact (Mine.Mod.refl none_ w).alloc _
  have k0 : Blk W0 K [.slice xba xbl xbc, .slice xva xvl xvc, .int .i64 xfr, .int .i64 xnum, .slice xla xll xlc] 26 := by rw [← hW0, ← hK]; exact Blk.new (w := w) (cs := [.slice xba xbl xbc, .slice xva xvl xvc, .int .i64 xfr, .int .i64 xnum, .slice xla xll xlc])
  obtain ⟨cs0, hcs0⟩ : ∃ cs0 : List Value, cs0 = [.slice xba xbl xbc, .slice xva xvl xvc, .int .i64 xfr, .int .i64 xnum, .slice xla xll xlc] := ⟨_, rfl⟩
  rw [← hcs0] at k0
  have HC0 := Lib.hid (show ∀ W, Blk W K cs0 26 → W.cell? ⟨K, 0, none⟩ = some (.slice xba xbl xbc) from fun W k => by rw [k.cell, hcs0]; rfl)
  have HC1 := Lib.hid (show ∀ W, Blk W K cs0 26 → W.cell? ⟨K, 1, none⟩ = some (.slice xva xvl xvc) from fun W k => by rw [k.cell, hcs0]; rfl)
  have HC4 := Lib.hid (show ∀ W, Blk W K cs0 26 → W.cell? ⟨K, 4, none⟩ = some (.slice xla xll xlc) from fun W k => by rw [k.cell, hcs0]; rfl)
  have M0 := Lib.hid m0
  have K0 := Lib.hid k0
  have hKw : w.heap.size ≤ K := by omega
  have c0 := HC0.out W0 k0
  have c1 := HC1.out W0 k0
  have c4 := HC4.out W0 k0
  clear m0 k0 hcs0
  go_enter Tryz.func9, Tryz.ntmps9
  go_upto_region 1 with fail
  clear hW0 hK
  cases q1 : decide (60 < (xbl : Int))
  case true =>
    have HE := Lib.hid (show R = true by rw [HR.out, q1]; simp)
    go_wp2_with fail
    go_ret
    exact ⟨by rw [HE.out]; rfl, M0.out⟩
  cases q2 : decide (30 < (xvl : Int))
  case true =>
    have HE := Lib.hid (show R = true by rw [HR.out, q1, q2]; simp)
    go_wp2_with fail
    go_ret
    exact ⟨by rw [HE.out]; rfl, M0.out⟩
  cases q3 : decide (14 < (xll : Int))
  case true =>
    have HE := Lib.hid (show R = true by rw [HR.out, q1, q2, q3]; simp)
    go_wp2_with fail
    go_ret
    exact ⟨by rw [HE.out]; rfl, M0.out⟩
  have HR2 := Lib.hid (show R = E.any bigEnt by rw [HR.out, q1, q2, q3]; rfl)
  go_wp2_with fail
  clear c0 c1 c4 q1 q2 q3
  go_loopg [3] xll (fun g s3 wx => ∃ k : Nat, g = xll - k ∧ s3 = .int .i64 k ∧ k ≤ xll ∧ Mine.Mod none_ w wx ∧ RowKit.Hid (Blk wx K cs0 26 ∧ (E.take k).any bigEnt = false))
  case atStart => exact ⟨0, rfl, rfl, Nat.zero_le _, M0.out, Lib.hid ⟨K0.out, rfl⟩⟩
  case round =>
    obtain ⟨k, rfl, rfl, hk, mx, hst⟩ := hrel
    obtain ⟨kx, hall⟩ := hst.out
    have MX := Lib.hid mx
    have KX := Lib.hid kx
    have d4 := HC4.out wr kx
    by_cases hlk : k < xll
    · obtain ⟨x, hx⟩ : ∃ x, E[k]? = some x := ⟨E[k]'(by rw [HN.out]; exact hlk), by simp⟩
      have HY := Lib.hid (fun (hb : bigEnt x = true) => show R = true by rw [HR2.out]; exact List.any_eq_true.2 ⟨x, List.mem_of_getElem? hx, hb⟩)
      have HG := Lib.hid (fun (hb : bigEnt x = false) => show (E.take (k + 1)).any bigEnt = false by rw [ents_snoc hx, List.any_append, hall]; simp [hb])
      have HSZ := ((H.out.grown mx).ok x (List.mem_of_getElem? hx)).2.sz
      unfold maxLen at HSZ
      have HM := Lib.hid (great_op x.o wr x.sp ((H.out.grown mx).ok x (List.mem_of_getElem? hx)).1)
      obtain ⟨b, off, rfl, hr⟩ := (H.out.grown mx).ents k x hx
      have c0 := hr 0 _ rfl
      have c1 := hr 1 _ rfl
      have c2 := hr 2 _ rfl
      have c3 := hr 3 _ rfl
      have c4 := hr 4 _ rfl
      have c5 := hr 5 _ rfl
      have c6 := hr 6 _ rfl
      have c7 := hr 7 _ rfl
      have c8 := hr 8 _ rfl
      have c9 := hr 9 _ rfl
      have c10 := hr 10 _ rfl
      have c11 := hr 11 _ rfl
      have c12 := hr 12 _ rfl
      have c13 := hr 13 _ rfl
      rw [Nat.add_zero] at c0
      have HRG := Lib.hid hr
      clear hx hall hst kx mx hr
      cases hb : bigOp x.o
      case true =>
        have HE := Lib.hid (HY.out (by unfold bigEnt; rw [hb]; rfl))
        rw [hb] at HM
        go_wp2_with fail
        refine HM.out.mono ?_
        rintro e w1 ⟨rfl, m1⟩
        have M1 := Lib.hid (MX.out.trans m1)
        clear m1
        go_wp2_with fail
        go_ret
        exact ⟨by rw [HE.out]; rfl, M1.out⟩
      rw [hb] at HM
      go_wp2_with fail
      refine HM.out.mono ?_
      rintro e w1 ⟨rfl, m1⟩
      have M1 := Lib.hid (MX.out.trans m1)
      have K1 := Lib.hid (KX.out.mod m1 (fun e => e))
      have e13 := m1.cell (fun e => e) c13
      have e4 := HC4.out w1 K1.out
      clear m1 d4 c0 c1 c2 c3 c4 c5 c6 c7 c8 c9 c10 c11 c12 c13
      cases hs : decide (1000 < (x.ed.text.size : Int))
      case true =>
        have HE := Lib.hid (HY.out (by unfold bigEnt; rw [hs, Bool.or_true]))
        go_wp2_with fail
        go_ret
        exact ⟨by rw [HE.out]; rfl, M1.out⟩
      have HG2 := Lib.hid (HG.out (by unfold bigEnt; rw [hb, hs]; rfl))
      go_wp2_with fail
      go_roundg (xll - (k + 1))
      all_goals first
        | omega
        | exact ⟨k + 1, rfl, by go_num, by omega, M1.out, Lib.hid ⟨K1.out, HG2.out⟩⟩
    · have hkl : xll = k := by omega
      subst hkl
      rw [List.take_of_length_le (by rw [HN.out]; omega)] at hall
      have HE := Lib.hid (show R = false by rw [HR2.out, hall])
      clear kx hall hst mx
      go_wp2_with fail
      go_ret
      exact ⟨by rw [HE.out]; rfl, MX.out⟩

end Go.Proofs.YtlidmajcdjlcnaaGreatDoor

namespace Go.Proofs.YtlidmajcdjlcnaaGreatDoor
open Go.ChangeShapes Go.WideShapes Go.ChangeAt Go.RowKit Go.Mine Go.Deep

set_option maxRecDepth 100000
/-- A history that came in. -/
structure HistIs0 (w : World) (h : HistV) (B : List CellV) (V : List Int) (E : List EntV) : Prop where
  b : IsCells w h.ba h.bl h.bc B
  v : IsVec w h.va h.vl h.vc V
  e : IsEnts0 w h.la h.ll h.lc E
  i1 : -9223372036854775808 ≤ h.from_ ∧ h.from_ ≤ 9223372036854775807
  i2 : -9223372036854775808 ≤ h.num ∧ h.num ≤ 9223372036854775807
theorem HistIs0.grown {w w' : World} {h : HistV} {B : List CellV} {V : List Int} {E : List EntV} (k : HistIs0 w h B V E) (m : Mine.Mod none_ w w') : HistIs0 w' h B V E := ⟨k.b.grown m, k.v.grown m, k.e.grown m, k.i1, k.i2⟩
theorem HistIs0.small {w : World} {h : HistV} {B : List CellV} {V : List Int} {E : List EntV} (k : HistIs0 w h B V E) (hb : bigHist h E = false) : HistIs w h B V E ∧ h.bl ≤ 60 ∧ h.vl ≤ 30 ∧ h.ll ≤ 14 ∧ ∀ y ∈ E, y.o.slen ≤ 40 := by
  unfold bigHist at hb
  simp only [Bool.or_eq_false_iff, decide_eq_false_iff_not] at hb
  obtain ⟨⟨⟨h1, h2⟩, h3⟩, h4⟩ := hb
  refine ⟨⟨k.b, k.v, k.e.small h4, k.i1, k.i2⟩, by omega, by omega, by omega, fun y hy => ?_⟩
  rw [List.any_eq_false] at h4
  have hx0 : bigEnt y = false := by simpa using h4 y hy
  unfold bigEnt bigOp at hx0
  simp only [Bool.or_eq_false_iff, decide_eq_false_iff_not] at hx0
  omega
section
variable {H : Type} {enc : TypeId × Value → H} {w : World} {base : Nat} {sp : Nat → Bool} {held : Bool}

theorem szEdit : Tryz.prog.cellsOf 33 = 7 := by kernel_rfl
theorem szEnt : Tryz.prog.cellsOf 35 = 14 := by kernel_rfl
theorem szCells : Tryz.prog.cellsOf 22 = 1 := by kernel_rfl
theorem szInts : Tryz.prog.cellsOf 23 = 1 := by kernel_rfl
theorem szEnts : Tryz.prog.cellsOf 24 = 1 := by kernel_rfl
theorem szRHist : Tryz.prog.cellsOf 26 = 5 := by kernel_rfl
theorem edit_of {n : Nat} {cells : List Value} {y : DataW H × List MemPlace} (htab : tabsOk w) (h : DataW.trod enc Tryz.prog w base sp held n 33 cells = some y) :
    ∃ e : EditV, cells = e.cs ∧ e.ok0 w := by
  obtain ⟨ys, m, _, _, hl, hyl, hf⟩ := DataW.trod_struct Tryz.underlying33 h
  rw [szEdit] at hl
  obtain ⟨c0, c1, c2, c3, c4, c5, c6, rfl⟩ : ∃ c0 c1 c2 c3 c4 c5 c6, cells = [c0, c1, c2, c3, c4, c5, c6] := by
    match cells, hl with
    | [c0, c1, c2, c3, c4, c5, c6], _ => exact ⟨c0, c1, c2, c3, c4, c5, c6, rfl⟩
  obtain ⟨y0, y1, y2, y3, y4, y5, rfl⟩ : ∃ y0 y1 y2 y3 y4 y5, ys = [y0, y1, y2, y3, y4, y5] := by
    match ys, (show ys.length = 6 from hyl) with
    | [y0, y1, y2, y3, y4, y5], _ => exact ⟨y0, y1, y2, y3, y4, y5, rfl⟩
  have h0 := hf 0 _ rfl
  have h1 := hf 1 _ rfl
  have h2 := hf 2 _ rfl
  have h3 := hf 3 _ rfl
  have h4 := hf 4 _ rfl
  have h5 := hf 5 _ rfl
  simp only [List.getElem_toArray, List.getElem_cons_zero, List.getElem_cons_succ, szName, szInt, szString, List.drop_zero, List.drop_succ_cons, List.take_succ_cons, List.take_zero, List.getElem?_cons_zero, List.getElem?_cons_succ] at h0 h1 h2 h3 h4 h5
  obtain ⟨s, q, rfl, rfl, _, _⟩ := name_of h0
  obtain ⟨cx, e1, _, _⟩ := DataW.trod_int Tryz.underlying3 h1
  obtain ⟨kd, e2, _, _⟩ := DataW.trod_int Tryz.underlying3 h2
  obtain ⟨at_, e3, _, _⟩ := DataW.trod_int Tryz.underlying3 h3
  obtain ⟨ln, e4, _, _⟩ := DataW.trod_int Tryz.underlying3 h4
  obtain ⟨tx, e5, _, w5⟩ := DataW.trod_string Tryz.underlying9 h5
  simp only [List.cons.injEq, and_true] at e1 e2 e3 e4 e5
  subst e1 e2 e3 e4 e5
  exact ⟨⟨s, q, cx, kd, at_, ln, tx⟩, rfl, w5, fun hsz => ⟨.inl htab, hsz⟩⟩
theorem entry_of {n : Nat} {cells : List Value} {y : DataW H × List MemPlace} (htab : tabsOk w) (h : DataW.trod enc Tryz.prog w base sp held n 35 cells = some y) :
    ∃ x : EntV, cells = x.cs ∧ x.o.ok0 w x.sp ∧ x.ed.ok0 w := by
  obtain ⟨ys, m, _, _, hl, hyl, hf⟩ := DataW.trod_struct Tryz.underlying35 h
  rw [szEnt] at hl
  obtain ⟨y0, y1, rfl⟩ : ∃ y0 y1, ys = [y0, y1] := by
    match ys, (show ys.length = 2 from hyl) with
    | [y0, y1], _ => exact ⟨y0, y1, rfl⟩
  have h0 := hf 0 _ rfl
  have h1 := hf 1 _ rfl
  simp only [List.getElem_toArray, List.getElem_cons_zero, List.getElem_cons_succ, szOp, szEdit, List.drop_zero, List.getElem?_cons_zero, List.getElem?_cons_succ] at h0 h1
  rw [List.take_of_length_le (by rw [List.length_drop]; omega)] at h1
  obtain ⟨o, l, e0, ho⟩ := op_of htab h0
  obtain ⟨ed, e1, he⟩ := edit_of htab h1
  refine ⟨⟨o, l, ed⟩, ?_, ho, he⟩
  rw [← List.take_append_drop 7 cells, e0, e1]
  rfl
theorem read_ents {fuel : Nat} {a : Option Addr} {len cap : Nat} {x : DataW H × List MemPlace} (htab : tabsOk w) (h : DataW.trod enc Tryz.prog w base sp held fuel 24 [.slice a len cap] = some x) : ∃ l, IsEnts0 w a len cap l := by
  obtain ⟨a', len', cap', hcs, hl, hm, hf⟩ := slice_elems Tryz.underlying24 szEnt (by decide) h
  simp only [List.cons.injEq, Value.slice.injEq, and_true] at hcs
  obtain ⟨rfl, rfl, rfl⟩ := hcs
  have key : ∀ i, i < len → ∃ c : EntV, (c.o.ok0 w c.sp ∧ c.ed.ok0 w) ∧ ∃ b off, a = some ⟨b, off, none⟩ ∧ w.rangeAt b (off + i * 14) c.cs := by
    intro i hi
    obtain ⟨b, off, cells, y, n, e, _, hr, ht⟩ := hf i hi
    obtain ⟨c, rfl, hc⟩ := entry_of htab ht
    exact ⟨c, hc, b, off, e, hr⟩
  obtain ⟨f, hfk⟩ := Classical.axiomOfChoice (fun i : Fin len => key i.1 i.2)
  refine ⟨List.ofFn f, by simp, hl, hm, ?_, ?_⟩
  · intro y hy
    obtain ⟨i, rfl⟩ := List.mem_ofFn.1 hy
    exact (hfk i).1
  · intro i y hy
    have hi : i < len := by have := (List.getElem?_eq_some_iff.1 hy).1; simpa using this
    have : y = f ⟨i, hi⟩ := by
      rw [List.getElem?_eq_getElem (by simpa using hi)] at hy
      simp at hy; exact hy.symm
    subst this
    exact (hfk ⟨i, hi⟩).2
theorem read_ints {fuel : Nat} {a : Option Addr} {len cap : Nat} {x : DataW H × List MemPlace} (h : DataW.trod enc Tryz.prog w base sp held fuel 23 [.slice a len cap] = some x) : ∃ l, IsVec w a len cap l := by
  obtain ⟨a', len', cap', hcs, hl, hm, hf⟩ := slice_elems Tryz.underlying23 szInt (by decide) h
  simp only [List.cons.injEq, Value.slice.injEq, and_true] at hcs
  obtain ⟨rfl, rfl, rfl⟩ := hcs
  have key : ∀ i, i < len → ∃ c : Int, (-9223372036854775808 ≤ c ∧ c ≤ 9223372036854775807) ∧ ∃ b off, a = some ⟨b, off, none⟩ ∧ w.cell? ⟨b, off + i, none⟩ = some (.int .i64 c) := by
    intro i hi
    obtain ⟨b, off, cells, y, n, e, hlen, hr, ht⟩ := hf i hi
    obtain ⟨c, e1, _, w1⟩ := DataW.trod_int Tryz.underlying3 ht
    subst e1
    have := hr 0 _ rfl
    rw [Nat.mul_one, Nat.add_zero] at this
    exact ⟨c, bounds_i64 w1, b, off, e, this⟩
  obtain ⟨f, hfk⟩ := Classical.axiomOfChoice (fun i : Fin len => key i.1 i.2)
  refine ⟨List.ofFn f, by simp, hl, hm, ?_, ?_⟩
  · intro y hy
    obtain ⟨i, rfl⟩ := List.mem_ofFn.1 hy
    exact (hfk i).1
  · intro i y hy
    have hi : i < len := by have := (List.getElem?_eq_some_iff.1 hy).1; simpa using this
    have : y = f ⟨i, hi⟩ := by
      rw [List.getElem?_eq_getElem (by simpa using hi)] at hy
      simp at hy; exact hy.symm
    subst this
    exact (hfk ⟨i, hi⟩).2
theorem read_hist {n : Nat} {cells : List Value} {y : DataW H × List MemPlace} (htab : tabsOk w) (h : DataW.trod enc Tryz.prog w base sp held n 26 cells = some y) :
    ∃ (h : HistV) (B : List CellV) (V : List Int) (E : List EntV), cells = h.cs ∧ HistIs0 w h B V E := by
  obtain ⟨ys, m, _, _, hl, hyl, hf⟩ := DataW.trod_struct Tryz.underlying26 h
  rw [szRHist] at hl
  obtain ⟨c0, c1, c2, c3, c4, rfl⟩ : ∃ c0 c1 c2 c3 c4, cells = [c0, c1, c2, c3, c4] := by
    match cells, hl with
    | [c0, c1, c2, c3, c4], _ => exact ⟨c0, c1, c2, c3, c4, rfl⟩
  obtain ⟨y0, y1, y2, y3, y4, rfl⟩ : ∃ y0 y1 y2 y3 y4, ys = [y0, y1, y2, y3, y4] := by
    match ys, (show ys.length = 5 from hyl) with
    | [y0, y1, y2, y3, y4], _ => exact ⟨y0, y1, y2, y3, y4, rfl⟩
  have h0 := hf 0 _ rfl
  have h1 := hf 1 _ rfl
  have h2 := hf 2 _ rfl
  have h3 := hf 3 _ rfl
  have h4 := hf 4 _ rfl
  simp only [List.getElem_toArray, List.getElem_cons_zero, List.getElem_cons_succ, szCells, szInts, szInt, szEnts, List.drop_zero, List.drop_succ_cons, List.take_succ_cons, List.take_zero, List.getElem?_cons_zero, List.getElem?_cons_succ] at h0 h1 h2 h3 h4
  obtain ⟨ba, bl, bc, e0, _⟩ := slice_elems Tryz.underlying22 szCell (by decide) h0
  obtain ⟨va, vl, vc, e1, _⟩ := slice_elems Tryz.underlying23 szInt (by decide) h1
  obtain ⟨fr, e2, _, w2⟩ := DataW.trod_int Tryz.underlying3 h2
  obtain ⟨nu, e3, _, w3⟩ := DataW.trod_int Tryz.underlying3 h3
  obtain ⟨la, ll, lc, e4, _⟩ := slice_elems Tryz.underlying24 szEnt (by decide) h4
  simp only [List.cons.injEq, and_true] at e0 e1 e2 e3 e4
  subst e0 e1 e2 e3 e4
  obtain ⟨B, hB⟩ := read_cells h0
  obtain ⟨V, hV⟩ := read_ints h1
  obtain ⟨E, hE⟩ := read_ents htab h4
  exact ⟨⟨ba, bl, bc, va, vl, vc, fr, nu, la, ll, lc⟩, B, V, E, rfl, hB, hV, hE, bounds_i64 w2, bounds_i64 w3⟩
end
theorem okWide_agg {P : Program} {w : World} {r : Reach} {b0 : Nat} {t : TypeId} {v : Value} {fs : Array Field} (ht : P.underlying t = some (.struct fs)) (h : Value.okWide P w r b0 t v) : ∃ cs : Array Value, v = .agg cs := by
  simp only [Value.okWide, ht] at h
  obtain ⟨cs, rfl, _⟩ := h
  exact ⟨cs, rfl⟩

end Go.Proofs.YtlidmajcdjlcnaaGreatDoor

namespace Go.Proofs.YtlidmajcdjlcnaaGreatDoor
open Go.RowKit Go.Mine
open Classical

theorem nodup_snoc {α : Type} {l : List α} {x : α} (h : l.Nodup) (hx : ∀ y ∈ l, y ≠ x) : (l ++ [x]).Nodup := by
  rw [List.nodup_append]
  exact ⟨h, by simp, fun a ha b hb => by rw [List.mem_singleton.1 hb]; exact hx a ha⟩
theorem ids_take {l : List CellV} {k : Nat} {y : CellV} (hy : l[k]? = some y) : (l.take (k + 1)).map CellV.id = (l.take k).map CellV.id ++ [y.id] := by
  obtain ⟨hk', e⟩ := List.getElem?_eq_some_iff.1 hy
  rw [List.take_succ_eq_append_getElem hk', e, List.map_append]; rfl

set_option maxHeartbeats 8000000 in
set_option maxRecDepth 1000000 in
theorem rmayDoc_any (w : World) (a : Option Addr) (len cap : Nat) (l : List CellV) (h : IsCells w a len cap l) (hl : len ≤ 1099511627776) :
    Calls Tryz.prog 41 #[.slice a len cap] w fun e w' => e = .returned (.int .i64 (newE l)) ∧ Mine.Mod none_ w w' := by
  have hle := h.le
  have hcap := h.big
  unfold maxLen at hcap
  have H := Lib.hid h
  have HN := Lib.hid h.n
  obtain ⟨R, hR⟩ : ∃ R, R = newE l := ⟨_, rfl⟩
  rw [← hR]
  have HR := Lib.hid hR
  clear h hR
  go_enter Tryz.func41, Tryz.ntmps41
  go_wp2_with fail
  go_loopg [3] len (fun g s3 wx => ∃ k : Nat, g = len - k ∧ s3 = .int .i64 k ∧ k ≤ len ∧ Mine.Mod none_ w wx ∧ RowKit.Hid (∀ c ∈ l.take k, cellOk c = true))
  case atStart => exact ⟨0, rfl, rfl, Nat.zero_le _, Mine.Mod.refl _ _, Lib.hid (fun c hc => by simp at hc)⟩
  case round =>
    obtain ⟨k, rfl, rfl, hk, mx, hst⟩ := hrel
    have MX := Lib.hid mx
    by_cases hlk : k < len
    · obtain ⟨x, hx⟩ : ∃ x, l[k]? = some x := ⟨l[k]'(by rw [HN.out]; exact hlk), by simp⟩
      have HX := Lib.hid hx
      have HBAD := Lib.hid (show cellOk x = false → R = 1 from fun hb => by
        rw [HR.out]; unfold newE
        rw [if_neg]
        intro ha
        have := List.all_eq_true.1 ha x (List.mem_of_getElem? HX.out)
        rw [hb] at this; cases this)
      have HST := Lib.hid (show cellOk x = true → ∀ c ∈ l.take (k + 1), cellOk c = true from fun hb c hc => by
        obtain ⟨hk', e⟩ := List.getElem?_eq_some_iff.1 HX.out
        rw [List.take_succ_eq_append_getElem hk', e] at hc
        rcases List.mem_append.1 hc with hc | hc
        · exact hst.out c hc
        · rw [List.mem_singleton.1 hc]; exact hb)
      obtain ⟨b, off, rfl, hr⟩ := (H.out.grown mx).cells k x hx
      have c0 := hr 0 _ rfl
      have c1 := hr 1 _ rfl
      have c2 := hr 2 _ rfl
      have c3 := hr 3 _ rfl
      rw [Nat.add_zero] at c0
      clear mx hx hst
      cases h1 : nameOk x.site x.seq
      · have HE := Lib.hid (HBAD.out (by unfold cellOk; rw [h1]; rfl))
        clear HST hr
        go_wp2_with fail
        refine (rname_any x.site x.seq _).mono ?_
        rintro e w1 ⟨rfl, m1⟩
        rw [h1]
        have M1 := Lib.hid (MX.out.trans m1)
        clear m1 c0 c1 c2 c3
        go_wp2_with fail
        go_ret
        exact ⟨by rw [HE.out]; rfl, M1.out⟩
      · go_wp2_with fail
        refine (rname_any x.site x.seq _).mono ?_
        rintro e w1 ⟨rfl, m1⟩
        rw [h1]
        have d2 := m1.cell (fun e => e) c2
        have d3 := m1.cell (fun e => e) c3
        have M1 := Lib.hid (MX.out.trans m1)
        clear m1 c0 c1 c2 c3 hr
        by_cases h2 : x.off < 0
        · have HE := Lib.hid (HBAD.out (by unfold cellOk; simp; omega))
          have e2 : decide (x.off < 0) = true := by simpa using h2
          clear HST
          go_wp2_with fail
          go_ret
          exact ⟨by rw [HE.out]; rfl, M1.out⟩
        have e2 : decide (x.off < 0) = false := by simpa using h2
        by_cases h3 : 199 < x.off
        · have HE := Lib.hid (HBAD.out (by unfold cellOk; simp; omega))
          have e3 : decide (199 < x.off) = true := by simpa using h3
          clear HST
          go_wp2_with fail
          go_ret
          exact ⟨by rw [HE.out]; rfl, M1.out⟩
        have e3 : decide (199 < x.off) = false := by simpa using h3
        cases h4 : Lib.validRune x.r
        · have HE := Lib.hid (HBAD.out (by unfold cellOk; rw [h4, Bool.and_false]))
          clear HST
          go_wp2_with fail
          refine (ris_any x.r _).mono ?_
          rintro e w2 ⟨rfl, rfl⟩
          rw [h4]
          go_wp2_with fail
          go_ret
          exact ⟨by rw [HE.out]; rfl, M1.out⟩
        · have HT := Lib.hid (HST.out (by unfold cellOk; rw [h1, h4]; simp; omega))
          clear HST HBAD
          go_wp2_with fail
          refine (ris_any x.r _).mono ?_
          rintro e w2 ⟨rfl, rfl⟩
          rw [h4]
          go_wp2_with fail
          go_roundg (len - (k + 1))
          all_goals first
            | omega
            | exact ⟨k + 1, rfl, by go_num, by omega, M1.out, HT⟩
    · obtain rfl : k = len := by omega
      have HALL := Lib.hid (show l.all cellOk = true by
        rw [List.all_eq_true]
        intro c hc
        exact hst.out c (by rw [List.take_of_length_le (by rw [HN.out]; exact Nat.le_refl _)]; exact hc))
      clear mx hst
      obtain ⟨w0, rfl⟩ : ∃ w0, w0 = wr := ⟨_, rfl⟩
      go_wp2_with fail
      go_loopg [4] k (fun g s4 wx => ∃ n : Nat, g = k - n ∧ s4 = .int .i64 n ∧ n ≤ k ∧ Mine.Mod none_ w wx ∧ RowKit.Hid (((l.take n).map CellV.id).Nodup))
      case atStart => exact ⟨0, rfl, rfl, Nat.zero_le _, MX.out, Lib.hid (by simp)⟩
      case round =>
        obtain ⟨n, rfl, rfl, hn, my, hnd⟩ := hrel
        obtain ⟨wy, rfl⟩ : ∃ wy, wy = wr := ⟨_, rfl⟩
        have MY := Lib.hid my
        by_cases hln : n < k
        · obtain ⟨y, hy⟩ : ∃ y, l[n]? = some y := ⟨l[n]'(by rw [HN.out]; exact hln), by simp⟩
          have HY := Lib.hid hy
          clear my hy
          go_wp2_with fail
          go_loopg [5] n (fun g s5 wx => ∃ j : Nat, g = n - j ∧ s5 = .int .i64 j ∧ j ≤ n ∧ Mine.Mod none_ w wx ∧ RowKit.Hid (∀ (i : Nat) (x : CellV), i < j → l[i]? = some x → x.id ≠ y.id))
          case atStart => exact ⟨0, rfl, rfl, Nat.zero_le _, MY.out, Lib.hid (fun i x hi => absurd hi (by omega))⟩
          case round =>
            obtain ⟨j, rfl, rfl, hj, mz, hne⟩ := hrel
            have MZ := Lib.hid mz
            by_cases hlj : j < n
            · obtain ⟨x, hx⟩ : ∃ x, l[j]? = some x := ⟨l[j]'(by rw [HN.out]; omega), by simp⟩
              have HX := Lib.hid hx
              obtain ⟨b, off, rfl, hr⟩ := (H.out.grown mz).cells n y HY.out
              have d0 := hr 0 _ rfl
              have d1 := hr 1 _ rfl
              have d2 := hr 2 _ rfl
              rw [Nat.add_zero] at d0
              obtain ⟨b2, off2, hbe, hr2⟩ := (H.out.grown mz).cells j x hx
              obtain ⟨rfl, rfl⟩ : b = b2 ∧ off = off2 := by simpa using hbe
              have c0 := hr2 0 _ rfl
              have c1 := hr2 1 _ rfl
              have c2 := hr2 2 _ rfl
              rw [Nat.add_zero] at c0
              have HNE := Lib.hid (show x.id ≠ y.id → ∀ (i : Nat) (z : CellV), i < j + 1 → l[i]? = some z → z.id ≠ y.id from fun hxy i z hi hz => by
                by_cases hij : i = j
                · subst hij
                  rw [HX.out] at hz
                  obtain rfl := Option.some.inj hz
                  exact hxy
                · exact hne.out i z (by omega) hz)
              clear hr hr2 hbe mz hx hne
              by_cases e1 : x.site = y.site
              · by_cases e2 : x.seq = y.seq
                · by_cases e3 : x.off = y.off
                  · have HE := Lib.hid (show R = 15 by
                      rw [HR.out]; unfold newE
                      rw [if_pos HALL.out, if_neg]
                      intro hnd2
                      have hid : x.id = y.id := by unfold CellV.id; rw [e1, e2, e3]
                      have hj1 := List.getElem?_eq_some_iff.1 HX.out
                      have hj2 := List.getElem?_eq_some_iff.1 HY.out
                      obtain ⟨p1, q1⟩ := hj1
                      obtain ⟨p2, q2⟩ := hj2
                      refine List.pairwise_iff_getElem.1 hnd2 j n (by rw [List.length_map]; exact p1) (by rw [List.length_map]; exact p2) hlj ?_
                      rw [List.getElem_map, List.getElem_map, q1, q2, hid])
                    rw [e1] at c0
                    rw [e2] at c1
                    rw [e3] at c2
                    clear e1 e2 e3 HNE
                    go_upto_region 12 with fail
                    go_quiet (fail)
                    have MQ := Lib.hid (MZ.out.drewN nq)
                    generalize wr.drewN nq = wq at MQ ⊢
                    clear c0 c1 c2 d0 d1 d2
                    go_wp2_with fail
                    go_ret
                    exact ⟨by rw [HE.out]; rfl, MQ.out⟩
                  · have b3 : (x.off == y.off) = false := by simpa using e3
                    rw [e1] at c0
                    rw [e2] at c1
                    have HT := Lib.hid (HNE.out (by unfold CellV.id; simp [e3]))
                    clear HNE e1 e2
                    go_upto_region 12 with fail
                    go_quiet (fail)
                    have MQ := Lib.hid (MZ.out.drewN nq)
                    generalize wr.drewN nq = wq at MQ ⊢
                    clear c0 c1 c2 d0 d1 d2
                    go_wp2_with fail
                    go_roundg (n - (j + 1))
                    all_goals first
                      | omega
                      | exact ⟨j + 1, rfl, by go_num, by omega, MQ.out, HT⟩
                · have b2 : (x.seq == y.seq) = false := by simpa using e2
                  rw [e1] at c0
                  have HT := Lib.hid (HNE.out (by unfold CellV.id; simp [e2]))
                  clear HNE e1
                  go_upto_region 12 with fail
                  go_quiet (fail)
                  have MQ := Lib.hid (MZ.out.drewN nq)
                  generalize wr.drewN nq = wq at MQ ⊢
                  clear c0 c1 c2 d0 d1 d2
                  go_wp2_with fail
                  go_roundg (n - (j + 1))
                  all_goals first
                    | omega
                    | exact ⟨j + 1, rfl, by go_num, by omega, MQ.out, HT⟩
              · have b1 : (x.site == y.site) = false := by simpa using e1
                have HT := Lib.hid (HNE.out (by unfold CellV.id; simp [e1]))
                clear HNE
                go_upto_region 12 with fail
                go_quiet (fail)
                have MQ := Lib.hid (MZ.out.drewN nq)
                generalize wr.drewN nq = wq at MQ ⊢
                clear c0 c1 c2 d0 d1 d2
                go_wp2_with fail
                go_roundg (n - (j + 1))
                all_goals first
                  | omega
                  | exact ⟨j + 1, rfl, by go_num, by omega, MQ.out, HT⟩
            · obtain rfl : j = n := by omega
              have HND := Lib.hid (show ((l.take (j + 1)).map CellV.id).Nodup by
                rw [ids_take HY.out]
                refine nodup_snoc hnd.out (fun z hz => ?_)
                obtain ⟨c, hc, rfl⟩ := List.mem_map.1 hz
                obtain ⟨i, hi, rfl⟩ := List.getElem_of_mem hc
                rw [List.length_take] at hi
                rw [List.getElem_take]
                exact hne.out i _ (by omega) (List.getElem?_eq_getElem (by omega)))
              clear mz hne hnd
              go_wp2_with fail
              go_roundg (k - (j + 1))
              all_goals first
                | omega
                | exact ⟨j + 1, rfl, by go_num, by omega, MZ.out, HND⟩
        · obtain rfl : n = k := by omega
          have HND := Lib.hid (show (l.map CellV.id).Nodup by
            have := hnd.out
            rw [List.take_of_length_le (by rw [HN.out]; exact Nat.le_refl _)] at this
            exact this)
          clear my hnd
          by_cases hbig : 20000 < (n : Int)
          · have HE := Lib.hid (show R = 4 by
              rw [HR.out]; unfold newE
              rw [if_pos HALL.out, if_pos HND.out, if_neg]
              rw [HN.out]; omega)
            have eb : decide (20000 < (n : Int)) = true := by simpa using hbig
            go_wp2_with fail
            go_ret
            exact ⟨by rw [HE.out]; rfl, MY.out⟩
          · have HE := Lib.hid (show R = 0 by
              rw [HR.out]; unfold newE
              rw [if_pos HALL.out, if_pos HND.out, if_pos]
              rw [HN.out]; omega)
            have eb : decide (20000 < (n : Int)) = false := by simpa using hbig
            go_wp2_with fail
            go_ret
            exact ⟨by rw [HE.out]; rfl, MY.out⟩
end Go.Proofs.YtlidmajcdjlcnaaGreatDoor

namespace Go.Proofs.YtlidmajcdjlcnaaGreatDoor
open Go.RowKit Go.Shelf Go.Mine
open Classical

theorem nums_two (h : HistV) : numsOk h = (!decide (h.from_ < 0) && !decide (h.num < h.from_) && !decide (1099511627776 < h.num) && !decide (400 < (h.ll : Int))) := by
  unfold numsOk
  rw [Bool.eq_iff_iff]
  simp
  omega
theorem base_no {B : List CellV} {V : List Int} {c : CellV} {k : Nat} (hc : B[k]? = some c) (h : unkn V c = true) : baseOk B V = false := by
  unfold baseOk
  rw [List.any_eq_true.2 ⟨c, List.mem_of_getElem? hc, h⟩, Bool.not_true, Bool.and_false]
theorem base_take {B : List CellV} {V : List Int} {c : CellV} {k : Nat} (hc : B[k]? = some c) (h : unkn V c = false) (ha : (B.take k).any (unkn V) = false) : (B.take (k + 1)).any (unkn V) = false := by
  obtain ⟨hk, e⟩ := List.getElem?_eq_some_iff.1 hc
  rw [List.take_succ_eq_append_getElem hk, e, List.any_append, ha]; simp [h]

set_option maxHeartbeats 4000000 in
set_option maxRecDepth 1000000 in
theorem rhmay_any (w : World) (h : HistV) (B : List CellV) (V : List Int) (E : List EntV) (hh : HistIs w h B V E) (hl : h.bl ≤ 1099511627776) :
    Calls Tryz.prog 18 #[h.v] w fun e w' => e = .returned (.bool (histOk h B V E)) ∧ Mine.Mod none_ w w' := by
  obtain ⟨R, hR⟩ : ∃ R, R = histOk h B V E := ⟨_, rfl⟩
  rw [← hR]
  have hble := hh.b.le
  have hbcap := hh.b.big
  have hlle := hh.e.le
  have hlcap := hh.e.big
  unfold maxLen at hbcap hlcap
  have HHB := Lib.hid hh.b
  have HHV := Lib.hid hh.v
  have HHE := Lib.hid hh.e
  have HBN := Lib.hid hh.b.n
  have HEN := Lib.hid hh.e.n
  have HR := Lib.hid hR
  clear hh hR
  obtain ⟨xba, xbl, xbc, xva, xvl, xvc, xfr, xnum, xla, xll, xlc⟩ := h
  dsimp only at hl hble hbcap hlle hlcap HHB HHV HHE HBN HEN
  obtain ⟨W0, hW0⟩ : ∃ W0, w.alloc (.cells #[.slice xba xbl xbc, .slice xva xvl xvc, .int .i64 xfr, .int .i64 xnum, .slice xla xll xlc] 26) = W0 := ⟨_, rfl⟩
  obtain ⟨K, hK⟩ : ∃ K, w.heap.size = K := ⟨_, rfl⟩
  have m0 : Mine.Mod none_ w W0 := by rw [← hW0]; exact (Mine.Mod.refl none_ w).alloc _
  have k0 : Blk W0 K [.slice xba xbl xbc, .slice xva xvl xvc, .int .i64 xfr, .int .i64 xnum, .slice xla xll xlc] 26 := by rw [← hW0, ← hK]; exact Blk.new (w := w) (cs := [.slice xba xbl xbc, .slice xva xvl xvc, .int .i64 xfr, .int .i64 xnum, .slice xla xll xlc])
  obtain ⟨cs0, hcs0⟩ : ∃ cs0 : List Value, cs0 = [.slice xba xbl xbc, .slice xva xvl xvc, .int .i64 xfr, .int .i64 xnum, .slice xla xll xlc] := ⟨_, rfl⟩
  rw [← hcs0] at k0
  have HC0 := Lib.hid (show ∀ W, Blk W K cs0 26 → W.cell? ⟨K, 0, none⟩ = some (.slice xba xbl xbc) from fun W k => by rw [k.cell, hcs0]; rfl)
  have HC1 := Lib.hid (show ∀ W, Blk W K cs0 26 → W.cell? ⟨K, 1, none⟩ = some (.slice xva xvl xvc) from fun W k => by rw [k.cell, hcs0]; rfl)
  have HC2 := Lib.hid (show ∀ W, Blk W K cs0 26 → W.cell? ⟨K, 2, none⟩ = some (.int .i64 xfr) from fun W k => by rw [k.cell, hcs0]; rfl)
  have HC3 := Lib.hid (show ∀ W, Blk W K cs0 26 → W.cell? ⟨K, 3, none⟩ = some (.int .i64 xnum) from fun W k => by rw [k.cell, hcs0]; rfl)
  have HC4 := Lib.hid (show ∀ W, Blk W K cs0 26 → W.cell? ⟨K, 4, none⟩ = some (.slice xla xll xlc) from fun W k => by rw [k.cell, hcs0]; rfl)
  have M0 := Lib.hid m0
  have K0 := Lib.hid k0
  have hKw : w.heap.size ≤ K := by omega
  have c0 := HC0.out W0 k0
  have c1 := HC1.out W0 k0
  have c2 := HC2.out W0 k0
  have c3 := HC3.out W0 k0
  have c4 := HC4.out W0 k0
  clear m0 k0 hcs0
  go_enter Tryz.func18, Tryz.ntmps18
  go_upto_region 1 with fail
  clear hW0 hK
  go_wp2_with fail
  refine (rmayDoc_any W0 xba xbl xbc B (HHB.out.grown M0.out) hl).mono ?_
  rintro e w1 ⟨rfl, m1⟩
  have M1 := Lib.hid (M0.out.trans m1)
  have K1 := Lib.hid (K0.out.mod m1 (fun e => e))
  have d0 := HC0.out w1 K1.out
  have d1 := HC1.out w1 K1.out
  have d2 := HC2.out w1 K1.out
  have d3 := HC3.out w1 K1.out
  have d4 := HC4.out w1 K1.out
  clear m1 c0 c1 c2 c3 c4 M0 K0
  by_cases hn : newE B = 0
  case neg =>
    have HE := Lib.hid (show R = false by rw [HR.out]; unfold histOk baseOk; simp [hn])
    have hb : (newE B == 0) = false := by simpa using hn
    have hb2 : (newE B != 0) = true := by simpa using hn
    generalize newE B = ne at hn hb hb2 ⊢
    go_wp2_with fail
    go_ret
    exact ⟨by rw [HE.out]; rfl, M1.out⟩
  rw [hn]
  have HNE := Lib.hid hn
  clear hn
  go_wp2_with fail
  refine (rvmay_any w1 xva xvl xvc V (HHV.out.grown M1.out)).mono ?_
  rintro e w2 ⟨rfl, m2⟩
  have M2 := Lib.hid (M1.out.trans m2)
  have K2 := Lib.hid (K1.out.mod m2 (fun e => e))
  have e0 := HC0.out w2 K2.out
  have e1 := HC1.out w2 K2.out
  have e2 := HC2.out w2 K2.out
  have e3 := HC3.out w2 K2.out
  have e4 := HC4.out w2 K2.out
  clear m2 d0 d1 d2 d3 d4 M1 K1
  cases hv : vecOk V
  case false =>
    have HE := Lib.hid (show R = false by rw [HR.out]; unfold histOk baseOk; rw [hv]; simp)
    go_wp2_with fail
    go_ret
    exact ⟨by rw [HE.out]; rfl, M2.out⟩
  have HVO := Lib.hid hv
  clear hv
  cases q1 : decide (xfr < 0)
  case true =>
    have HE := Lib.hid (show R = false by rw [HR.out]; unfold histOk; rw [nums_two]; dsimp only; rw [q1]; rfl)
    go_wp2_with fail
    go_ret
    exact ⟨by rw [HE.out]; rfl, M2.out⟩
  cases q2 : decide (xnum < xfr)
  case true =>
    have HE := Lib.hid (show R = false by rw [HR.out]; unfold histOk; rw [nums_two]; dsimp only; rw [q1, q2]; rfl)
    go_wp2_with fail
    go_ret
    exact ⟨by rw [HE.out]; rfl, M2.out⟩
  cases q3 : decide (1099511627776 < xnum)
  case true =>
    have HE := Lib.hid (show R = false by rw [HR.out]; unfold histOk; rw [nums_two]; dsimp only; rw [q1, q2, q3]; rfl)
    go_wp2_with fail
    go_ret
    exact ⟨by rw [HE.out]; rfl, M2.out⟩
  cases q4 : decide (400 < (xll : Int))
  case true =>
    have HE := Lib.hid (show R = false by rw [HR.out]; unfold histOk; rw [nums_two]; dsimp only; rw [q1, q2, q3, q4]; rfl)
    go_wp2_with fail
    go_ret
    exact ⟨by rw [HE.out]; rfl, M2.out⟩
  have HNU := Lib.hid (show numsOk ⟨xba, xbl, xbc, xva, xvl, xvc, xfr, xnum, xla, xll, xlc⟩ = true by rw [nums_two]; dsimp only; rw [q1, q2, q3, q4]; rfl)
  have hll : xll ≤ 400 := by simp at q4; omega
  go_upto_region 3 with fail
  clear e0 e1 e2 e3 e4 q1 q2 q3 q4
  have f0 := HC0.out w2 K2.out
  have f1 := HC1.out w2 K2.out
  have f2 := HC2.out w2 K2.out
  have f3 := HC3.out w2 K2.out
  have f4 := HC4.out w2 K2.out
  have HA := Lib.hid (rops_any w2.drew ⟨xba, xbl, xbc, xva, xvl, xvc, xfr, xnum, xla, xll, xlc⟩ E ((HHE.out.grown M2.out).grown (Mine.Mod.drew (Mine.Mod.refl none_ w2))) (by show xll ≤ 100000; omega))
  refine wp_region_held_drew (S := fun w' => w'.cell? ⟨K, 0, none⟩ = some (.slice xba xbl xbc) ∧ w'.cell? ⟨K, 1, none⟩ = some (.slice xva xvl xvc) ∧ w'.cell? ⟨K, 2, none⟩ = some (.int .i64 xfr) ∧ w'.cell? ⟨K, 3, none⟩ = some (.int .i64 xnum) ∧ w'.cell? ⟨K, 4, none⟩ = some (.slice xla xll xlc)) (by kernel_rfl) ⟨f0, f1, f2, f3, f4⟩ (fun hS => ?_)
  clear f0 f1 f2 f3 f4
  refine wpAnyH_take (i := 0) (v := .agg #[.slice xba xbl xbc, .slice xva xvl xvc, .int .i64 xfr, .int .i64 xnum, .slice xla xll xlc]) rfl (by kernel_rfl) (by kernel_rfl) (by kernel_rfl) (fun _ _ _ h => h) (Or.inl ⟨by kernel_rfl, ?_⟩) hS ?_
  · rintro w' ⟨q0, q1, q2, q3, q4⟩; go_simp
  try simp only [Act.put, List.setIfInBounds_toArray, List.set_cons_zero, List.set_cons_succ]
  refine wpAnyH_take (i := 2) (v := .pointer (some ⟨K, 0, none⟩)) rfl (by kernel_rfl) (by kernel_rfl) (by kernel_rfl) (fun _ _ _ h => h) (Or.inl ⟨by kernel_rfl, ?_⟩) hS ?_
  · rintro w' ⟨q0, q1, q2, q3, q4⟩; go_simp
  try simp only [Act.put, List.setIfInBounds_toArray, List.set_cons_zero, List.set_cons_succ]
  refine wpAnyH_take (i := 3) (v := .slice xba xbl xbc) rfl (by kernel_rfl) (by kernel_rfl) (by kernel_rfl) (fun _ _ _ h => h) (Or.inl ⟨by kernel_rfl, ?_⟩) hS ?_
  · rintro w' ⟨q0, q1, q2, q3, q4⟩; go_simp
  try simp only [Act.put, List.setIfInBounds_toArray, List.set_cons_zero, List.set_cons_succ]
  refine wpAnyH_take (i := 4) (v := .int .i64 (xbl : Int)) rfl (by kernel_rfl) (by kernel_rfl) (by kernel_rfl) (fun _ _ _ h => h) (Or.inl ⟨by kernel_rfl, ?_⟩) hS ?_
  · rintro w' ⟨q0, q1, q2, q3, q4⟩; go_simp
  try simp only [Act.put, List.setIfInBounds_toArray, List.set_cons_zero, List.set_cons_succ]
  refine wpAnyH_ready (rs := [1]) (by kernel_rfl) (by simp) (AllReadyH.cons rfl (fun K hK => ?_) <| AllReadyH.nil)
  go_simp
  refine HA.out.mono ?_
  rintro e w3 ⟨⟨va, n, vc, rfl, ho⟩, m1⟩
  have MA := Lib.hid m1
  have KA := Lib.hid ((K2.out.mod (Mine.Mod.drew (Mine.Mod.refl none_ w2)) (fun e => e)).mod m1 (fun e => e))
  have HO := Lib.hid (own_ops ho (fun y hy => by obtain ⟨z, hz, rfl⟩ := List.mem_map.1 hy; exact (((HHE.out.grown M2.out).ok z hz).1.grown (Mine.Mod.drew (Mine.Mod.refl none_ w2))).grown m1))
  refine hK.out _ _ ⟨HC0.out _ KA.out, HC1.out _ KA.out, HC2.out _ KA.out, HC3.out _ KA.out, HC4.out _ KA.out⟩ (fun hS => ?_)
  clear hK K
  try simp only [Act.put, List.setIfInBounds_toArray, List.set_cons_zero, List.set_cons_succ]
  clear ho m1 HA
  refine wpAnyH_ready (rs := [5]) (by kernel_rfl) (by simp) (AllReadyH.cons rfl (fun K hK => ?_) <| AllReadyH.nil)
  go_simp
  refine (rlistRun_any w3 va n vc (opsOf E) (xbl : Int) HO.out).mono ?_
  rintro e w4 ⟨rfl, m2⟩
  have M4 := Lib.hid ((M2.out.trans (Mine.Mod.drew (Mine.Mod.refl none_ w2))).trans (MA.out.trans m2))
  have K4 := Lib.hid (KA.out.mod m2 (fun e => e))
  clear m2
  obtain ⟨ov, hov⟩ := listV_shape (opsOf E) (xbl : Int)
  rw [hov]
  obtain ⟨ob, hob⟩ : ∃ ob, ob = (listRun (opsOf E) (xbl : Int)).isSome := ⟨_, rfl⟩
  rw [← hob]
  have HOB := Lib.hid hob
  clear hov hob
  refine hK.out _ _ ⟨HC0.out _ K4.out, HC1.out _ K4.out, HC2.out _ K4.out, HC3.out _ K4.out, HC4.out _ K4.out⟩ (fun hS => ?_)
  clear hK K
  try simp only [Act.put, List.setIfInBounds_toArray, List.set_cons_zero, List.set_cons_succ]
  refine wpAnyH_take (i := 6) (v := .tuple #[.int .i64 ov, .bool ob]) rfl (by kernel_rfl) (by kernel_rfl) (by kernel_rfl) (fun _ _ _ h => h) (Or.inl ⟨by kernel_rfl, ?_⟩) hS ?_
  · rintro w' ⟨q0, q1, q2, q3, q4⟩; go_simp
  try simp only [Act.put, List.setIfInBounds_toArray, List.set_cons_zero, List.set_cons_succ]
  refine wpAnyH_take (i := 7) (v := .int .i64 ov) rfl (by kernel_rfl) (by kernel_rfl) (by kernel_rfl) (fun _ _ _ h => h) (Or.inl ⟨by kernel_rfl, ?_⟩) hS ?_
  · rintro w' ⟨q0, q1, q2, q3, q4⟩; go_simp
  try simp only [Act.put, List.setIfInBounds_toArray, List.set_cons_zero, List.set_cons_succ]
  refine wpAnyH_take (i := 8) (v := .bool ob) rfl (by kernel_rfl) (by kernel_rfl) (by kernel_rfl) (fun _ _ _ h => h) (Or.inl ⟨by kernel_rfl, ?_⟩) hS ?_
  · rintro w' ⟨q0, q1, q2, q3, q4⟩; go_simp
  try simp only [Act.put, List.setIfInBounds_toArray, List.set_cons_zero, List.set_cons_succ]
  refine wpAnyH_take (i := 9) (v := .int .i64 ov) rfl (by kernel_rfl) (by kernel_rfl) (by kernel_rfl) (fun _ _ _ h => h) (Or.inl ⟨by kernel_rfl, ?_⟩) hS ?_
  · rintro w' ⟨q0, q1, q2, q3, q4⟩; go_simp
  try simp only [Act.put, List.setIfInBounds_toArray, List.set_cons_zero, List.set_cons_succ]
  refine wpAnyH_take (i := 10) (v := .bool ob) rfl (by kernel_rfl) (by kernel_rfl) (by kernel_rfl) (fun _ _ _ h => h) (Or.inl ⟨by kernel_rfl, ?_⟩) hS ?_
  · rintro w' ⟨q0, q1, q2, q3, q4⟩; go_simp
  try simp only [Act.put, List.setIfInBounds_toArray, List.set_cons_zero, List.set_cons_succ]
  refine wpAnyH_done (by kernel_rfl) ?_ _
  try simp only [List.getElem_toArray, List.getElem_cons_succ, List.getElem_cons_zero]
  try simp only [Act.put, List.setIfInBounds_toArray, List.set_cons_zero, List.set_cons_succ]
  clear hS MA KA HO M2 K2
  cases ob
  case false =>
    have HE := Lib.hid (show R = false by rw [HR.out]; unfold histOk entsOk; rw [← HOB.out]; simp)
    go_wp2_with fail
    go_ret
    exact ⟨by rw [HE.out]; rfl, M4.out⟩
  have e0 := HC0.out w4 K4.out
  go_wp2_with fail
  clear e0
  go_loopg [5] xbl (fun g s5 wx => ∃ k : Nat, g = xbl - k ∧ s5 = .int .i64 k ∧ k ≤ xbl ∧ Mine.Mod none_ w wx ∧ RowKit.Hid (Blk wx K cs0 26 ∧ (B.take k).any (unkn V) = false))
  case atStart => exact ⟨0, rfl, rfl, Nat.zero_le _, M4.out, Lib.hid ⟨K4.out, rfl⟩⟩
  case round =>
    obtain ⟨k, rfl, rfl, hk, mx, hst⟩ := hrel
    have MX := Lib.hid mx
    obtain ⟨kx, hall⟩ := hst.out
    have KX := Lib.hid kx
    have a0 := HC0.out wr kx
    have a1 := HC1.out wr kx
    have a2 := HC2.out wr kx
    have a3 := HC3.out wr kx
    have a4 := HC4.out wr kx
    by_cases hlk : k < xbl
    · obtain ⟨x, hx⟩ : ∃ x, B[k]? = some x := ⟨B[k]'(by rw [HBN.out]; exact hlk), by simp⟩
      have hxo := (HHB.out.grown mx).ok x (List.mem_of_getElem? hx)
      obtain ⟨b, off, rfl, hr⟩ := (HHB.out.grown mx).cells k x hx
      have c0 := hr 0 _ rfl
      have c1 := hr 1 _ rfl
      rw [Nat.add_zero] at c0
      have HCT := Lib.hid (show ∀ n, Calls Tryz.prog 44 #[.slice xva xvl xvc, .int .i64 x.site] (wr.drewN n) fun e w' => e = .returned (.int .i64 (cntV V x.site)) ∧ w' = wr.drewN n from fun n => rvcount_any _ xva xvl xvc V x.site ((HHV.out.grown mx).grown ((Mine.Mod.refl none_ wr).drewN n)) hxo.i1)
      have HGO := Lib.hid (fun (hb : unkn V x = false) => base_take hx hb hall)
      have HNO := Lib.hid (fun (hb : unkn V x = true) => show R = false by rw [HR.out]; unfold histOk; rw [base_no hx hb]; simp)
      obtain ⟨n, hn⟩ : ∃ n, n = cntV V x.site := ⟨_, rfl⟩
      rw [← hn] at HCT
      have HU := Lib.hid (show unkn V x = !decide (x.seq ≤ n) by rw [hn]; rfl)
      clear hx hxo hr hn kx hall hst mx
      cases hq : decide (n < x.seq)
      · have HG := Lib.hid (HGO.out (by rw [HU.out]; simp at hq ⊢; omega))
        go_wp2_with fail
        go_quiet ((go_at_call 44; exact Calls.quiet_of_same (HCT.out _)))
        have MQ := Lib.hid (MX.out.trans ((Mine.Mod.refl none_ wr).drewN nq))
        have KQ := Lib.hid (KX.out.mod ((Mine.Mod.refl none_ wr).drewN nq) (fun e => e))
        generalize wr.drewN nq = wq at MQ KQ ⊢
        clear c0 c1 a0 a1 a2 a3 a4
        go_wp2_with fail
        go_roundg (xbl - (k + 1))
        all_goals first
          | omega
          | exact ⟨k + 1, rfl, by go_num, by omega, MQ.out, Lib.hid ⟨KQ.out, HG.out⟩⟩
      · have HE := Lib.hid (HNO.out (by rw [HU.out]; simp at hq ⊢; omega))
        go_wp2_with fail
        go_quiet ((go_at_call 44; exact Calls.quiet_of_same (HCT.out _)))
        have MQ := Lib.hid (MX.out.trans ((Mine.Mod.refl none_ wr).drewN nq))
        generalize wr.drewN nq = wq at MQ ⊢
        clear c0 c1 a0 a1 a2 a3 a4
        go_wp2_with fail
        go_ret
        exact ⟨by rw [HE.out]; rfl, MQ.out⟩
    · have hkl : xbl = k := by omega
      subst hkl
      rw [List.take_of_length_le (by rw [HBN.out]; omega)] at hall
      have HBO := Lib.hid (show baseOk B V = true by unfold baseOk; rw [HNE.out, HVO.out, hall]; rfl)
      clear kx hall hst mx
      go_wp2_with fail
      clear a0 a1 a2 a3 a4
      have HALLB := Lib.hid (fun (e : E.all entOk = true) (o : orderL xfr 0 V xnum E = true) => show R = true by rw [HR.out]; unfold histOk entsOk; rw [HNU.out, HBO.out, e, ← HOB.out]; dsimp only; rw [o]; rfl)
      have HBADO := Lib.hid (fun (o : orderL xfr 0 V xnum E = false) => show R = false by rw [HR.out]; unfold histOk; dsimp only; rw [o, Bool.and_false])
      have HBADE := Lib.hid (fun (o : entsOk E (xbl : Int) = false) => show R = false by rw [HR.out]; unfold histOk; dsimp only; rw [o]; simp)
      clear HBO HNE HVO HOB HNU HR
      go_loopg [6, 7, 8, 9] xll (fun g s6 s7 s8 s9 wx => ∃ (k : Nat) (last p : Int) (va : Option Addr) (vn vc : Nat) (V' : List Int), g = xll - k ∧ s6 = .int .i64 last ∧ s7 = .int .i64 p ∧ s8 = .slice va vn vc ∧ s9 = .int .i64 k ∧ k ≤ xll ∧ Mine.Mod none_ w wx ∧ RowKit.Hid (Blk wx K cs0 26 ∧ IsVec wx va vn vc V' ∧ orderL xfr 0 V xnum E = orderL last p V' xnum (E.drop k) ∧ (E.take k).all entOk = true))
      case atStart => exact ⟨0, xfr, 0, xva, xvl, xvc, V, rfl, rfl, rfl, rfl, rfl, Nat.zero_le _, MX.out, Lib.hid ⟨KX.out, HHV.out.grown MX.out, rfl, rfl⟩⟩
      case round =>
        clear MX KX
        obtain ⟨k, last, p, va, vn, vc, V', rfl, rfl, rfl, rfl, rfl, hk, mx, hst⟩ := hrel
        have MX := Lib.hid mx
        obtain ⟨kx, hv, hR, hall⟩ := hst.out
        have KX := Lib.hid kx
        have a3 := HC3.out wr kx
        have a4 := HC4.out wr kx
        by_cases hlk : k < xll
        · obtain ⟨x, hx⟩ : ∃ x, E[k]? = some x := ⟨E[k]'(by rw [HEN.out]; exact hlk), by simp⟩
          rw [drop_cons hx, orderL_cons] at hR
          have HRO := Lib.hid hR
          have HALL := Lib.hid (fun (hb : entOk x = true) => all_snocE hx hall hb)
          have HBAD := Lib.hid (fun (hb : entOk x = false) => show R = false from HBADE.out (not_allE hx hb))
          have hxo := (HHE.out.grown mx).ok x (List.mem_of_getElem? hx)
          obtain ⟨b, off, rfl, hr⟩ := (HHE.out.grown mx).ents k x hx
          have c0 := hr 0 _ rfl
          have c1 := hr 1 _ rfl
          have c2 := hr 2 _ rfl
          have c3 := hr 3 _ rfl
          have c4 := hr 4 _ rfl
          have c5 := hr 5 _ rfl
          have c6 := hr 6 _ rfl
          have c7 := hr 7 _ rfl
          have c8 := hr 8 _ rfl
          have c9 := hr 9 _ rfl
          have c10 := hr 10 _ rfl
          have c11 := hr 11 _ rfl
          have c12 := hr 12 _ rfl
          have c13 := hr 13 _ rfl
          rw [Nat.add_zero] at c0
          have mE : Mine.Mod none_ wr (wr.alloc (.cells x.cs.toArray 35)) := (Mine.Mod.refl none_ wr).alloc _
          have ME := Lib.hid mE
          have KE := Lib.hid (Blk.new (w := wr) (cs := x.cs) (t := 35))
          have HS := Lib.hid (show ((-9223372036854775808 ≤ x.o.site ∧ x.o.site ≤ 9223372036854775807)) from hxo.1.i1)
          have HM := Lib.hid (rmayEdit_any x.ed _ (hxo.2.grown mE))
          have HVI := Lib.hid hv
          dsimp only [EntV.cs] at ME KE HM
          clear kx hv hR hst hx hxo hr mE mx hall
          go_wp2_with fail
          refine HM.out.mono ?_
          rintro e w1 ⟨rfl, m1⟩
          have MW := Lib.hid (ME.out.trans m1)
          have M1 := Lib.hid (MX.out.trans MW.out)
          have K1 := Lib.hid (KX.out.mod MW.out (fun e => e))
          have KE1 := Lib.hid (KE.out.mod m1 (fun e => e))
          have e0 : w1.cell? ⟨wr.heap.size, 0, none⟩ = some (.int .i64 x.o.site) := by rw [KE1.out.cell]; rfl
          have e1 : w1.cell? ⟨wr.heap.size, 1, none⟩ = some (.int .i64 x.o.seq) := by rw [KE1.out.cell]; rfl
          have e2 : w1.cell? ⟨wr.heap.size, 2, none⟩ = some (.int .i64 x.o.num) := by rw [KE1.out.cell]; rfl
          have e3 : w1.cell? ⟨wr.heap.size, 3, none⟩ = some (.int .i64 x.o.kind) := by rw [KE1.out.cell]; rfl
          have e7 : w1.cell? ⟨wr.heap.size, 7, none⟩ = some (.int .i64 x.ed.site) := by rw [KE1.out.cell]; rfl
          have e8 : w1.cell? ⟨wr.heap.size, 8, none⟩ = some (.int .i64 x.ed.seq) := by rw [KE1.out.cell]; rfl
          have e10 : w1.cell? ⟨wr.heap.size, 10, none⟩ = some (.int .i64 x.ed.kind) := by rw [KE1.out.cell]; rfl
          clear m1 c0 c1 c2 c3 c4 c5 c6 c7 c8 c9 c10 c11 c12 c13 HM ME KE KX MX a3 a4
          cases ho : editOk x.ed
          case false =>
            have HE := Lib.hid (HBAD.out (by unfold entOk; rw [ho]; rfl))
            go_wp2_with fail
            go_ret
            exact ⟨by rw [HE.out]; rfl, M1.out⟩
          by_cases h1 : x.ed.site = x.o.site
          case neg =>
            have HE := Lib.hid (HBAD.out (by unfold entOk; simp [h1]))
            have b1 : (x.ed.site == x.o.site) = false := by simpa using h1
            go_wp2_with fail
            go_ret
            exact ⟨by rw [HE.out]; rfl, M1.out⟩
          by_cases h2 : x.ed.seq = x.o.seq
          case neg =>
            have HE := Lib.hid (HBAD.out (by unfold entOk; simp [h2]))
            have b2 : (x.ed.seq == x.o.seq) = false := by simpa using h2
            rw [h1] at e7
            clear h1
            go_wp2_with fail
            go_ret
            exact ⟨by rw [HE.out]; rfl, M1.out⟩
          by_cases h3 : x.ed.kind = x.o.kind
          case neg =>
            have HE := Lib.hid (HBAD.out (by unfold entOk; simp [h3]))
            have b3 : (x.ed.kind == x.o.kind) = false := by simpa using h3
            rw [h1] at e7
            rw [h2] at e8
            clear h1 h2
            go_wp2_with fail
            go_ret
            exact ⟨by rw [HE.out]; rfl, M1.out⟩
          have HALL2 := Lib.hid (HALL.out (by unfold entOk; rw [ho]; simp [h1, h2, h3]))
          rw [h1] at e7
          rw [h2] at e8
          rw [h3] at e10
          clear h1 h2 h3 ho HALL HBAD
          have HM := Lib.hid (rvraise_any w1 va vn vc V' x.o.site x.o.seq (HVI.out.grown MW.out) HS.out)
          have HVO := Lib.hid HVI.out.ok
          clear HVI MW
          go_wp2_with fail
          refine HM.out.mono ?_
          rintro e w2 ⟨hr, m1⟩
          have M2 := Lib.hid (M1.out.trans m1)
          have K2 := Lib.hid (K1.out.mod m1 (fun e => e))
          have KE2 := Lib.hid (KE1.out.mod m1 (fun e => e))
          clear e0 e1 e2 e3 e7 e8 e10
          have e0 : w2.cell? ⟨wr.heap.size, 0, none⟩ = some (.int .i64 x.o.site) := by rw [KE2.out.cell]; rfl
          have e2 : w2.cell? ⟨wr.heap.size, 2, none⟩ = some (.int .i64 x.o.num) := by rw [KE2.out.cell]; rfl
          have d3 := HC3.out w2 K2.out
          clear m1 HM KE1 KE2 K1 M1
          rcases hr with ⟨hne, rfl⟩ | ⟨hz, va', vn', vc', rfl, ho⟩
          · have hb : (raiseE V' x.o.site x.o.seq == 0) = false := by simpa using hne
            have hb2 : (raiseE V' x.o.site x.o.seq != 0) = true := by simpa using hne
            have HE := Lib.hid (HBADO.out (by rw [HRO.out, if_neg hne]))
            generalize raiseE V' x.o.site x.o.seq = ee at hne hb hb2 ⊢
            clear HRO
            go_wp2_with fail
            go_ret
            exact ⟨by rw [HE.out]; rfl, M2.out⟩
          have HR2 := Lib.hid (HRO.out.trans (if_pos hz))
          have hrv := raise_vec hz
          have HV1 := Lib.hid (own_vec ho (raiseL_i64 hrv.1 HVO.out))
          have hs1 := (nameOk_site hrv.2).1
          clear ho hz hrv HRO HVO
          by_cases hn : x.o.num = 0
          · have HR3 := Lib.hid (HR2.out.trans (if_pos hn))
            rw [hn] at e2
            clear hn HR2
            by_cases hp : p = 0
            · have HG := Lib.hid (HR3.out.trans (if_pos (Or.inl hp)))
              subst hp
              clear HR3
              go_wp2_with fail
              go_roundg (xll - (k + 1))
              all_goals first
                | omega
                | exact ⟨k + 1, _, _, va', vn', vc', _, rfl, rfl, rfl, rfl, by go_num, by omega, M2.out, Lib.hid ⟨K2.out, HV1.out, HG.out, HALL2.out⟩⟩
            have hb1 : (p == 0) = false := by simpa using hp
            have hb5 : (p != 0) = true := by simpa using hp
            by_cases hq : p = x.o.site
            · have HG := Lib.hid (HR3.out.trans (if_pos (Or.inr hq)))
              rw [← hq] at e0 HG HV1 hs1
              clear hq HR3
              go_wp2_with fail
              go_roundg (xll - (k + 1))
              all_goals first
                | omega
                | exact ⟨k + 1, _, _, va', vn', vc', _, rfl, rfl, rfl, rfl, by go_num, by omega, M2.out, Lib.hid ⟨K2.out, HV1.out, HG.out, HALL2.out⟩⟩
            have HE := Lib.hid (HBADO.out (HR3.out.trans (if_neg (fun e => e.elim hp hq))))
            have hb2 : (p == x.o.site) = false := by simpa using hq
            have hb6 : (p != x.o.site) = true := by simpa using hq
            clear HR3
            go_wp2_with fail
            go_ret
            exact ⟨by rw [HE.out]; rfl, M2.out⟩
          have HR3 := Lib.hid (HR2.out.trans (if_neg hn))
          have hb3 : (x.o.num == 0) = false := by simpa using hn
          have hb4 : (x.o.num != 0) = true := by simpa using hn
          by_cases hp : p = 0
          case neg =>
            have hb1 : (p == 0) = false := by simpa using hp
            have hb5 : (p != 0) = true := by simpa using hp
            have HE := Lib.hid (HBADO.out (HR3.out.trans (if_neg (fun e => hp e.1))))
            clear HR3 HR2
            go_wp2_with fail
            go_ret
            exact ⟨by rw [HE.out]; rfl, M2.out⟩
          subst hp
          clear HR2
          cases hl1 : decide (x.o.num ≤ last)
          case true =>
            have HE := Lib.hid (HBADO.out (HR3.out.trans (if_neg (fun e => by simp at hl1; omega))))
            clear HR3
            go_wp2_with fail
            go_ret
            exact ⟨by rw [HE.out]; rfl, M2.out⟩
          cases hl2 : decide (xnum < x.o.num)
          case true =>
            have HE := Lib.hid (HBADO.out (HR3.out.trans (if_neg (fun e => by simp at hl2; omega))))
            clear HR3
            go_wp2_with fail
            go_ret
            exact ⟨by rw [HE.out]; rfl, M2.out⟩
          have HG := Lib.hid (HR3.out.trans (if_pos (by simp at hl1 hl2; omega)))
          clear HR3
          go_wp2_with fail
          go_roundg (xll - (k + 1))
          all_goals first
            | omega
            | exact ⟨k + 1, _, _, va', vn', vc', _, rfl, rfl, rfl, rfl, by go_num, by omega, M2.out, Lib.hid ⟨K2.out, HV1.out, HG.out, HALL2.out⟩⟩
        · have hkl : k = xll := by omega
          rw [List.drop_of_length_le (by rw [HEN.out]; omega)] at hR
          rw [List.take_of_length_le (by rw [HEN.out]; omega)] at hall
          have HE := Lib.hid (HALLB.out hall hR)
          clear kx hv hR hst mx hall
          go_wp2_with fail
          go_ret
          exact ⟨by rw [HE.out]; rfl, MX.out⟩

end Go.Proofs.YtlidmajcdjlcnaaGreatDoor

namespace Go.Proofs.YtlidmajcdjlcnaaGreatDoor
open Go.RowKit Go.Shelf Go.Mine
open Classical

theorem like_at {E E' : List EntV} (h : likeE E E') (i : Nat) (x : OpS) (hx : (opsOf E')[i]? = some x) : ∃ ya yc, (opsOf E)[i]? = some (x.at ya yc) := by
  unfold opsOf at hx ⊢
  rw [List.getElem?_map] at hx ⊢
  have hi : i < E.length := by
    rw [← h.1]
    rcases Nat.lt_or_ge i E'.length with hi | hi
    · exact hi
    · rw [List.getElem?_eq_none hi] at hx; cases hx
  obtain ⟨a, c, h2⟩ := h.2 i _ (List.getElem?_eq_getElem hi)
  rw [h2] at hx
  cases hx
  rw [List.getElem?_eq_getElem hi]
  exact ⟨E[i].o.sa, E[i].o.scap, rfl⟩
theorem opsOf_len (E : List EntV) : (opsOf E).length = E.length := by unfold opsOf; rw [List.length_map]

set_option maxHeartbeats 4000000 in
set_option maxRecDepth 1000000 in
theorem histMay_any (w : World) (h : HistV) (B : List CellV) (V : List Int) (E : List EntV) (h0 : HistIs0 w h B V E) :
    Calls Tryz.prog 5 #[h.v] w fun e w' => e = .returned (.bool true) ∧ Mine.Mod none_ w w' := by
  have HG := Lib.hid (fun W (m : Mine.Mod none_ w W) => rgreatH_any W h E (h0.e.grown m))
  have HOF := Lib.hid (fun W => of_hist W h)
  have H0 := Lib.hid h0
  obtain ⟨G, hG⟩ : ∃ G, G = bigHist h E := ⟨_, rfl⟩
  rw [← hG] at HG
  have HSM := Lib.hid (fun (e : G = false) => h0.small (hG ▸ e))
  obtain ⟨R, hR⟩ : ∃ R, R = histOk h B V E := ⟨_, rfl⟩
  have HR := Lib.hid hR
  clear hG h0 hR
  obtain ⟨xba, xbl, xbc, xva, xvl, xvc, xfr, xnum, xla, xll, xlc⟩ := h
  obtain ⟨W0, hW0⟩ : ∃ W0, w.alloc (.cells #[.slice xba xbl xbc, .slice xva xvl xvc, .int .i64 xfr, .int .i64 xnum, .slice xla xll xlc] 26) = W0 := ⟨_, rfl⟩
  have m0 : Mine.Mod none_ w W0 := by rw [← hW0]; exact (Mine.Mod.refl none_ w).alloc _
  have k0 : Blk W0 (w.heap.size) [.slice xba xbl xbc, .slice xva xvl xvc, .int .i64 xfr, .int .i64 xnum, .slice xla xll xlc] 26 := by
    have hb := Blk.new (w := w) (cs := [.slice xba xbl xbc, .slice xva xvl xvc, .int .i64 xfr, .int .i64 xnum, .slice xla xll xlc]) (t := 26)
    rw [← hW0]
    exact hb.mod (Mine.Mod.refl none_ _) (fun e => e)
  have hs0 : W0.heap.size = w.heap.size + 1 := by rw [← hW0]; simp only [World.size_alloc]
  have M0 := Lib.hid m0
  have A0 := Lib.hid k0
  have HAL := Lib.hid (alive_any W0)
  clear m0 k0 hs0
  go_enter Tryz.func5, Tryz.ntmps5
  go_upto_region 1 with fail
  clear hW0
  go_wp2_with fail
  refine HAL.out.mono ?_
  rintro e w1 ⟨rfl, m1⟩
  have M1 := Lib.hid (M0.out.trans m1)
  have A1 := Lib.hid (A0.out.mod m1 (fun e => e))
  have HM := Lib.hid (HG.out w1 M1.out)
  have a0 := A1.out.cell 0
  have a1 := A1.out.cell 1
  have a2 := A1.out.cell 2
  have a3 := A1.out.cell 3
  have a4 := A1.out.cell 4
  simp only [List.getElem?_cons_zero, List.getElem?_cons_succ] at a0 a1 a2 a3 a4
  clear m1 HAL HG
  go_wp2_with fail
  refine HM.out.mono ?_
  rintro e w2 ⟨rfl, m2⟩
  have M2 := Lib.hid (M1.out.trans m2)
  have A2 := Lib.hid (A1.out.mod m2 (fun e => e))
  clear m2 a0 a1 a2 a3 a4 HM
  cases G
  case true =>
    go_wp2_with fail
    go_ret
    exact ⟨rfl, M2.out⟩
  have HS := Lib.hid (HSM.out rfl)
  try dsimp only at HS
  have hbl := HS.out.2.1
  have hvl := HS.out.2.2.1
  have hll := HS.out.2.2.2.1
  have HI := Lib.hid HS.out.1
  have a0 := A2.out.cell 0
  have a1 := A2.out.cell 1
  have a2 := A2.out.cell 2
  have a3 := A2.out.cell 3
  have a4 := A2.out.cell 4
  simp only [List.getElem?_cons_zero, List.getElem?_cons_succ] at a0 a1 a2 a3 a4
  clear HSM
  have HM := Lib.hid (HOF.out w2)
  go_wp2_with fail
  refine HM.out.mono ?_
  rintro e w3 ⟨rfl, m3⟩
  try dsimp only [HistV.v]
  have M3 := Lib.hid (M2.out.trans m3)
  have A3 := Lib.hid (A2.out.mod m3 (fun e => e))
  have mA := (Mine.Mod.refl none_ w3).alloc (.cells #[.slice xba xbl xbc, .slice xva xvl xvc, .int .i64 xfr, .int .i64 xnum, .slice xla xll xlc] 39)
  have D4 := Lib.hid (Blk.new (w := w3) (cs := [.slice xba xbl xbc, .slice xva xvl xvc, .int .i64 xfr, .int .i64 xnum, .slice xla xll xlc]) (t := 39))
  have M4 := Lib.hid (M3.out.trans mA)
  have A4 := Lib.hid (A3.out.mod mA (fun e => e))
  clear m3 mA HM a0 a1 a2 a3 a4
  go_upto_region 6 with fail
  generalize w3.heap.size = K3 at D4 ⊢
  generalize w3.alloc (.cells #[.slice xba xbl xbc, .slice xva xvl xvc, .int .i64 xfr, .int .i64 xnum, .slice xla xll xlc] 39) = w4 at M4 A4 D4 ⊢
  have HM := Lib.hid (rhmay_any w4 ⟨xba, xbl, xbc, xva, xvl, xvc, xfr, xnum, xla, xll, xlc⟩ B V E (HI.out.grown M4.out) (by dsimp only; omega))
  rw [← HR.out] at HM
  have a0 := A4.out.cell 0
  have a1 := A4.out.cell 1
  have a2 := A4.out.cell 2
  have a3 := A4.out.cell 3
  have a4 := A4.out.cell 4
  simp only [List.getElem?_cons_zero, List.getElem?_cons_succ] at a0 a1 a2 a3 a4
  go_wp2_with fail
  refine HM.out.mono ?_
  rintro e w5 ⟨rfl, m5⟩
  have M5 := Lib.hid (M4.out.trans m5)
  have A5 := Lib.hid (A4.out.mod m5 (fun e => e))
  have D5 := Lib.hid (D4.out.mod m5 (fun e => e))
  clear m5 a0 a1 a2 a3 a4 HM
  have HM := Lib.hid (hreach_any w5 ⟨xba, xbl, xbc, xva, xvl, xvc, xfr, xnum, xla, xll, xlc⟩ B V E (HI.out.grown M5.out) (by dsimp only; omega) (by dsimp only; omega))
  rw [← HR.out] at HM
  have d0 := D5.out.cell 0
  have d1 := D5.out.cell 1
  have d2 := D5.out.cell 2
  have d3 := D5.out.cell 3
  have d4 := D5.out.cell 4
  simp only [List.getElem?_cons_zero, List.getElem?_cons_succ] at d0 d1 d2 d3 d4
  go_wp2_with fail
  refine HM.out.mono ?_
  rintro e w6 ⟨hno, hyes, m6⟩
  have M6 := Lib.hid (M5.out.trans m6)
  have A6 := Lib.hid (A5.out.mod m6 (fun e => e))
  have D6 := Lib.hid (D5.out.mod m6 (fun e => e))
  have HNO := Lib.hid hno
  have HYES := Lib.hid hyes
  clear m6 d0 d1 d2 d3 d4 HM hno hyes
  have HMAY := Lib.hid (show ∀ W, Mine.Mod none_ w W → Calls Tryz.prog 21 #[.agg #[.slice xba xbl xbc, .slice xva xvl xvc, .int .i64 xfr, .int .i64 xnum, .slice xla xll xlc]] W fun e w' => e = .returned (.bool R) ∧ Mine.Mod none_ W w' from fun W m => by rw [HR.out]; exact hmay_any W ⟨xba, xbl, xbc, xva, xvl, xvc, xfr, xnum, xla, xll, xlc⟩ B V E (HI.out.grown m) (by dsimp only; omega))
  have HSAME := Lib.hid (fun W (m : Mine.Mod none_ w W) => hsame_any W ⟨xba, xbl, xbc, xva, xvl, xvc, xfr, xnum, xla, xll, xlc⟩ B V E (HI.out.grown m))
  have HPEN := Lib.hid (fun W (m : Mine.Mod none_ w W) => hpending_any W ⟨xba, xbl, xbc, xva, xvl, xvc, xfr, xnum, xla, xll, xlc⟩ B V E (HI.out.grown m) (by dsimp only; omega))
  have HOPS := Lib.hid (fun W (m : Mine.Mod none_ w W) => hops_any W ⟨xba, xbl, xbc, xva, xvl, xvc, xfr, xnum, xla, xll, xlc⟩ B V E (HI.out.grown m) (by dsimp only; omega) (by dsimp only; omega) (fun y hy => Nat.le_trans (HS.out.2.2.2.2 y hy) (by decide)))
  rw [← HR.out] at HPEN HOPS
  cases R
  case false =>
    obtain rfl := HNO.out rfl
    clear HNO HYES
    have d0 := D6.out.cell 0
    have d1 := D6.out.cell 1
    have d2 := D6.out.cell 2
    have d3 := D6.out.cell 3
    have d4 := D6.out.cell 4
    simp only [List.getElem?_cons_zero, List.getElem?_cons_succ] at d0 d1 d2 d3 d4
    go_wp2_with fail
    refine (HMAY.out w6 M6.out).mono ?_
    rintro e w7 ⟨rfl, m7⟩
    have M7 := Lib.hid (M6.out.trans m7)
    have A7 := Lib.hid (A6.out.mod m7 (fun e => e))
    have D7 := Lib.hid (D6.out.mod m7 (fun e => e))
    clear m7 d0 d1 d2 d3 d4
    have d0 := D7.out.cell 0
    have d1 := D7.out.cell 1
    have d2 := D7.out.cell 2
    have d3 := D7.out.cell 3
    have d4 := D7.out.cell 4
    simp only [List.getElem?_cons_zero, List.getElem?_cons_succ] at d0 d1 d2 d3 d4
    go_wp2_with fail
    refine (HSAME.out w7 M7.out).mono ?_
    rintro e w8 ⟨rfl, m8⟩
    have M8 := Lib.hid (M7.out.trans m8)
    have A8 := Lib.hid (A7.out.mod m8 (fun e => e))
    have D8 := Lib.hid (D7.out.mod m8 (fun e => e))
    clear m8 d0 d1 d2 d3 d4
    have d0 := D8.out.cell 0
    have d1 := D8.out.cell 1
    have d2 := D8.out.cell 2
    have d3 := D8.out.cell 3
    have d4 := D8.out.cell 4
    simp only [List.getElem?_cons_zero, List.getElem?_cons_succ] at d0 d1 d2 d3 d4
    go_wp2_with fail
    refine (HOPS.out w8 M8.out).mono ?_
    rintro e w9 ⟨m9, hno, -⟩
    obtain rfl := hno rfl
    have M9 := Lib.hid (M8.out.trans m9)
    have A9 := Lib.hid (A8.out.mod m9 (fun e => e))
    have D9 := Lib.hid (D8.out.mod m9 (fun e => e))
    clear m9 hno d0 d1 d2 d3 d4
    have d0 := D9.out.cell 0
    have d1 := D9.out.cell 1
    have d2 := D9.out.cell 2
    have d3 := D9.out.cell 3
    have d4 := D9.out.cell 4
    simp only [List.getElem?_cons_zero, List.getElem?_cons_succ] at d0 d1 d2 d3 d4
    go_wp2_with fail
    refine (HPEN.out w9 M9.out).mono ?_
    rintro e w10 ⟨rfl, m10⟩
    dsimp only
    have M10 := Lib.hid (M9.out.trans m10)
    clear m10 d0 d1 d2 d3 d4
    go_wp2_with fail
    go_ret
    exact ⟨rfl, M10.out⟩
  obtain ⟨rva, rvn, rvc, rfl, hrv⟩ := HYES.out rfl
  have HRV := Lib.hid hrv
  have HORD := Lib.hid (histOk_order HR.out.symm)
  have HNS := Lib.hid (histOk_nums HR.out.symm)
  have hnl : numN E ≤ xll := by have := numN_le E; rwa [HI.out.e.n] at this
  clear HNO HYES hrv
  have d0 := D6.out.cell 0
  have d1 := D6.out.cell 1
  have d2 := D6.out.cell 2
  have d3 := D6.out.cell 3
  have d4 := D6.out.cell 4
  simp only [List.getElem?_cons_zero, List.getElem?_cons_succ] at d0 d1 d2 d3 d4
  go_wp2_with fail
  refine (HMAY.out w6 M6.out).mono ?_
  rintro e w7 ⟨rfl, m7⟩
  have M7 := Lib.hid (M6.out.trans m7)
  have A7 := Lib.hid (A6.out.mod m7 (fun e => e))
  have D7 := Lib.hid (D6.out.mod m7 (fun e => e))
  have HRV7 := Lib.hid (HRV.out.grown m7)
  clear m7 d0 d1 d2 d3 d4
  have d0 := D7.out.cell 0
  have d1 := D7.out.cell 1
  have d2 := D7.out.cell 2
  have d3 := D7.out.cell 3
  have d4 := D7.out.cell 4
  simp only [List.getElem?_cons_zero, List.getElem?_cons_succ] at d0 d1 d2 d3 d4
  go_wp2_with fail
  refine (HSAME.out w7 M7.out).mono ?_
  rintro e w8 ⟨rfl, m8⟩
  have M8 := Lib.hid (M7.out.trans m8)
  have A8 := Lib.hid (A7.out.mod m8 (fun e => e))
  have D8 := Lib.hid (D7.out.mod m8 (fun e => e))
  have HRV8 := Lib.hid (HRV7.out.grown m8)
  clear m8 d0 d1 d2 d3 d4
  go_upto_region 12 with fail
  have f0 : w8.cell? ⟨w.heap.size, 0, none⟩ = some (.slice xba xbl xbc) := by rw [A8.out.cell]; rfl
  have g0 : w8.cell? ⟨K3, 0, none⟩ = some (.slice xba xbl xbc) := by rw [D8.out.cell]; rfl
  have f1 : w8.cell? ⟨w.heap.size, 1, none⟩ = some (.slice xva xvl xvc) := by rw [A8.out.cell]; rfl
  have g1 : w8.cell? ⟨K3, 1, none⟩ = some (.slice xva xvl xvc) := by rw [D8.out.cell]; rfl
  have f2 : w8.cell? ⟨w.heap.size, 2, none⟩ = some (.int .i64 xfr) := by rw [A8.out.cell]; rfl
  have g2 : w8.cell? ⟨K3, 2, none⟩ = some (.int .i64 xfr) := by rw [D8.out.cell]; rfl
  have f3 : w8.cell? ⟨w.heap.size, 3, none⟩ = some (.int .i64 xnum) := by rw [A8.out.cell]; rfl
  have g3 : w8.cell? ⟨K3, 3, none⟩ = some (.int .i64 xnum) := by rw [D8.out.cell]; rfl
  have f4 : w8.cell? ⟨w.heap.size, 4, none⟩ = some (.slice xla xll xlc) := by rw [A8.out.cell]; rfl
  have g4 : w8.cell? ⟨K3, 4, none⟩ = some (.slice xla xll xlc) := by rw [D8.out.cell]; rfl
  have mD := Mine.Mod.drew (Mine.Mod.refl none_ w8)
  have M9 := Lib.hid (M8.out.trans mD)
  have A9 := Lib.hid (A8.out.mod mD (fun e => e))
  have D9 := Lib.hid (D8.out.mod mD (fun e => e))
  have HRV9 := Lib.hid (HRV8.out.grown mD)
  clear mD
  refine wp_region_held_drew (S := fun w' => w'.cell? ⟨w.heap.size, 0, none⟩ = some (.slice xba xbl xbc) ∧ w'.cell? ⟨w.heap.size, 1, none⟩ = some (.slice xva xvl xvc) ∧ w'.cell? ⟨w.heap.size, 2, none⟩ = some (.int .i64 xfr) ∧ w'.cell? ⟨w.heap.size, 3, none⟩ = some (.int .i64 xnum) ∧ w'.cell? ⟨w.heap.size, 4, none⟩ = some (.slice xla xll xlc) ∧ w'.cell? ⟨K3, 0, none⟩ = some (.slice xba xbl xbc) ∧ w'.cell? ⟨K3, 1, none⟩ = some (.slice xva xvl xvc) ∧ w'.cell? ⟨K3, 2, none⟩ = some (.int .i64 xfr) ∧ w'.cell? ⟨K3, 3, none⟩ = some (.int .i64 xnum) ∧ w'.cell? ⟨K3, 4, none⟩ = some (.slice xla xll xlc)) (by kernel_rfl) ⟨f0, f1, f2, f3, f4, g0, g1, g2, g3, g4⟩ (fun hS => ?_)
  clear f0 f1 f2 f3 f4 g0 g1 g2 g3 g4
  refine wpAnyH_take (i := 0) (v := .agg #[.slice xba xbl xbc, .slice xva xvl xvc, .int .i64 xfr, .int .i64 xnum, .slice xla xll xlc]) rfl (by kernel_rfl) (by kernel_rfl) (by kernel_rfl) (fun _ _ _ h => h) (Or.inl ⟨by kernel_rfl, ?_⟩) hS ?_
  · rintro w' ⟨q0, q1, q2, q3, q4, q5, q6, q7, q8, q9⟩; go_simp
  try simp only [Act.put, List.setIfInBounds_toArray, List.set_cons_zero, List.set_cons_succ]
  refine wpAnyH_take (i := 2) (v := .agg #[.slice xba xbl xbc, .slice xva xvl xvc, .int .i64 xfr, .int .i64 xnum, .slice xla xll xlc]) rfl (by kernel_rfl) (by kernel_rfl) (by kernel_rfl) (fun _ _ _ h => h) (Or.inl ⟨by kernel_rfl, ?_⟩) hS ?_
  · rintro w' ⟨q0, q1, q2, q3, q4, q5, q6, q7, q8, q9⟩; go_simp
  try simp only [Act.put, List.setIfInBounds_toArray, List.set_cons_zero, List.set_cons_succ]
  refine wpAnyH_ready (rs := [1]) (by kernel_rfl) (by simp) (AllReadyH.cons rfl (fun J hJ => ?_) <| AllReadyH.nil)
  go_simp
  refine (HOPS.out _ M9.out).mono ?_
  rintro e w10 ⟨m10, -, hyes⟩
  have M10 := Lib.hid (M9.out.trans m10)
  have A10 := Lib.hid (A9.out.mod m10 (fun e => e))
  have D10 := Lib.hid (D9.out.mod m10 (fun e => e))
  obtain ⟨E', va, vc, rfl, hlk, ho, hsp⟩ := hyes rfl
  have HLK := Lib.hid hlk
  have HO1 := Lib.hid (own_ops ho (fun x hx => by
    obtain ⟨y, hy, rfl⟩ := List.mem_map.1 hx
    obtain ⟨z, hz, a, c, rfl⟩ := hlk.back hy
    exact (EntV.at_ok (HI.out.e.ok z hz) M10.out (hsp _ hy)).1))
  have HRV10 := Lib.hid (HRV9.out.grown m10)
  clear hyes hlk ho hsp
  refine hJ.out _ _ ⟨by rw [A10.out.cell]; rfl, by rw [A10.out.cell]; rfl, by rw [A10.out.cell]; rfl, by rw [A10.out.cell]; rfl, by rw [A10.out.cell]; rfl, by rw [D10.out.cell]; rfl, by rw [D10.out.cell]; rfl, by rw [D10.out.cell]; rfl, by rw [D10.out.cell]; rfl, by rw [D10.out.cell]; rfl⟩ (fun hS => ?_)
  clear hJ J m10
  try simp only [Act.put, List.setIfInBounds_toArray, List.set_cons_zero, List.set_cons_succ]
  refine wpAnyH_ready (rs := [3]) (by kernel_rfl) (by simp) (AllReadyH.cons rfl (fun J hJ => ?_) <| AllReadyH.nil)
  go_simp
  refine (rops_any _ ⟨xba, xbl, xbc, xva, xvl, xvc, xfr, xnum, xla, xll, xlc⟩ E (HI.out.e.grown M10.out) (by dsimp only; omega)).mono ?_
  rintro e w11 ⟨⟨va2, n2, vc2, rfl, ho⟩, m11⟩
  have M11 := Lib.hid (M10.out.trans m11)
  have A11 := Lib.hid (A10.out.mod m11 (fun e => e))
  have D11 := Lib.hid (D10.out.mod m11 (fun e => e))
  have hn2 : n2 = E.length := by
    have h1 := ho.1
    rw [flat_length OpS.len, opsOf_len] at h1
    omega
  subst hn2
  have HO2 := Lib.hid (own_ops ho (fun x hx => by
    obtain ⟨y, hy, rfl⟩ := List.mem_map.1 hx
    exact (HI.out.e.ok y hy).1.grown M11.out))
  have HO1b := Lib.hid (HO1.out.grown m11)
  have HRV11 := Lib.hid (HRV10.out.grown m11)
  clear ho
  refine hJ.out _ _ ⟨by rw [A11.out.cell]; rfl, by rw [A11.out.cell]; rfl, by rw [A11.out.cell]; rfl, by rw [A11.out.cell]; rfl, by rw [A11.out.cell]; rfl, by rw [D11.out.cell]; rfl, by rw [D11.out.cell]; rfl, by rw [D11.out.cell]; rfl, by rw [D11.out.cell]; rfl, by rw [D11.out.cell]; rfl⟩ (fun hS => ?_)
  clear hJ J m11
  try simp only [Act.put, List.setIfInBounds_toArray, List.set_cons_zero, List.set_cons_succ]
  refine wpAnyH_ready (rs := [4]) (by kernel_rfl) (by simp) (AllReadyH.cons rfl (fun J hJ => ?_) <| AllReadyH.nil)
  go_simp
  refine (sameList_any _ va va2 E.length vc vc2 (opsOf E') (opsOf E) HO1b.out HO2.out (like_at HLK.out)).mono ?_
  rintro e w12 ⟨rfl, m12⟩
  have M12 := Lib.hid (M11.out.trans m12)
  have A12 := Lib.hid (A11.out.mod m12 (fun e => e))
  have D12 := Lib.hid (D11.out.mod m12 (fun e => e))
  have HRV12 := Lib.hid (HRV11.out.grown m12)
  refine hJ.out _ _ ⟨by rw [A12.out.cell]; rfl, by rw [A12.out.cell]; rfl, by rw [A12.out.cell]; rfl, by rw [A12.out.cell]; rfl, by rw [A12.out.cell]; rfl, by rw [D12.out.cell]; rfl, by rw [D12.out.cell]; rfl, by rw [D12.out.cell]; rfl, by rw [D12.out.cell]; rfl, by rw [D12.out.cell]; rfl⟩ (fun hS => ?_)
  clear hJ J m12
  try simp only [Act.put, List.setIfInBounds_toArray, List.set_cons_zero, List.set_cons_succ]
  refine wpAnyH_take (i := 5) (v := .bool true) rfl (by kernel_rfl) (by kernel_rfl) (by kernel_rfl) (fun _ _ _ h => h) (Or.inl ⟨by kernel_rfl, ?_⟩) hS ?_
  · rintro w' ⟨q0, q1, q2, q3, q4, q5, q6, q7, q8, q9⟩; go_simp
  try simp only [Act.put, List.setIfInBounds_toArray, List.set_cons_zero, List.set_cons_succ]
  refine wpAnyH_take (i := 6) (v := .agg #[.slice xba xbl xbc, .slice xva xvl xvc, .int .i64 xfr, .int .i64 xnum, .slice xla xll xlc]) rfl (by kernel_rfl) (by kernel_rfl) (by kernel_rfl) (fun _ _ _ h => h) (Or.inl ⟨by kernel_rfl, ?_⟩) hS ?_
  · rintro w' ⟨q0, q1, q2, q3, q4, q5, q6, q7, q8, q9⟩; go_simp
  try simp only [Act.put, List.setIfInBounds_toArray, List.set_cons_zero, List.set_cons_succ]
  refine wpAnyH_take (i := 8) (v := .pointer (some ⟨w.heap.size, 4, none⟩)) rfl (by kernel_rfl) (by kernel_rfl) (by kernel_rfl) (fun _ _ _ h => h) (Or.inl ⟨by kernel_rfl, ?_⟩) hS ?_
  · rintro w' ⟨q0, q1, q2, q3, q4, q5, q6, q7, q8, q9⟩; go_simp
  try simp only [Act.put, List.setIfInBounds_toArray, List.set_cons_zero, List.set_cons_succ]
  refine wpAnyH_take (i := 9) (v := .slice xla xll xlc) rfl (by kernel_rfl) (by kernel_rfl) (by kernel_rfl) (fun _ _ _ h => h) (Or.inl ⟨by kernel_rfl, ?_⟩) hS ?_
  · rintro w' ⟨q0, q1, q2, q3, q4, q5, q6, q7, q8, q9⟩; go_simp
  try simp only [Act.put, List.setIfInBounds_toArray, List.set_cons_zero, List.set_cons_succ]
  refine wpAnyH_take (i := 10) (v := .int .i64 (xll : Int)) rfl (by kernel_rfl) (by kernel_rfl) (by kernel_rfl) (fun _ _ _ h => h) (Or.inl ⟨by kernel_rfl, ?_⟩) hS ?_
  · rintro w' ⟨q0, q1, q2, q3, q4, q5, q6, q7, q8, q9⟩; go_simp
  try simp only [Act.put, List.setIfInBounds_toArray, List.set_cons_zero, List.set_cons_succ]
  refine wpAnyH_take (i := 11) (v := .agg #[.slice xba xbl xbc, .slice xva xvl xvc, .int .i64 xfr, .int .i64 xnum, .slice xla xll xlc]) rfl (by kernel_rfl) (by kernel_rfl) (by kernel_rfl) (fun _ _ _ h => h) (Or.inl ⟨by kernel_rfl, ?_⟩) hS ?_
  · rintro w' ⟨q0, q1, q2, q3, q4, q5, q6, q7, q8, q9⟩; go_simp
  try simp only [Act.put, List.setIfInBounds_toArray, List.set_cons_zero, List.set_cons_succ]
  refine wpAnyH_ready (rs := [7]) (by kernel_rfl) (by simp) (AllReadyH.cons rfl (fun J hJ => ?_) <| AllReadyH.nil)
  rw [if_pos (by kernel_rfl)]
  go_simp
  refine (HPEN.out _ M12.out).mono ?_
  rintro e w13 ⟨rfl, m13⟩
  have M13 := Lib.hid (M12.out.trans m13)
  have A13 := Lib.hid (A12.out.mod m13 (fun e => e))
  have D13 := Lib.hid (D12.out.mod m13 (fun e => e))
  have HRV13 := Lib.hid (HRV12.out.grown m13)
  refine hJ.out _ _ ⟨by rw [A13.out.cell]; rfl, by rw [A13.out.cell]; rfl, by rw [A13.out.cell]; rfl, by rw [A13.out.cell]; rfl, by rw [A13.out.cell]; rfl, by rw [D13.out.cell]; rfl, by rw [D13.out.cell]; rfl, by rw [D13.out.cell]; rfl, by rw [D13.out.cell]; rfl, by rw [D13.out.cell]; rfl⟩ (fun hS => ?_)
  clear hJ J m13
  try simp only [Act.put, List.setIfInBounds_toArray, List.set_cons_zero, List.set_cons_succ]
  refine wpAnyH_ready (rs := [12]) (by kernel_rfl) (by simp) (AllReadyH.cons rfl (fun J hJ => ?_) <| AllReadyH.nil)
  rw [if_pos (by kernel_rfl)]
  go_simp
  refine (rnumbered_any _ ⟨xba, xbl, xbc, xva, xvl, xvc, xfr, xnum, xla, xll, xlc⟩ E (HI.out.e.grown M13.out)).mono ?_
  rintro e w14 ⟨rfl, m14⟩
  have M14 := Lib.hid (M13.out.trans m14)
  have A14 := Lib.hid (A13.out.mod m14 (fun e => e))
  have D14 := Lib.hid (D13.out.mod m14 (fun e => e))
  have HRV14 := Lib.hid (HRV13.out.grown m14)
  refine hJ.out _ _ ⟨by rw [A14.out.cell]; rfl, by rw [A14.out.cell]; rfl, by rw [A14.out.cell]; rfl, by rw [A14.out.cell]; rfl, by rw [A14.out.cell]; rfl, by rw [D14.out.cell]; rfl, by rw [D14.out.cell]; rfl, by rw [D14.out.cell]; rfl, by rw [D14.out.cell]; rfl, by rw [D14.out.cell]; rfl⟩ (fun hS => ?_)
  clear hJ J m14
  try simp only [Act.put, List.setIfInBounds_toArray, List.set_cons_zero, List.set_cons_succ]
  have hw : IntKind.i64.wrap ((xll : Int) - numN E) = (xll : Int) - numN E := by rw [IntKind.wrap_i64]; omega
  refine wpAnyH_take (i := 13) (v := .int .i64 ((xll : Int) - numN E)) rfl (by kernel_rfl) (by kernel_rfl) (by kernel_rfl) (fun _ _ _ h => h) (Or.inl ⟨by kernel_rfl, ?_⟩) hS ?_
  · rintro w' ⟨q0, q1, q2, q3, q4, q5, q6, q7, q8, q9⟩; go_simp
  try simp only [Act.put, List.setIfInBounds_toArray, List.set_cons_zero, List.set_cons_succ]
  refine wpAnyH_take (i := 14) (v := .bool true) rfl (by kernel_rfl) (by kernel_rfl) (by kernel_rfl) (fun _ _ _ h => h) (Or.inl ⟨by kernel_rfl, ?_⟩) hS ?_
  · rintro w' ⟨q0, q1, q2, q3, q4, q5, q6, q7, q8, q9⟩; go_simp
  try simp only [Act.put, List.setIfInBounds_toArray, List.set_cons_zero, List.set_cons_succ]
  refine wpAnyH_take (i := 15) (v := .bool true) rfl (by kernel_rfl) (by kernel_rfl) (by kernel_rfl) (fun _ _ _ h => h) (Or.inl ⟨by kernel_rfl, ?_⟩) hS ?_
  · rintro w' ⟨q0, q1, q2, q3, q4, q5, q6, q7, q8, q9⟩; go_simp
  try simp only [Act.put, List.setIfInBounds_toArray, List.set_cons_zero, List.set_cons_succ]
  refine wpAnyH_take (i := 16) (v := .bool true) rfl (by kernel_rfl) (by kernel_rfl) (by kernel_rfl) (fun _ _ _ h => h) (Or.inl ⟨by kernel_rfl, ?_⟩) hS ?_
  · rintro w' ⟨q0, q1, q2, q3, q4, q5, q6, q7, q8, q9⟩; go_simp
  try simp only [Act.put, List.setIfInBounds_toArray, List.set_cons_zero, List.set_cons_succ]
  refine wpAnyH_take (i := 17) (v := .int .i64 0) rfl (by kernel_rfl) (by kernel_rfl) (by kernel_rfl) (fun _ _ _ h => h) (Or.inl ⟨by kernel_rfl, ?_⟩) hS ?_
  · rintro w' ⟨q0, q1, q2, q3, q4, q5, q6, q7, q8, q9⟩; go_simp
  try simp only [Act.put, List.setIfInBounds_toArray, List.set_cons_zero, List.set_cons_succ]
  refine wpAnyH_take (i := 18) (v := .bool true) rfl (by kernel_rfl) (by kernel_rfl) (by kernel_rfl) (fun _ _ _ h => h) (Or.inl ⟨by kernel_rfl, ?_⟩) hS ?_
  · rintro w' ⟨q0, q1, q2, q3, q4, q5, q6, q7, q8, q9⟩; go_simp
  try simp only [Act.put, List.setIfInBounds_toArray, List.set_cons_zero, List.set_cons_succ]
  refine wpAnyH_take (i := 19) (v := .bool true) rfl (by kernel_rfl) (by kernel_rfl) (by kernel_rfl) (fun _ _ _ h => h) (Or.inl ⟨by kernel_rfl, ?_⟩) hS ?_
  · rintro w' ⟨q0, q1, q2, q3, q4, q5, q6, q7, q8, q9⟩; go_simp
  try simp only [Act.put, List.setIfInBounds_toArray, List.set_cons_zero, List.set_cons_succ]
  refine wpAnyH_take (i := 20) (v := .bool true) rfl (by kernel_rfl) (by kernel_rfl) (by kernel_rfl) (fun _ _ _ h => h) (Or.inl ⟨by kernel_rfl, ?_⟩) hS ?_
  · rintro w' ⟨q0, q1, q2, q3, q4, q5, q6, q7, q8, q9⟩; go_simp
  try simp only [Act.put, List.setIfInBounds_toArray, List.set_cons_zero, List.set_cons_succ]
  refine wpAnyH_take (i := 21) (v := .slice rva rvn rvc) rfl (by kernel_rfl) (by kernel_rfl) (by kernel_rfl) (fun _ _ _ h => h) (Or.inl ⟨by kernel_rfl, ?_⟩) hS ?_
  · rintro w' ⟨q0, q1, q2, q3, q4, q5, q6, q7, q8, q9⟩; go_simp
  try simp only [Act.put, List.setIfInBounds_toArray, List.set_cons_zero, List.set_cons_succ]
  refine wpAnyH_take (i := 22) (v := .agg #[.slice xba xbl xbc, .slice xva xvl xvc, .int .i64 xfr, .int .i64 xnum, .slice xla xll xlc]) rfl (by kernel_rfl) (by kernel_rfl) (by kernel_rfl) (fun _ _ _ h => h) (Or.inl ⟨by kernel_rfl, ?_⟩) hS ?_
  · rintro w' ⟨q0, q1, q2, q3, q4, q5, q6, q7, q8, q9⟩; go_simp
  try simp only [Act.put, List.setIfInBounds_toArray, List.set_cons_zero, List.set_cons_succ]
  clear hw
  refine wpAnyH_ready (rs := [23]) (by kernel_rfl) (by simp) (AllReadyH.cons rfl (fun J hJ => ?_) <| AllReadyH.nil)
  rw [if_pos (by kernel_rfl)]
  go_simp
  refine (rreach_any _ ⟨xba, xbl, xbc, xva, xvl, xvc, xfr, xnum, xla, xll, xlc⟩ V E xfr 0 xnum (HI.out.v.grown M14.out) (HI.out.e.grown M14.out) HORD.out).mono ?_
  rintro e w15 ⟨⟨va3, n3, vc3, rfl, hv3⟩, m15⟩
  have M15 := Lib.hid (M14.out.trans m15)
  have A15 := Lib.hid (A14.out.mod m15 (fun e => e))
  have D15 := Lib.hid (D14.out.mod m15 (fun e => e))
  have HRV15 := Lib.hid (HRV14.out.grown m15)
  have hn3 : n3 = rvn := hv3.n.symm.trans HRV15.out.n
  subst hn3
  have HV3 := Lib.hid hv3
  clear hv3
  refine hJ.out _ _ ⟨by rw [A15.out.cell]; rfl, by rw [A15.out.cell]; rfl, by rw [A15.out.cell]; rfl, by rw [A15.out.cell]; rfl, by rw [A15.out.cell]; rfl, by rw [D15.out.cell]; rfl, by rw [D15.out.cell]; rfl, by rw [D15.out.cell]; rfl, by rw [D15.out.cell]; rfl, by rw [D15.out.cell]; rfl⟩ (fun hS => ?_)
  clear hJ J m15
  try simp only [Act.put, List.setIfInBounds_toArray, List.set_cons_zero, List.set_cons_succ]
  refine wpAnyH_ready (rs := [24]) (by kernel_rfl) (by simp) (AllReadyH.cons rfl (fun J hJ => ?_) <| AllReadyH.nil)
  rw [if_pos (by kernel_rfl)]
  go_simp
  refine (same_vec _ rva va3 n3 rvc vc3 (reachL V E) HRV15.out HV3.out).mono ?_
  rintro e w16 ⟨rfl, m16⟩
  have M16 := Lib.hid (M15.out.trans m16)
  have A16 := Lib.hid (A15.out.mod m16 (fun e => e))
  have D16 := Lib.hid (D15.out.mod m16 (fun e => e))
  refine hJ.out _ _ ⟨by rw [A16.out.cell]; rfl, by rw [A16.out.cell]; rfl, by rw [A16.out.cell]; rfl, by rw [A16.out.cell]; rfl, by rw [A16.out.cell]; rfl, by rw [D16.out.cell]; rfl, by rw [D16.out.cell]; rfl, by rw [D16.out.cell]; rfl, by rw [D16.out.cell]; rfl, by rw [D16.out.cell]; rfl⟩ (fun hS => ?_)
  clear hJ J m16
  try simp only [Act.put, List.setIfInBounds_toArray, List.set_cons_zero, List.set_cons_succ]
  refine wpAnyH_take (i := 25) (v := .bool true) rfl (by kernel_rfl) (by kernel_rfl) (by kernel_rfl) (fun _ _ _ h => h) (Or.inl ⟨by kernel_rfl, ?_⟩) hS ?_
  · rintro w' ⟨q0, q1, q2, q3, q4, q5, q6, q7, q8, q9⟩; go_simp
  try simp only [Act.put, List.setIfInBounds_toArray, List.set_cons_zero, List.set_cons_succ]
  refine wpAnyH_take (i := 26) (v := .bool true) rfl (by kernel_rfl) (by kernel_rfl) (by kernel_rfl) (fun _ _ _ h => h) (Or.inl ⟨by kernel_rfl, ?_⟩) hS ?_
  · rintro w' ⟨q0, q1, q2, q3, q4, q5, q6, q7, q8, q9⟩; go_simp
  try simp only [Act.put, List.setIfInBounds_toArray, List.set_cons_zero, List.set_cons_succ]
  refine wpAnyH_done (by kernel_rfl) ?_ _
  try simp only [List.getElem_toArray, List.getElem_cons_succ, List.getElem_cons_zero]
  try simp only [Act.put, List.setIfInBounds_toArray, List.set_cons_zero, List.set_cons_succ]
  go_wp2_with fail
  go_ret
  exact ⟨rfl, M16.out⟩

end Go.Proofs.YtlidmajcdjlcnaaGreatDoor

namespace Go.Proofs.YtlidmajcdjlcnaaGreatDoor
open Go.ChangeShapes Go.WideShapes Go.ChangeAt Go.RowKit Go.Mine Go.Deep

theorem Tryz.own5 : ownKnob Tryz.prog.godebug = none := by kernel_rfl
theorem Tryz.laidOut5 : laidOutB Tryz.prog = true := by kernel_rfl

theorem accept_eq : (Rows.laid_unicode_utf8_acceptRanges : DataW Unit) = Lib.acceptData := by kernel_rfl
theorem u8types : U8Types Tryz.prog Tryz.lays197_ren := { Tryz.lays197 with }
theorem tabs_of {W : World} (h : laidMetH Tryz.prog [("unicode/utf8.acceptRanges", Rows.laid_unicode_utf8_acceptRanges), ("unicode/utf8.first", Rows.laid_unicode_utf8_first)] W) : tabsOk W := by
  rw [MakeChecks.laidMetH_plain _ _ _ (by kernel_rfl)] at h
  have h4 := Lib.laidMet.reads h (n := "unicode/utf8.acceptRanges") (.head _)
  have h3 := Lib.laidMet.reads h (n := "unicode/utf8.first") (.tail _ (.head _))
  rw [accept_eq] at h4
  have h3' : Lib.VarReads Tryz.prog W "unicode/utf8.first" Lib.firstData := by
    have := h3
    unfold Rows.laid_unicode_utf8_first at this
    rwa [Pinned.utf8First_eq] at this
  exact utf8Tabs_of_readsT u8types ⟨by kernel_rfl, by kernel_rfl, by kernel_rfl, by kernel_rfl, by kernel_rfl, by kernel_rfl, by kernel_rfl⟩ h3' h4
theorem okWide_three {P : Program} {w : World} {r : Reach} {b0 : Nat} {t e : TypeId} {v : Value} (ht : P.underlying t = some (.array 3 e)) (hC : P.cellsOf t = 3) (h : Value.okWide P w r b0 t v) : ∃ c0 c1 c2, v = .agg #[c0, c1, c2] := by
  simp only [Value.okWide, ht] at h
  obtain ⟨cs, rfl, h2, _⟩ := h
  obtain ⟨c0, c1, c2, rfl⟩ := Go.Joins.array3 (h2.trans hC)
  exact ⟨c0, c1, c2, rfl⟩
theorem okWide_two {P : Program} {w : World} {r : Reach} {b0 : Nat} {t e : TypeId} {v : Value} (ht : P.underlying t = some (.array 2 e)) (hC : P.cellsOf t = 2) (h : Value.okWide P w r b0 t v) : ∃ c0 c1, v = .agg #[c0, c1] := by
  simp only [Value.okWide, ht] at h
  obtain ⟨cs, rfl, h2, _⟩ := h
  obtain ⟨l⟩ := cs
  match l, h2.trans hC with
  | [c0, c1], _ => exact ⟨c0, c1, rfl⟩
theorem ints_two {H : Type} {enc : TypeId × Value → H} {P : Program} {w : World} {base : Nat} {sp : Nat → Bool} {held : Bool} {fuel : Nat} {t e : TypeId} {v0 v1 : Value} {x : DataW H × List MemPlace} (ht : P.underlying t = some (.array 2 e)) (he : P.underlying e = some (.int .i64)) (hC : P.cellsOf e = 1) (h : DataW.trod enc P w base sp held fuel t [v0, v1] = some x) :
    ∃ m0 m1 : Int, (-9223372036854775808 ≤ m0 ∧ m0 ≤ 9223372036854775807) ∧ (-9223372036854775808 ≤ m1 ∧ m1 ≤ 9223372036854775807) ∧ v0 = .int .i64 m0 ∧ v1 = .int .i64 m1 := by
  obtain ⟨ys, m, _, _, _, hyl, hg⟩ := DataW.trod_array ht h
  have h0 := hg 0 (by omega)
  have h1 := hg 1 (by omega)
  rw [hC] at h0 h1
  rw [List.getElem?_eq_getElem (by omega)] at h0 h1
  obtain ⟨m0, e0, _, w0⟩ := DataW.trod_int he h0
  obtain ⟨m1, e1, _, w1⟩ := DataW.trod_int he h1
  simp only [Nat.zero_mul, Nat.one_mul, List.drop_zero, List.drop_succ_cons, List.take_succ_cons, List.take_zero, List.cons.injEq, and_true] at e0 e1
  exact ⟨m0, m1, bounds_i64 w0, bounds_i64 w1, e0, e1⟩
theorem okWide_four {P : Program} {w : World} {r : Reach} {b0 : Nat} {t e : TypeId} {v : Value} (ht : P.underlying t = some (.array 4 e)) (hC : P.cellsOf t = 4) (h : Value.okWide P w r b0 t v) : ∃ c0 c1 c2 c3, v = .agg #[c0, c1, c2, c3] := by
  simp only [Value.okWide, ht] at h
  obtain ⟨cs, rfl, h2, _⟩ := h
  obtain ⟨l⟩ := cs
  match l, h2.trans hC with
  | [c0, c1, c2, c3], _ => exact ⟨c0, c1, c2, c3, rfl⟩
theorem ints_four {H : Type} {enc : TypeId × Value → H} {P : Program} {w : World} {base : Nat} {sp : Nat → Bool} {held : Bool} {fuel : Nat} {t e : TypeId} {v0 v1 v2 v3 : Value} {x : DataW H × List MemPlace} (ht : P.underlying t = some (.array 4 e)) (he : P.underlying e = some (.int .i64)) (hC : P.cellsOf e = 1) (h : DataW.trod enc P w base sp held fuel t [v0, v1, v2, v3] = some x) :
    ∃ m0 m1 m2 m3 : Int, (-9223372036854775808 ≤ m0 ∧ m0 ≤ 9223372036854775807) ∧ (-9223372036854775808 ≤ m3 ∧ m3 ≤ 9223372036854775807) ∧ v0 = .int .i64 m0 ∧ v1 = .int .i64 m1 ∧ v2 = .int .i64 m2 ∧ v3 = .int .i64 m3 := by
  obtain ⟨ys, m, _, _, _, hyl, hg⟩ := DataW.trod_array ht h
  have h0 := hg 0 (by omega)
  have h1 := hg 1 (by omega)
  have h2 := hg 2 (by omega)
  have h3 := hg 3 (by omega)
  rw [hC, List.getElem?_eq_getElem (by omega)] at h0 h1 h2 h3
  obtain ⟨m0, e0, _, w0⟩ := DataW.trod_int he h0
  obtain ⟨m1, e1, _, _⟩ := DataW.trod_int he h1
  obtain ⟨m2, e2, _, _⟩ := DataW.trod_int he h2
  obtain ⟨m3, e3, _, w3⟩ := DataW.trod_int he h3
  simp only [Nat.zero_mul, Nat.mul_one, List.drop_zero, List.drop_succ_cons, List.take_succ_cons, List.take_zero, List.cons.injEq, and_true] at e0 e1 e2 e3
  exact ⟨m0, m1, m2, m3, bounds_i64 w0, bounds_i64 w3, e0, e1, e2, e3⟩
end Go.Proofs.YtlidmajcdjlcnaaGreatDoor
