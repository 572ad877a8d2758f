/-
  Layer 21 (hold): the document's queue (foolscapref21): Put.
-/
import Derived.Test.YtpdfakfokegcnaaHold16
namespace Go.Proofs.Ytpdfakfokegcnaa
open Go.RowKit Go.Mine
attribute [local go_sem ↓] ld_msg st_msg ld_rq st_rq ld_ri
attribute [local go_sem] run_ld_msg run_st_msg run_ld_rq run_st_rq run_ld_ri cut_drew setCells_drew World.there_drew setCells_alloc_at there_alloc_at cut_alloc_at there_alloc_old cut_alloc_old fold_set_whole fold_set_at there_drewN cut_drewN setCells_drewN

theorem RRow.cellsAt {w : World} {g off len cap j : Nat} {L : List Itm} {x : Itm} (h : RRow w (some ⟨g, off, none⟩) len cap L) (hx : L[j]? = some x) : w.rangeAt g (off + j * 12) x.cells ∧ w.there g (off + j * 12) 12 := by
  have hj := (List.getElem?_eq_some_iff.1 hx).1
  obtain ⟨g', off', e, hc⟩ := h.some_ (by have := h.n; omega)
  cases e
  exact hc j x hx

/-- x stands ahead of the first that is greater. -/
def InsOf (L : List Itm) (x : Itm) (M : List Itm) : Prop := ∃ s r, L = s ++ r ∧ M = s ++ x :: r ∧ (∀ z ∈ s, ¬ x.num < z.num) ∧ (∀ y, r.head? = some y → x.num < y.num)

def InsSt (L : List Itm) (x : Itm) (j : Nat) (d : Bool) (O : List Itm) : Prop :=
  (d = false ∧ O = L.take j ∧ ∀ z ∈ L.take j, ¬ x.num < z.num) ∨ (d = true ∧ ∃ s y r, L.take j = s ++ y :: r ∧ O = s ++ x :: y :: r ∧ x.num < y.num ∧ ∀ z ∈ s, ¬ x.num < z.num)

theorem take_next {L : List Itm} {j : Nat} {y : Itm} (hy : L[j]? = some y) : L.take (j + 1) = L.take j ++ [y] := by
  rw [List.take_add_one, hy]; rfl
theorem InsSt.pass {L : List Itm} {x y : Itm} {j : Nat} {O : List Itm} (h : InsSt L x j false O) (hy : L[j]? = some y) (hn : ¬ x.num < y.num) : InsSt L x (j + 1) false (O ++ [y]) := by
  rcases h with ⟨_, h1, h2⟩ | ⟨h, _⟩
  · refine .inl ⟨rfl, by rw [take_next hy, h1], fun z hz => ?_⟩
    rw [take_next hy] at hz
    rcases List.mem_append.1 hz with e | e
    · exact h2 z e
    · rw [List.mem_singleton.1 e]; exact hn
  · cases h
theorem InsSt.here {L : List Itm} {x y : Itm} {j : Nat} {O : List Itm} (h : InsSt L x j false O) (hy : L[j]? = some y) (hn : x.num < y.num) : InsSt L x (j + 1) true (O ++ [x] ++ [y]) := by
  rcases h with ⟨_, h1, h2⟩ | ⟨h, _⟩
  · exact .inr ⟨rfl, L.take j, y, [], by rw [take_next hy], by rw [h1]; simp, hn, h2⟩
  · cases h
theorem InsSt.past {L : List Itm} {x y : Itm} {j : Nat} {O : List Itm} (h : InsSt L x j true O) (hy : L[j]? = some y) : InsSt L x (j + 1) true (O ++ [y]) := by
  rcases h with ⟨h, _⟩ | ⟨_, s, z, r, h1, h2, h3, h4⟩
  · cases h
  · exact .inr ⟨rfl, s, z, r ++ [y], by rw [take_next hy, h1]; simp, by rw [h2]; simp, h3, h4⟩
theorem InsSt.len_false {L : List Itm} {x : Itm} {j : Nat} {O : List Itm} (h : InsSt L x j false O) : O.length ≤ j := by
  rcases h with ⟨_, h1, h2⟩ | ⟨h, _⟩
  · rw [h1, List.length_take]; omega
  · cases h
theorem InsSt.end_true {L : List Itm} {x : Itm} {O : List Itm} (h : InsSt L x L.length true O) : InsOf L x O := by
  rcases h with ⟨h, _⟩ | ⟨_, s, z, r, h1, h2, h3, h4⟩
  · cases h
  · rw [List.take_length] at h1
    exact ⟨s, z :: r, h1, h2, h4, fun y hy => by cases hy; exact h3⟩
theorem InsSt.end_false {L : List Itm} {x : Itm} {O : List Itm} (h : InsSt L x L.length false O) : InsOf L x (O ++ [x]) := by
  rcases h with ⟨_, h1, h2⟩ | ⟨h, _⟩
  · rw [List.take_length] at h1 h2
    exact ⟨L, [], by simp, by rw [h1], h2, fun y hy => by cases hy⟩
  · cases h

theorem three_new' (w : World) (c0 c1 c2 : List Value) (t0 t1 t2 : TypeId) :
    ∀ T, T = ((w.alloc (.cells c0.toArray t0)).alloc (.cells c1.toArray t1)).alloc (.cells c2.toArray t2) → Blk T w.heap.size c0 t0 ∧ Blk T (w.heap.size + 1) c1 t1 ∧ Blk T (w.heap.size + 1 + 1) c2 t2 ∧ Mod none_ w T ∧ T.heap.size = w.heap.size + 1 + 1 + 1 := by
  rintro T rfl
  have h := three_new w c0 c1 c2 t0 t1 t2 0 _ rfl
  exact ⟨h.1, h.2.1, h.2.2.1, h.2.2.2, by simp⟩

/-- What Put answers where nothing is put. -/
def RPutNo (next : Int) (a : Option Addr) (len cap : Nat) (c : Int) (w : World) (e : Ending) (w' : World) : Prop :=
  e = .returned (.tuple #[.agg #[.int .i64 next, .slice a len cap], .int .i64 c]) ∧ Mod none_ w w'

structure RPInv (next : Int) (a : Option Addr) (len cap : Nat) (m : List Value) (w wr : World) (v : Value) (O : List Itm) : Prop where
  b0 : Blk wr w.heap.size [.int .i64 next, .slice a len cap] 58
  b1 : Blk wr (w.heap.size + 1) m 51
  b2 : Blk wr (w.heap.size + 1 + 1) [.int .i64 0, .slice none 0 0] 58
  m_ : Mod none_ w wr
  o : ORow (w.heap.size + 1 + 1 + 1) wr v O
  sz : w.heap.size + 1 + 1 + 1 ≤ wr.heap.size

theorem RPInv.step {next : Int} {a : Option Addr} {len cap : Nat} {m : List Value} {w wr w1 : World} {v v' : Value} {O : List Itm} {x : Itm} (h : RPInv next a len cap m w wr v O) {W1 : World} (mW : Mod none_ wr W1)
    (ho : w1.ownsRow (w.heap.size + 1 + 1 + 1) 72 12 v' (O.length + 1) (flat Itm.cells O ++ x.cells)) (hg : W1.grownBy w1 v.ownBlock) : RPInv next a len cap m w w1 v' (O ++ [x]) := by
  have hob : ∀ k, v.ownBlock = some k → w.heap.size + 1 + 1 + 1 ≤ k := fun k hk => by
    rcases ownsRow_blk h.o with ⟨rfl, _, _⟩ | ⟨g, cap, more, rfl, hB, hb, _⟩
    · cases hk
    · cases hk; exact hB
  have m1 : Mod (fun k => v.ownBlock = some k) W1 w1 := (Mod.refl _ _).grown hg (fun k hk _ => hk)
  have m2 : Mod (fun k => v.ownBlock = some k) wr w1 := (mW.mono (fun _ _ e => e.elim)).trans m1
  refine ⟨h.b0.mod m2 (fun e => by have := hob _ e; omega), h.b1.mod m2 (fun e => by have := hob _ e; omega), h.b2.mod m2 (fun e => by have := hob _ e; omega), h.m_.transIn m2 (fun k hk e => by have := hob _ e; omega), ?_, ?_⟩
  · unfold ORow
    rw [List.length_append]
    simpa using ho
  · have := h.sz; have := m2.size; omega

theorem rputno_end {next : Int} {a : Option Addr} {len cap : Nat} {m : List Value} {w wr : World} {v : Value} {O : List Itm} (h : RPInv next a len cap m w wr v O) :
    Blk (wr.setCells (w.heap.size + 1 + 1) 0 [.int .i64 next, .slice a len cap]) (w.heap.size + 1 + 1) [.int .i64 next, .slice a len cap] 58 ∧ Mod none_ w (wr.setCells (w.heap.size + 1 + 1) 0 [.int .i64 next, .slice a len cap]) := by
  obtain ⟨c1, m1⟩ := blk_over h.b2 (mc := [.int .i64 next, .slice a len cap]) rfl
  exact ⟨c1, h.m_.transIn m1 (fun x hx e => by have : x = w.heap.size + 1 + 1 := e; omega)⟩

structure PEnd (next : Int) (w wr : World) (a' : Option Addr) (k cap' : Nat) (M : List Itm) : Prop where
  c0 : cut (wr.setCell ⟨w.heap.size, 1, none⟩ (.slice a' k cap')) w.heap.size 0 2 = [.int .i64 next, .slice a' k cap']
  t0 : (wr.setCell ⟨w.heap.size, 1, none⟩ (.slice a' k cap')).there w.heap.size 0 2
  t2 : (wr.setCell ⟨w.heap.size, 1, none⟩ (.slice a' k cap')).there (w.heap.size + 1 + 1) 0 2
  l0 : w.heap.size < wr.heap.size
  fz : wr.frozen? ⟨w.heap.size, 1, none⟩ = false
  b : Blk ((wr.setCell ⟨w.heap.size, 1, none⟩ (.slice a' k cap')).setCells (w.heap.size + 1 + 1) 0 [.int .i64 next, .slice a' k cap']) (w.heap.size + 1 + 1) [.int .i64 next, .slice a' k cap'] 58
  m : Mod none_ w ((wr.setCell ⟨w.heap.size, 1, none⟩ (.slice a' k cap')).setCells (w.heap.size + 1 + 1) 0 [.int .i64 next, .slice a' k cap'])
  r : RRow ((wr.setCell ⟨w.heap.size, 1, none⟩ (.slice a' k cap')).setCells (w.heap.size + 1 + 1) 0 [.int .i64 next, .slice a' k cap']) a' k cap' M
  c1 : wr.cell? ⟨w.heap.size, 1, none⟩ ≠ none

theorem rputok_end {next : Int} {a a' : Option Addr} {len cap k cap' : Nat} {m : List Value} {w wr : World} {v : Value} {O : List Itm} (R : RPInv next a len cap m w wr v O) (hR : RRow wr a' k cap' O) (hA : ∀ A, a' = some A → w.heap.size + 1 + 1 + 1 ≤ A.block) : PEnd next w wr a' k cap' O := by
  have m8 : Mod (one w.heap.size) wr (wr.setCell ⟨w.heap.size, 1, none⟩ (.slice a' k cap')) := (Mod.refl (one w.heap.size) wr).setCell ⟨w.heap.size, 1, none⟩ (fun _ => rfl) _
  have g0 : Blk (wr.setCell ⟨w.heap.size, 1, none⟩ (.slice a' k cap')) w.heap.size [.int .i64 next, .slice a' k cap'] 58 := R.b0.set 1 _
  have g1 := R.b2.mod m8 (fun e => by have : w.heap.size + 1 + 1 = w.heap.size := e; omega)
  obtain ⟨g2, m9⟩ := blk_over g1 (mc := [.int .i64 next, .slice a' k cap']) rfl
  exact ⟨cut_of_range (blk_range g0) (k := 2) rfl, g0.there 0 2 (by simp), g1.there 0 2 (by simp), R.b0.lt, R.b0.frozen 1, g2,
    (R.m_.transIn m8 (fun x hx e => by have : x = w.heap.size := e; omega)).transIn m9 (fun x hx e => by have : x = w.heap.size + 1 + 1 := e; omega),
    (hR.mod m8 (fun A e q => by have := hA A e; have : A.block = w.heap.size := q; omega)).mod m9 (fun A e q => by have := hA A e; have : A.block = w.heap.size + 1 + 1 := q; omega),
    by rw [R.b0.cell]; simp⟩

set_option maxHeartbeats 400000 in
set_option maxRecDepth 1000000 in
theorem rput_order (next num : Int) (a : Option Addr) (len cap : Nat) (m : List Value) (w : World) (hm : m.length = 11) (hb : num < next ∨ 1099511627776 < num) :
    Calls Try.prog 30 #[.agg #[.int .i64 next, .slice a len cap], .int .i64 num, .agg m.toArray] w (RPutNo next a len cap 17 w) := by
  have tn := three_new' w [.int .i64 next, .slice a len cap] m [.int .i64 0, .slice none 0 0] 58 51 58 _ rfl
  have TN : Aside (RPInv next a len cap m w _ (.slice none 0 0) []) := ⟨tn.1, tn.2.1, tn.2.2.1, tn.2.2.2.1, ORow.nil _ _, by have := tn.2.2.2.2; omega⟩
  have r0 := cut_of_range (blk_range TN.out.b0) (k := 2) rfl
  have f0 := TN.out.b0.there 0 2 (by simp)
  have f2 := TN.out.b2.there 0 2 (by simp)
  have TQ := Lib.hid (three_new' w [.int .i64 next, .slice a len cap] m [.int .i64 next, .slice a len cap] 58 51 58 _ rfl)
  clear tn
  by_cases h1 : num < next
  · go_enter Try.func30, Try.ntmps30
    go_wp2_with fail
    exact bodyPost_ret (results_rq rfl _ _ (w.heap.size + 1 + 1) _ rfl rfl (blk_range TQ.out.2.2.1)) rfl ⟨rfl, TQ.out.2.2.2.1⟩
  · have h2 : 1099511627776 < num := by omega
    have d1 : decide (num < next) = false := by simpa using h1
    have d2 : decide (1099511627776 < num) = true := by simpa using h2
    go_enter Try.func30, Try.ntmps30
    go_wp2_with fail
    exact bodyPost_ret (results_rq rfl _ _ (w.heap.size + 1 + 1) _ rfl rfl (blk_range TQ.out.2.2.1)) rfl ⟨rfl, TQ.out.2.2.2.1⟩

set_option maxHeartbeats 400000 in
set_option maxRecDepth 1000000 in
theorem rput_twice (next num : Int) (a : Option Addr) (len cap : Nat) (L : List Itm) (m : List Value) (w : World) (h : RRow w a len cap L) (hm : m.length = 11) (h1 : next ≤ num) (h2 : num ≤ 1099511627776) (hin : num ∈ L.map Itm.num) :
    Calls Try.prog 30 #[.agg #[.int .i64 next, .slice a len cap], .int .i64 num, .agg m.toArray] w (RPutNo next a len cap 15 w) := by
  have hle := h.le
  have hbig := h.big
  unfold maxLen at hbig
  have hn := h.n
  have H := Lib.hid h
  have HI := Lib.hid hin
  clear h hin
  have d1 : decide (num < next) = false := by simp; omega
  have d2 : decide (1099511627776 < num) = false := by simp; omega
  go_enter Try.func30, Try.ntmps30
  go_wp2_with fail
  generalize hT : (World.alloc _ _) = T
  have tn := three_new' w [.int .i64 next, .slice a len cap] m [.int .i64 0, .slice none 0 0] 58 51 58 T hT.symm
  have TN : Aside (RPInv next a len cap m w T (.slice none 0 0) []) := ⟨tn.1, tn.2.1, tn.2.2.1, tn.2.2.2.1, ORow.nil _ _, by have := tn.2.2.2.2; omega⟩
  clear tn hT
  have r0 := cut_of_range (blk_range TN.out.b0) (k := 2) rfl
  have f0 := TN.out.b0.there 0 2 (by simp)
  have f2 := TN.out.b2.there 0 2 (by simp)
  have c1 : T.cell? ⟨w.heap.size, 1, none⟩ = some (.slice a len cap) := by rw [TN.out.b0.cell]; rfl
  go_loopw [8] (fun i wr => ∃ j : Nat, i = .int .i64 j ∧ j ≤ len ∧ wr = T ∧ Hid (∀ k x, k < j → L[k]? = some x → x.num ≠ num)) (fun i _ => len - (intOf i).toNat)
  case atStart => exact ⟨0, rfl, Nat.zero_le _, rfl, fun k x hk => by omega⟩
  case round =>
    obtain ⟨j, rfl, hj, rfl, hq⟩ := hrel
    by_cases hlt : j < len
    · obtain ⟨g, off, x, rfl, hx, hrg, hth⟩ := (H.out.grown TN.out.m_).at_ j hlt
      have cj : wr.cell? ⟨g, off + j * 12, none⟩ = some (.int .i64 x.num) := by have := hrg 0 (.int .i64 x.num) rfl; simpa using this
      have HX := Lib.hid hx
      clear hrg hth hx
      by_cases hd : (x.num == num) = true
      · go_wp2_with fail
        exact bodyPost_ret (results_rq rfl _ _ (w.heap.size + 1 + 1) _ rfl rfl (blk_range (rputno_end TN.out).1)) rfl ⟨rfl, (rputno_end TN.out).2⟩
      · simp only [Bool.not_eq_true] at hd
        have HD := Lib.hid hd
        go_wp2_with fail
        exact ⟨⟨j + 1, by go_num, by omega, (by first | rfl | trivial), fun k y hk hy => by
          by_cases e : k = j
          · subst e
            have := HX.out.symm.trans hy
            cases this
            simpa using HD.out
          · exact hq.out k y (by omega) hy⟩, by simp [intOf]; omega⟩
    · exfalso
      obtain ⟨y, hy, e⟩ := List.mem_map.1 HI.out
      obtain ⟨k, hk⟩ := List.mem_iff_getElem?.1 hy
      have := (List.getElem?_eq_some_iff.1 hk).1
      exact hq.out k y (by omega) hk e

set_option maxHeartbeats 400000 in
set_option maxRecDepth 1000000 in
theorem rput_busy (next num : Int) (a : Option Addr) (cap : Nat) (L : List Itm) (m : List Value) (w : World) (h : RRow w a 64 cap L) (hm : m.length = 11) (h1 : next ≤ num) (h2 : num ≤ 1099511627776) (hin : num ∉ L.map Itm.num) :
    Calls Try.prog 30 #[.agg #[.int .i64 next, .slice a 64 cap], .int .i64 num, .agg m.toArray] w (RPutNo next a 64 cap 6 w) := by
  have hle := h.le
  have hbig := h.big
  unfold maxLen at hbig
  have hn := h.n
  have H := Lib.hid h
  have HI := Lib.hid hin
  clear h hin
  have d1 : decide (num < next) = false := by simp; omega
  have d2 : decide (1099511627776 < num) = false := by simp; omega
  go_enter Try.func30, Try.ntmps30
  go_wp2_with fail
  generalize hT : (World.alloc _ _) = T
  have tn := three_new' w [.int .i64 next, .slice a 64 cap] m [.int .i64 0, .slice none 0 0] 58 51 58 T hT.symm
  have TN : Aside (RPInv next a 64 cap m w T (.slice none 0 0) []) := ⟨tn.1, tn.2.1, tn.2.2.1, tn.2.2.2.1, ORow.nil _ _, by have := tn.2.2.2.2; omega⟩
  clear tn hT
  have r0 := cut_of_range (blk_range TN.out.b0) (k := 2) rfl
  have f0 := TN.out.b0.there 0 2 (by simp)
  have f2 := TN.out.b2.there 0 2 (by simp)
  have c1 : T.cell? ⟨w.heap.size, 1, none⟩ = some (.slice a 64 cap) := by rw [TN.out.b0.cell]; rfl
  go_loopw [8] (fun i wr => ∃ j : Nat, i = .int .i64 j ∧ j ≤ 64 ∧ wr = T) (fun i _ => 64 - (intOf i).toNat)
  case atStart => exact ⟨0, rfl, Nat.zero_le _, rfl⟩
  case round =>
    obtain ⟨j, rfl, hj, rfl⟩ := hrel
    by_cases hlt : j < 64
    · obtain ⟨g, off, x, rfl, hx, hrg, hth⟩ := (H.out.grown TN.out.m_).at_ j hlt
      have cj : wr.cell? ⟨g, off + j * 12, none⟩ = some (.int .i64 x.num) := by have := hrg 0 (.int .i64 x.num) rfl; simpa using this
      have hx' := hx
      clear hrg hth hx
      have hd : (x.num == num) = false := by
        rw [beq_eq_false_iff_ne]
        exact fun e => HI.out (List.mem_map.2 ⟨x, List.mem_of_getElem? hx', e⟩)
      go_wp2_with fail
      exact ⟨⟨j + 1, by go_num, by omega, (by first | rfl | trivial)⟩, by simp [intOf]; omega⟩
    · obtain rfl : j = 64 := by omega
      go_wp2_with fail
      exact bodyPost_ret (results_rq rfl _ _ (w.heap.size + 1 + 1) _ rfl rfl (blk_range (rputno_end TN.out).1)) rfl ⟨rfl, (rputno_end TN.out).2⟩

def RPutOk (next : Int) (a : Option Addr) (L : List Itm) (x : Itm) (w : World) (e : Ending) (w' : World) : Prop :=
  ∃ M a' cap', e = .returned (.tuple #[.agg #[.int .i64 next, .slice a' M.length cap'], .int .i64 0]) ∧ InsOf L x M ∧ RRow w' a' M.length cap' M ∧ (∀ A, a' = some A → w.heap.size ≤ A.block) ∧ Mod none_ w w'

set_option maxHeartbeats 400000 in
set_option maxRecDepth 1000000 in
theorem rput_ok (next : Int) (a : Option Addr) (len cap : Nat) (L : List Itm) (x0 : Itm) (w : World) (h : RRow w a len cap L) (h1 : next ≤ x0.num) (h2 : x0.num ≤ 1099511627776) (hin : x0.num ∉ L.map Itm.num) (hl : len < 64) :
    Calls Try.prog 30 #[.agg #[.int .i64 next, .slice a len cap], .int .i64 x0.num, .agg x0.m.toArray] w (RPutOk next a L x0 w) := by
  have hle := h.le
  have hbig := h.big
  unfold maxLen at hbig
  have hn := h.n
  obtain ⟨i0, hi0, hz0, hz1, hz2⟩ := info_parts Try.infoRI
  have H := Lib.hid h
  have HI := Lib.hid hin
  clear h hin
  have d1 : decide (x0.num < next) = false := by simp; omega
  have d2 : decide (1099511627776 < x0.num) = false := by simp; omega
  go_enter Try.func30, Try.ntmps30
  go_wp2_with fail
  generalize hT : (World.alloc _ _) = T
  have tn := three_new' w [.int .i64 next, .slice a len cap] x0.m [.int .i64 0, .slice none 0 0] 58 51 58 T hT.symm
  have TN : Aside (RPInv next a len cap x0.m w T (.slice none 0 0) []) := ⟨tn.1, tn.2.1, tn.2.2.1, tn.2.2.2.1, ORow.nil _ _, by have := tn.2.2.2.2; omega⟩
  clear tn hT
  have r0 := cut_of_range (blk_range TN.out.b0) (k := 2) rfl
  have f0 := TN.out.b0.there 0 2 (by simp)
  have f2 := TN.out.b2.there 0 2 (by simp)
  have c1 : T.cell? ⟨w.heap.size, 1, none⟩ = some (.slice a len cap) := by rw [TN.out.b0.cell]; rfl
  go_loopw [8] (fun i wr => ∃ j : Nat, i = .int .i64 j ∧ j ≤ len ∧ wr = T) (fun i _ => len - (intOf i).toNat)
  case atStart => exact ⟨0, rfl, Nat.zero_le _, rfl⟩
  case round =>
    obtain ⟨j, rfl, hj, rfl⟩ := hrel
    by_cases hlt : j < len
    · obtain ⟨g, off, x, rfl, hx, hrg, hth⟩ := (H.out.grown TN.out.m_).at_ j hlt
      have cj : wr.cell? ⟨g, off + j * 12, none⟩ = some (.int .i64 x.num) := by have := hrg 0 (.int .i64 x.num) rfl; simpa using this
      have hx' := hx
      clear hrg hth hx
      have hd : (x.num == x0.num) = false := by
        rw [beq_eq_false_iff_ne]
        exact fun e => HI.out (List.mem_map.2 ⟨x, List.mem_of_getElem? hx', e⟩)
      go_wp2_with fail
      exact ⟨⟨j + 1, by go_num, by omega, (by first | rfl | trivial)⟩, by simp [intOf]; omega⟩
    · obtain rfl : len = j := by omega
      have hne : ((len : Int) == 64) = false := by rw [beq_eq_false_iff_ne]; omega
      go_wp2_with fail
      have HX : ((Value.int .i64 x0.num :: x0.m)) = x0.cells := rfl
      have xl0 := x0.len
      have xm0 := x0.hm
      go_loopw [9, 10, 11] (fun v d i wr => ∃ (j : Nat) (b : Bool) (O : List Itm), d = .bool b ∧ i = .int .i64 j ∧ j ≤ len ∧ RPInv next a len cap x0.m w wr v O ∧ InsSt L x0 j b O ∧ O.length ≤ j + 1) (fun _ _ i _ => len - (intOf i).toNat)
      case atStart => exact ⟨0, false, [], rfl, rfl, Nat.zero_le _, TN.out, .inl ⟨rfl, by simp, by simp⟩, by simp⟩
      case round =>
        obtain ⟨j, b, O, rfl, rfl, hj, hr, hst, hOl⟩ := hrel
        have R := Lib.hid hr
        have ST := Lib.hid hst
        have k1 := cut_of_range (blk_range hr.b1) (k := 11) x0.hm
        have t1 := hr.b1.there 0 11 (by simp [x0.hm])
        have c2 : wr.cell? ⟨w.heap.size, 1, none⟩ = some (.slice a len cap) := by rw [hr.b0.cell]; rfl
        have hsz := hr.sz
        clear hr hst
        by_cases hlt : j < len
        · obtain ⟨g, off, y, rfl, hy, hrg, hth⟩ := (H.out.grown R.out.m_).at_ j hlt
          have cj : wr.cell? ⟨g, off + j * 12, none⟩ = some (.int .i64 y.num) := by have := hrg 0 (.int .i64 y.num) rfl; simpa using this
          have kj := cut_of_range hrg y.len
          have HY := Lib.hid hy
          have yl := y.len
          clear hrg hy
          have HL : Aside (O.length ≤ 64) := (by omega : O.length ≤ 64)
          have HL1 : Aside ((O ++ [x0]).length ≤ 65) := (by rw [List.length_append]; simp; omega : (O ++ [x0]).length ≤ 65)
          cases b with
          | true =>
            go_wp2_with (at_builtin; refine wpList_append_own _ rfl (.tmp 67) (.tmp 73) 56 rfl (w.heap.size + 1 + 1 + 1) 72 i0 _ 12 112 Try.underlying56 hi0 hz0 hz1 hz2 rfl (by decide) _ (O).length (flat Itm.cells (O)) rfl (by exact R.out.o.mod ((Mod.refl none_ wr).alloc (.cells y.cells.toArray 72)) (fun _ _ _ e => e)) ⟨wr.heap.size, 0, none⟩ 1 1 y.cells rfl (by rw [y.len]) (World.news_of_block (heap_alloc_new wr _)) y.ones (by have := HL.out; unfold maxLen; omega) (by have := HL.out; omega) (by simp; omega) ?_; intro v' w1 ho hg _; have RS := Lib.hid (R.out.step ((Mod.refl none_ wr).alloc _) ho hg); clear ho hg)
            exact ⟨⟨j + 1, true, O ++ [y], rfl, by go_num, by omega, RS.out, ST.out.past HY.out, by rw [List.length_append]; simp; omega⟩, by simp [intOf]; omega⟩
          | false =>
            by_cases hd : x0.num < y.num
            · have hdd : decide (x0.num < y.num) = true := by simpa using hd
              go_wp2_with (first
                | (at_builtin; refine wpList_append_own _ rfl (.tmp 61) (.tmp 65) 56 rfl (w.heap.size + 1 + 1 + 1) 72 i0 _ 12 112 Try.underlying56 hi0 hz0 hz1 hz2 rfl (by decide) _ (O).length (flat Itm.cells (O)) rfl (by exact R.out.o.mod ((Mod.refl none_ wr).alloc (.cells x0.cells.toArray 72)) (fun _ _ _ e => e)) ⟨wr.heap.size, 0, none⟩ 1 1 x0.cells rfl (by rw [x0.len]) (World.news_of_block (heap_alloc_new wr _)) x0.ones (by have := HL.out; unfold maxLen; omega) (by have := HL.out; omega) (by simp; omega) ?_; intro v1 w1 ho hg _; have r1 := R.out.step ((Mod.refl none_ wr).alloc _) ho hg; clear ho hg; have c3 : w1.cell? ⟨w.heap.size, 1, none⟩ = some (.slice (some ⟨g, off, none⟩) len cap) := (by rw [r1.b0.cell]; rfl); have q1 := (H.out.grown r1.m_).cellsAt HY.out; have k3 := cut_of_range q1.1 y.len; have t3 := q1.2; have s3 := r1.sz; have R1 := Lib.hid r1; clear r1 q1)
                | (at_builtin; refine wpList_append_own _ rfl (.tmp 67) (.tmp 73) 56 rfl (w.heap.size + 1 + 1 + 1) 72 i0 _ 12 112 Try.underlying56 hi0 hz0 hz1 hz2 rfl (by decide) _ (O ++ [x0]).length (flat Itm.cells (O ++ [x0])) rfl (by exact R1.out.o.mod ((Mod.refl none_ w1).alloc (.cells y.cells.toArray 72)) (fun _ _ _ e => e)) ⟨w1.heap.size, 0, none⟩ 1 1 y.cells rfl (by rw [y.len]) (World.news_of_block (heap_alloc_new w1 _)) y.ones (by have := HL1.out; unfold maxLen; omega) (by have := HL1.out; omega) (by simp; omega) ?_; intro v2 w2 ho hg _; have RS := Lib.hid (R1.out.step ((Mod.refl none_ w1).alloc _) ho hg); clear ho hg))
              exact ⟨⟨j + 1, true, O ++ [x0] ++ [y], rfl, by go_num, by omega, RS.out, ST.out.here HY.out hd, by have := ST.out.len_false; simp at this ⊢; omega⟩, by simp [intOf]; omega⟩
            · have hdd : decide (x0.num < y.num) = false := by simpa using hd
              go_wp2_with (at_builtin; refine wpList_append_own _ rfl (.tmp 67) (.tmp 73) 56 rfl (w.heap.size + 1 + 1 + 1) 72 i0 _ 12 112 Try.underlying56 hi0 hz0 hz1 hz2 rfl (by decide) _ (O).length (flat Itm.cells (O)) rfl (by exact R.out.o.mod ((Mod.refl none_ wr).alloc (.cells y.cells.toArray 72)) (fun _ _ _ e => e)) ⟨wr.heap.size, 0, none⟩ 1 1 y.cells rfl (by rw [y.len]) (World.news_of_block (heap_alloc_new wr _)) y.ones (by have := HL.out; unfold maxLen; omega) (by have := HL.out; omega) (by simp; omega) ?_; intro v' w1 ho hg _; have RS := Lib.hid (R.out.step ((Mod.refl none_ wr).alloc _) ho hg); clear ho hg)
              exact ⟨⟨j + 1, false, O ++ [y], rfl, by go_num, by omega, RS.out, ST.out.pass HY.out hd, by rw [List.length_append]; simp; omega⟩, by simp [intOf]; omega⟩
        · obtain rfl : len = j := by omega
          have HL : Aside (O.length ≤ 65) := (by omega : O.length ≤ 65)
          cases b with
          | true =>
            obtain ⟨a2, cap2, rfl, hR, hA⟩ := R.out.o.row
            have pe := rputok_end R.out hR hA
            have e0 := pe.c0
            have e1 := pe.t0
            have e2 := pe.t2
            have e3 := pe.l0
            have e4 := pe.fz
            have PE := Lib.hid pe
            have INS := Lib.hid (InsSt.end_true (by rw [hn]; exact ST.out))
            clear pe hR
            go_wp2_with fail
            refine bodyPost_ret (results_rq rfl _ _ (w.heap.size + 1 + 1) _ rfl rfl (blk_range PE.out.b)) rfl ⟨_, a2, cap2, rfl, INS.out, PE.out.r, fun A e => by have := hA A e; omega, PE.out.m⟩
          | false =>
            go_wp2_with (at_builtin; refine wpList_append_own _ rfl (.tmp 77) (.tmp 81) 56 rfl (w.heap.size + 1 + 1 + 1) 72 i0 _ 12 112 Try.underlying56 hi0 hz0 hz1 hz2 rfl (by decide) _ (O).length (flat Itm.cells (O)) rfl (by exact R.out.o.mod ((Mod.refl none_ wr).alloc (.cells x0.cells.toArray 72)) (fun _ _ _ e => e)) ⟨wr.heap.size, 0, none⟩ 1 1 x0.cells rfl (by rw [x0.len]) (World.news_of_block (heap_alloc_new wr _)) x0.ones (by have := HL.out; unfold maxLen; omega) (by have := HL.out; omega) (by simp; omega) ?_; intro v2 w1 ho hg _; have r1 := R.out.step ((Mod.refl none_ wr).alloc _) ho hg; obtain ⟨M, hM⟩ : ∃ M, M = O ++ [x0] := ⟨_, rfl⟩; rw [← hM] at r1; have HM := Lib.hid hM; clear hM; obtain ⟨a2, cap2, rfl, hR, hA⟩ := r1.o.row; have c3 : w1.cell? ⟨w.heap.size, 1, none⟩ = some (.slice a len cap) := (by rw [r1.b0.cell]; rfl); have pe := rputok_end r1 hR hA; have e0 := pe.c0; have e1 := pe.t0; have e2 := pe.t2; have e3 := pe.l0; have e4 := pe.fz; have PE := Lib.hid pe; clear ho hg r1 hR pe)
            have INS : Aside (InsOf L x0 M) := (by rw [HM.out]; exact InsSt.end_false (by rw [hn]; exact ST.out) : InsOf L x0 M)
            refine bodyPost_ret (results_rq rfl _ _ (w.heap.size + 1 + 1) _ rfl rfl (blk_range PE.out.b)) rfl ⟨_, a2, cap2, rfl, INS.out, PE.out.r, fun A e => by have := hA A e; omega, PE.out.m⟩

end Go.Proofs.Ytpdfakfokegcnaa
