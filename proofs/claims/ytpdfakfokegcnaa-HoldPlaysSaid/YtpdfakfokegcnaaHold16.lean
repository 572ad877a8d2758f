/-
  Layer 21 (hold): the document's queue (foolscapref21): Drop, Pass.
-/
import Derived.Test.YtpdfakfokegcnaaHold15
namespace Go.Proofs.Ytpdfakfokegcnaa
open Go.RowKit Go.Mine
attribute [local go_sem ↓] ld_msg st_msg ld_rq st_rq ld_ri
attribute [local go_sem] run_ld_msg run_st_msg run_ld_rq run_st_rq run_ld_ri cut_drew setCells_drew World.there_drew setCells_alloc_at there_alloc_at cut_alloc_at there_alloc_old cut_alloc_old fold_set_whole fold_set_at there_drewN cut_drewN setCells_drewN

theorem Try.infoRI : (Try.prog.info? 72).map (fun i => (i.zero, i.size, i.bytes)) = some (some (.agg #[.int .i64 0, .int .i64 0, .int .i64 0, .int .i64 0, .int .i64 0, .int .i64 0, .int .i64 0, .int .i64 0, .int .i64 0, .int .i64 0, .string ByteArray.empty, .string ByteArray.empty]), 12, 112) := by kernel_rfl

/-- A list that is being built. -/
def ORow (B : Nat) (w : World) (v : Value) (O : List Itm) : Prop := w.ownsRow B 72 12 v O.length (flat Itm.cells O)

theorem ORow.nil (B : Nat) (w : World) : ORow B w (.slice none 0 0) [] := ⟨rfl, .inl ⟨rfl, rfl⟩⟩
theorem ORow.row {B : Nat} {w : World} {v : Value} {O : List Itm} (h : ORow B w v O) : ∃ a cap, v = .slice a O.length cap ∧ RRow w a O.length cap O ∧ ∀ A, a = some A → B ≤ A.block := by
  rcases ownsRow_blk h with ⟨rfl, h0, _⟩ | ⟨g, cap, more, rfl, hB, hb, hnc, hcm, hl⟩
  · have : O = [] := List.eq_nil_of_length_eq_zero h0
    subst this
    exact ⟨none, 0, rfl, ⟨rfl, by simp, by unfold maxLen; omega, fun h => by simp at h⟩, fun A e => by cases e⟩
  · refine ⟨_, cap, rfl, ⟨rfl, hnc, hcm, fun h0 => ⟨g, 0, rfl, fun i x hx => ?_⟩⟩, fun A e => by cases e; exact hB⟩
    have hi := (List.getElem?_eq_some_iff.1 hx).1
    have e : 0 + i * 12 = i * 12 := by omega
    rw [e]
    refine ⟨Blk.range Itm.len hb i x hx, hb.there _ _ ?_⟩
    rw [List.length_append, flat_length Itm.len]; omega
theorem ORow.mod {S : Nat → Prop} {B : Nat} {w w' : World} {v : Value} {O : List Itm} (h : ORow B w v O) (m : Mod S w w') (hs : ∀ k, B ≤ k → k < w.heap.size → ¬ S k) : ORow B w' v O := by
  refine ownsRow_mod h m (fun k hk e => ?_)
  rcases ownsRow_blk h with ⟨rfl, _, _⟩ | ⟨g, cap, more, rfl, hB, hb, _⟩
  · cases hk
  · cases hk; exact hs _ hB hb.lt e

theorem two_new (w : World) (c0 c1 : List Value) (t0 t1 : TypeId) :
    ∀ T, T = (w.alloc (.cells c0.toArray t0)).alloc (.cells c1.toArray t1) → Blk T w.heap.size c0 t0 ∧ Blk T (w.heap.size + 1) c1 t1 ∧ Mod none_ w T ∧ T.heap.size = w.heap.size + 1 + 1 := by
  rintro T rfl
  have k0 := Blk.new (w := w) (cs := c0) (t := t0)
  obtain ⟨W1, hW1⟩ : ∃ W1, W1 = w.alloc (.cells c0.toArray t0) := ⟨_, rfl⟩
  have s1 : W1.heap.size = w.heap.size + 1 := by rw [hW1]; simp
  have m1 : Mod none_ w W1 := by rw [hW1]; exact (Mod.refl _ _).alloc _
  rw [← hW1] at k0 ⊢
  have k1 := Blk.new (w := W1) (cs := c1) (t := t1)
  rw [s1] at k1
  have m2 := (Mod.refl none_ W1).alloc (.cells c1.toArray t1)
  exact ⟨k0.mod m2 (fun e => e), k1, m1.trans m2, by simp [s1]⟩

def dropL (L : List Itm) (num : Int) : List Itm := L.filter fun x => x.num != num
theorem dropL_take {L : List Itm} {num : Int} {j : Nat} {x : Itm} (hx : L[j]? = some x) : dropL (L.take (j + 1)) num = if x.num != num then dropL (L.take j) num ++ [x] else dropL (L.take j) num := by
  unfold dropL
  rw [List.take_add_one, hx, Option.toList_some, List.filter_append]
  by_cases e : (x.num != num) = true
  · rw [if_pos e]; simp [e]
  · rw [if_neg e]; simp [e]
theorem dropL_le (L : List Itm) (num : Int) : (dropL L num).length ≤ L.length := List.length_filter_le _ _


structure RDInv (next : Int) (a : Option Addr) (len cap : Nat) (w wr : World) (v : Value) (O : List Itm) : Prop where
  b0 : Blk wr w.heap.size [.int .i64 next, .slice a len cap] 58
  b1 : Blk wr (w.heap.size + 1) [.int .i64 0, .slice none 0 0] 58
  m : Mod none_ w wr
  o : ORow (w.heap.size + 1 + 1) wr v O
  sz : w.heap.size + 1 + 1 ≤ wr.heap.size

theorem RDInv.step {next : Int} {a : Option Addr} {len cap : Nat} {w wr w1 : World} {v v' : Value} {O : List Itm} {x : Itm} (h : RDInv next a len cap w wr v O) {W1 : World} (mW : Mod none_ wr W1)
    (ho : w1.ownsRow (w.heap.size + 1 + 1) 72 12 v' (O.length + 1) (flat Itm.cells O ++ x.cells)) (hg : W1.grownBy w1 v.ownBlock) : RDInv next a len cap w w1 v' (O ++ [x]) := by
  have hob : ∀ k, v.ownBlock = some k → w.heap.size + 1 + 1 ≤ k := fun k hk => by
    rcases ownsRow_blk h.o with ⟨rfl, _, _⟩ | ⟨g, cap, more, rfl, hB, hb, _⟩
    · cases hk
    · cases hk; exact hB
  have m1 : Mod (fun k => v.ownBlock = some k) W1 w1 := (Mod.refl _ _).grown hg (fun k hk _ => hk)
  have m2 : Mod (fun k => v.ownBlock = some k) wr w1 := (mW.mono (fun _ _ e => e.elim)).trans m1
  refine ⟨h.b0.mod m2 (fun e => by have := hob _ e; omega), h.b1.mod m2 (fun e => by have := hob _ e; omega), h.m.transIn m2 (fun k hk e => by have := hob _ e; omega), ?_, ?_⟩
  · unfold ORow
    rw [List.length_append]
    simpa using ho
  · have := h.sz; have := m2.size; omega

set_option maxHeartbeats 400000 in
set_option maxRecDepth 1000000 in
theorem rdrop_any (next num : Int) (a : Option Addr) (len cap : Nat) (L : List Itm) (w : World) (h : RRow w a len cap L) (hlen : len ≤ 64) :
    Calls Try.prog 28 #[.agg #[.int .i64 next, .slice a len cap], .int .i64 num] w fun e w' =>
      ∃ a' cap', e = .returned (.tuple #[.agg #[.int .i64 next, .slice a' (dropL L num).length cap'], .bool (decide ((dropL L num).length < L.length))]) ∧ RRow w' a' (dropL L num).length cap' (dropL L num) ∧ (∀ A, a' = some A → w.heap.size ≤ A.block) ∧ Mod none_ w w' := by
  obtain ⟨i0, hi0, hz0, hz1, hz2⟩ := info_parts Try.infoRI
  have hle := h.le
  have hbig := h.big
  unfold maxLen at hbig
  have hn := h.n
  have H := Lib.hid h
  clear h
  go_enter Try.func28, Try.ntmps28
  go_wp2_with fail
  generalize hT : (World.alloc _ _) = T
  have tn := two_new w [.int .i64 next, .slice a len cap] [.int .i64 0, .slice none 0 0] _ _ T hT.symm
  have TN : Aside (RDInv next a len cap w T (.slice none 0 0) []) := ⟨tn.1, tn.2.1, tn.2.2.1, ORow.nil _ _, by have := tn.2.2.2; omega⟩
  clear tn hT
  go_loopw [6, 7] (fun v i wr => ∃ j : Nat, i = .int .i64 j ∧ j ≤ len ∧ RDInv next a len cap w wr v (dropL (L.take j) num)) (fun _ i _ => len - (intOf i).toNat)
  case atStart => exact ⟨0, rfl, Nat.zero_le _, by simpa [dropL] using TN.out⟩
  case round =>
    obtain ⟨j, rfl, hj, hr⟩ := hrel
    have R := Lib.hid hr
    have c1 : wr.cell? ⟨w.heap.size, 1, none⟩ = some (.slice a len cap) := by rw [hr.b0.cell]; rfl
    clear hr
    by_cases hlt : j < len
    · obtain ⟨g, off, x, rfl, hx, hrg, hth⟩ := (H.out.grown R.out.m).at_ j hlt
      have cj : wr.cell? ⟨g, off + j * 12, none⟩ = some (.int .i64 x.num) := by have := hrg 0 (.int .i64 x.num) rfl; simpa using this
      have kj := cut_of_range hrg x.len
      have ht := dropL_take (num := num) hx
      by_cases hd : (x.num != num) = true
      · rw [if_pos hd] at ht
        have HT := Lib.hid ht
        clear ht hx hrg
        have hb1 : (dropL (L.take j) num).length ≤ 64 := by have := dropL_le (L.take j) num; rw [List.length_take] at this; omega
        obtain ⟨O, hO⟩ : ∃ O, O = dropL (L.take j) num := ⟨_, rfl⟩
        rw [← hO] at hb1 R HT
        have xl := x.len
        have hsz := R.out.sz
        go_wp2_with (at_builtin; refine wpList_append_own _ rfl (.tmp 24) (.tmp 30) 56 rfl (w.heap.size + 1 + 1) 72 i0 _ 12 112 Try.underlying56 hi0 hz0 hz1 hz2 rfl (by decide) _ O.length (flat Itm.cells O) rfl (by exact R.out.o.mod ((Mod.refl none_ wr).alloc (.cells x.cells.toArray 72)) (fun _ _ _ e => e)) ⟨wr.heap.size, 0, none⟩ 1 1 x.cells rfl (by rw [xl]) (World.news_of_block (heap_alloc_new wr _)) x.ones (by unfold maxLen; omega) (by omega) (by simp; omega) ?_; intro v' w1 ho hg _; have RS := Lib.hid (R.out.step ((Mod.refl none_ wr).alloc _) ho hg); clear ho hg)
        exact ⟨⟨j + 1, by go_num, by omega, by rw [HT.out]; exact RS.out⟩, by simp [intOf]; omega⟩
      · simp only [Bool.not_eq_true] at hd
        rw [if_neg (by simp [hd])] at ht
        have HT := Lib.hid ht
        clear ht hx hrg
        go_wp2_with fail
        exact ⟨⟨j + 1, by go_num, by omega, by rw [HT.out]; exact R.out⟩, by simp [intOf]; omega⟩
    · obtain rfl : j = len := by omega
      obtain ⟨a', cap', rfl, hR, hA⟩ := R.out.o.row
      have e1 : L.take j = L := List.take_of_length_le (by omega)
      rw [e1] at hR R ⊢
      have HR := Lib.hid hR
      have hdl := dropL_le L num
      obtain ⟨D, hD⟩ : ∃ D, D = dropL L num := ⟨_, rfl⟩
      rw [← hD] at hdl HR R ⊢
      have m8 : Mod (one w.heap.size) wr (wr.setCell ⟨w.heap.size, 1, none⟩ (.slice a' D.length cap')) := (Mod.refl (one w.heap.size) wr).setCell ⟨w.heap.size, 1, none⟩ (fun _ => rfl) _
      have g0 : Blk (wr.setCell ⟨w.heap.size, 1, none⟩ (.slice a' D.length cap')) w.heap.size [.int .i64 next, .slice a' D.length cap'] 58 := R.out.b0.set 1 _
      have g1 := R.out.b1.mod m8 (fun e => by have : w.heap.size + 1 = w.heap.size := e; omega)
      have r0 := cut_of_range (blk_range g0) (k := 2) rfl
      have f0 := g0.there 0 2 (by simp)
      have f1 := g1.there 0 2 (by simp)
      have l0 := R.out.b0.lt
      have fz := R.out.b0.frozen 1
      obtain ⟨g2, m9⟩ := blk_over g1 (mc := [.int .i64 next, .slice a' D.length cap']) rfl
      have hfin := (R.out.m.transIn m8 (fun x hx e => by have : x = w.heap.size := e; omega)).transIn m9 (fun x hx e => by have : x = w.heap.size + 1 := e; omega)
      have hrr := (HR.out.mod m8 (fun A e q => by have := hA A e; have : A.block = w.heap.size := q; omega)).mod m9 (fun A e q => by have := hA A e; have : A.block = w.heap.size + 1 := q; omega)
      have FIN := Lib.hid (And.intro g2 (And.intro hfin hrr))
      have HD := Lib.hid hD
      clear hR g0 g1 m8 g2 m9 hfin hrr hD
      have hdec : decide ((D.length : Int) < (L.length : Int)) = decide (D.length < L.length) := by simp
      go_wp2_with fail
      refine bodyPost_ret (results_rq rfl _ _ (w.heap.size + 1) _ rfl rfl (blk_range FIN.out.1)) rfl ?_
      rw [← HD.out]
      exact ⟨a', cap', by rw [hn]; rfl, FIN.out.2.2, fun A e => by have := hA A e; omega, FIN.out.2.1⟩

set_option maxHeartbeats 400000 in
set_option maxRecDepth 1000000 in
theorem rpass_any (next : Int) (a : Option Addr) (len cap : Nat) (L : List Itm) (w : World) (h : RRow w a len cap L) (hlen : len ≤ 64) (hb : 1 ≤ next ∧ next ≤ 2199023255552) :
    Calls Try.prog 26 #[.agg #[.int .i64 next, .slice a len cap]] w fun e w' =>
      ∃ a' cap', e = .returned (.agg #[.int .i64 (next + 1), .slice a' (dropL L next).length cap']) ∧ RRow w' a' (dropL L next).length cap' (dropL L next) ∧ (∀ A, a' = some A → w.heap.size ≤ A.block) ∧ Mod none_ w w' := by
  have H := Lib.hid h
  clear h
  obtain ⟨D, hD⟩ : ∃ D, D = dropL L next := ⟨_, rfl⟩
  have HD := Lib.hid hD
  clear hD
  have HC := Lib.hid (fun w h => rdrop_any next next a len cap L w h hlen)
  have tn := two_new w [.int .i64 next, .slice a len cap] [.int .i64 0, .slice none 0 0] 58 58 _ rfl
  have r0 := cut_of_range (blk_range tn.1) (k := 2) rfl
  have f0 := tn.1.there 0 2 (by simp)
  have HH := Lib.hid (H.out.grown tn.2.2.1)
  have TN := Lib.hid tn
  clear tn
  go_enter Try.func26, Try.ntmps26
  go_wp2_with fail
  refine (HC.out _ HH.out).mono ?_
  rintro e w1 ⟨a', cap', rfl, hR, hA, m1⟩
  rw [← HD.out] at hR ⊢
  have k0 := TN.out.1.mod m1 (fun e => e)
  have k1 := TN.out.2.1.mod m1 (fun e => e)
  have t0 := k0.there 0 2 (by simp)
  obtain ⟨ka, ma⟩ := blk_over k0 (mc := [.int .i64 next, .slice a' D.length cap']) rfl
  have ka1 := k1.mod ma (fun e => by have : w.heap.size + 1 = w.heap.size := e; omega)
  have ca : (w1.setCells w.heap.size 0 [.int .i64 next, .slice a' D.length cap']).cell? ⟨w.heap.size, 0, none⟩ = some (.int .i64 next) := by rw [ka.cell]; rfl
  have fa := ka.frozen 0
  have la := ka.lt
  have kb := ka.set 0 (.int .i64 (next + 1))
  have mb : Mod (one w.heap.size) (w1.setCells w.heap.size 0 [.int .i64 next, .slice a' D.length cap']) ((w1.setCells w.heap.size 0 [.int .i64 next, .slice a' D.length cap']).setCell ⟨w.heap.size, 0, none⟩ (.int .i64 (next + 1))) := (Mod.refl (one w.heap.size) _).setCell ⟨w.heap.size, 0, none⟩ (fun _ => rfl) _
  have kb1 := ka1.mod mb (fun e => by have : w.heap.size + 1 = w.heap.size := e; omega)
  have tb := kb.there 0 2 (by simp)
  have rb := cut_of_range (blk_range kb) (k := 2) rfl
  have tb1 := kb1.there 0 2 (by simp)
  obtain ⟨kc, mc⟩ := blk_over kb1 (mc := [.int .i64 (next + 1), .slice a' D.length cap']) rfl
  have mz : Mod none_ w w1 := TN.out.2.2.1.trans m1
  have hfin := ((mz.transIn ma (fun x hx e => by have : x = w.heap.size := e; omega)).transIn mb (fun x hx e => by have : x = w.heap.size := e; omega)).transIn mc (fun x hx e => by have : x = w.heap.size + 1 := e; omega)
  have hA2 : ∀ A, a' = some A → w.heap.size + 1 + 1 ≤ A.block := fun A e => by have := hA A e; have := TN.out.2.2.2; omega
  have hrr := ((hR.mod ma (fun A e q => by have := hA2 A e; have : A.block = w.heap.size := q; omega)).mod mb (fun A e q => by have := hA2 A e; have : A.block = w.heap.size := q; omega)).mod mc (fun A e q => by have := hA2 A e; have : A.block = w.heap.size + 1 := q; omega)
  have FIN := Lib.hid (And.intro kc (And.intro hfin hrr))
  clear k0 k1 ka ma ka1 kb mb kb1 kc mc mz hfin hrr hR m1
  go_wp2_with fail
  refine bodyPost_ret (results_rq1 rfl _ _ (w.heap.size + 1) _ rfl rfl (blk_range FIN.out.1)) rfl ?_
  rw [← HD.out]
  exact ⟨a', cap', rfl, FIN.out.2.2, fun A e => by have := hA2 A e; omega, FIN.out.2.1⟩

end Go.Proofs.Ytpdfakfokegcnaa
