/-
  Texts on which the claim rests, one behind the other: Cel8 Cel9 Doc1 Siz1 Mk1 Fnd1 Mrk1 Mrk2 Par1 Rep1 Ins1 Din1 Nam1 Do1 Car2 Car3 Car4 Car5 Mov1 Car7 Car8 Sta1 Rru1.
-/
import Derived.Test.YtlidmajcdjlcnaaGreatDoorRp2
import Derived.Outline
import Derived.Deep.LoopGhost
import Derived.Deep.CutBlock
import Derived.Deep.CutRange
import Derived.BigQuiet
import Derived.Deep.Upon

set_option linter.unusedSimpArgs false
set_option linter.unusedVariables false

namespace Go.Proofs.YtlidmajcdjlcnaaGreatDoor
open Go.RowKit Go.Mine

theorem liveN_append (a b : List CellV) : liveN (a ++ b) = liveN a + liveN b := by
  unfold liveN; rw [List.filter_append, List.length_append]

/-- What the first k blocks hold. -/
def fstBs (bl : List (Nat × List CellV)) (k : Nat) : List CellV := (bl.take k).flatMap Prod.snd
theorem fstBs_succ {bl : List (Nat × List CellV)} {k : Nat} {x : Nat × List CellV} (hx : bl[k]? = some x) : fstBs bl (k + 1) = fstBs bl k ++ x.2 := by
  obtain ⟨hk', e⟩ := List.getElem?_eq_some_iff.1 hx
  unfold fstBs
  rw [List.take_succ_eq_append_getElem hk', e, List.flatMap_append]
  simp
theorem fstBs_all {bl : List (Nat × List CellV)} {k : Nat} (h : bl.length ≤ k) : fstBs bl k = bl.flatMap Prod.snd := by
  unfold fstBs; rw [List.take_of_length_le h]
theorem fstBs_le (bl : List (Nat × List CellV)) (k : Nat) : (fstBs bl k).length ≤ (bl.flatMap Prod.snd).length := by
  have : bl.flatMap Prod.snd = fstBs bl k ++ (bl.drop k).flatMap Prod.snd := by
    unfold fstBs; rw [← List.flatMap_append, List.take_append_drop]
  rw [this, List.length_append]; omega

/-- Block k in memory. -/
theorem DocBs.at_ {w : World} {B nb vc : Nat} {va : Option Addr} {bl : List (Nat × List CellV)} (h : DocBs w B (.slice va nb vc) bl) {k : Nat} {x : Nat × List CellV} (hx : bl[k]? = some x) :
    ∃ g, va = some ⟨g, 0, none⟩ ∧ w.cell? ⟨g, k, none⟩ = some (.pointer (some ⟨x.1, 0, none⟩)) := by
  have hk := (List.getElem?_eq_some_iff.1 hx).1
  rcases ownsRow_blk h.1 with ⟨_, h0, _⟩ | ⟨g, c', more, e, _, hb, _⟩
  · omega
  · cases e
    refine ⟨g, rfl, ?_⟩
    rw [hb.cell, List.getElem?_append_left (by simpa using hk), List.getElem?_map, hx]
    rfl
theorem DocBs.len {w : World} {B nb vc : Nat} {va : Option Addr} {bl : List (Nat × List CellV)} (h : DocBs w B (.slice va nb vc) bl) : nb = bl.length := by
  have := h.1.1
  rw [List.length_map] at this
  rcases ownsRow_blk h.1 with ⟨e, h0, _⟩ | ⟨g, c', more, e, _, hb, _⟩
  · cases e; omega
  · cases e; rfl
theorem DocBs.cap {w : World} {B nb vc : Nat} {va : Option Addr} {bl : List (Nat × List CellV)} (h : DocBs w B (.slice va nb vc) bl) : nb ≤ vc ∧ vc ≤ maxLen := by
  rcases ownsRow_blk h.1 with ⟨e, h0, _⟩ | ⟨g, c', more, e, _, hb, h1, h2, _⟩
  · cases e; exact ⟨Nat.le_refl _, Nat.zero_le _⟩
  · cases e; exact ⟨h1, h2⟩

theorem Tryz.taSize : (Tryz.prog.info? 143).map (·.size) = some 2 := by kernel_rfl
theorem results_ta1 {fn : Func} {p : Tmp} (h : fn.results = #[.cell p 143]) (tmps : Array Value) (w : World) (g : Nat) (cs : List Value) (hp : tmps.getD p undef = .pointer (some ⟨g, 0, none⟩)) (hl : cs.length = 2) (hr : w.rangeAt g 0 cs) :
    (results fn tmps).run Tryz.prog w = .ok (.agg cs.toArray) w := by
  have := run_loadVar_mid (P := Tryz.prog) w g 0 143 cs _ hr Tryz.underlying143 rfl (by rw [hl]; exact Tryz.taSize)
  have hp' : tmps[p]?.getD undef = .pointer (some ⟨g, 0, none⟩) := by simpa using hp
  simp [results, h, hp', asAddr, this]

set_option maxHeartbeats 4000000 in
set_option maxRecDepth 1000000 in
theorem all_any (w : World) (B D : Nat) (l : List CellV) (h : DocIs w B D l) (hlen : l.length ≤ 1099511627776) :
    Calls Tryz.prog 137 #[.pointer (some ⟨D, 0, none⟩)] w fun e w' => e = .returned (.agg #[.int .i64 (l.length : Int), .int .i64 (liveN l : Int)]) ∧ Mod none_ w w' := by
  obtain ⟨⟨v, MB, bl, n, kd, hdb, hfl, _⟩, _⟩ := h
  obtain ⟨va, vc, rfl⟩ : ∃ va vc, v = .slice va bl.length vc := by
    rcases ownsRow_blk hdb.1 with ⟨rfl, h0, _⟩ | ⟨g, c', _, rfl, _⟩
    · exact ⟨none, 0, by rw [h0]⟩
    · exact ⟨_, c', rfl⟩
  obtain ⟨W0, hW0⟩ : ∃ W0, (w.alloc (.cells #[.int .i64 0, .int .i64 0] 143)).alloc (.cells #[.int .i64 0, .int .i64 0] 143) = W0 := ⟨_, rfl⟩
  have m0 : Mod none_ w W0 := by rw [← hW0]; exact ((Mod.refl none_ w).alloc _).alloc _
  have k0 : Blk W0 w.heap.size [.int .i64 0, .int .i64 0] 143 := by
    rw [← hW0]
    exact (Blk.new (w := w) (cs := [.int .i64 0, .int .i64 0]) (t := 143)).mod ((Mod.refl none_ _).alloc _) (fun e => e)
  have k1 : Blk W0 (w.heap.size + 1) [.int .i64 0, .int .i64 0] 143 := by
    have := Blk.new (w := w.alloc (.cells #[.int .i64 0, .int .i64 0] 143)) (cs := [.int .i64 0, .int .i64 0]) (t := 143)
    rw [World.size_alloc] at this
    rw [← hW0]
    exact this
  have hcap := hdb.cap
  unfold maxLen at hcap
  have hbn : bl.length ≤ 9223372036854775807 := by omega
  have cd : W0.cell? ⟨D, 0, none⟩ = some (.slice va bl.length vc) := by
    have := (kd.mod m0 (fun e => e)).cell 0
    exact this
  have M0 := Lib.hid m0
  have K0 := Lib.hid k0
  have K1 := Lib.hid k1
  have HDB := Lib.hid hdb
  have HFL := Lib.hid hfl
  clear m0 k0 k1 hdb hfl kd hcap
  go_enter Tryz.func137, Tryz.ntmps137
  go_upto_region 2 with fail
  clear hW0
  go_wp2_with fail
  go_loopg [13] bl.length (fun g s13 wx => ∃ k : Nat, g = bl.length - k ∧ s13 = .int .i64 k ∧ k ≤ bl.length ∧ Mod none_ w wx ∧ Blk wx w.heap.size [.int .i64 0, .int .i64 0] 143 ∧ Blk wx (w.heap.size + 1) [.int .i64 ((fstBs bl k).length : Int), .int .i64 (liveN (fstBs bl k) : Int)] 143)
  case atStart => exact ⟨0, rfl, rfl, Nat.zero_le _, M0.out, K0.out, K1.out⟩
  case round =>
    obtain ⟨k, rfl, rfl, hk, mx, kx0, kx1⟩ := hrel
    have MX := Lib.hid mx
    have KX0 := Lib.hid kx0
    have KX1 := Lib.hid kx1
    by_cases hlk : k < bl.length
    · obtain ⟨x, hx⟩ : ∃ x, bl[k]? = some x := ⟨bl[k]'hlk, by simp⟩
      have hdx := HDB.out.grown mx
      obtain ⟨g, rfl, c0⟩ := hdx.at_ hx
      obtain ⟨⟨vb, kb, _, _⟩, _⟩ := hdx.2 x (List.mem_of_getElem? hx)
      have hsx := fstBs_succ hx
      have hle := fstBs_le bl (k + 1)
      rw [HFL.out] at hle
      have hlv := liveN_le (fstBs bl (k + 1))
      have E1 : ((fstBs bl (k + 1)).length : Int) = (fstBs bl k).length + x.2.length := by rw [hsx, List.length_append]; simp
      have E2 : (liveN (fstBs bl (k + 1)) : Int) = liveN (fstBs bl k) + liveN x.2 := by rw [hsx, liveN_append]; simp
      obtain ⟨p, c⟩ := x
      dsimp only at c0 kb E1 E2
      have b0 : wr.cell? ⟨p, 0, none⟩ = some (.int .i64 (c.length : Int)) := by rw [kb.cell]; rfl
      have b1 : wr.cell? ⟨p, 1, none⟩ = some (.int .i64 (liveN c : Int)) := by rw [kb.cell]; rfl
      have s0 : wr.cell? ⟨w.heap.size + 1, 0, none⟩ = some (.int .i64 ((fstBs bl k).length : Int)) := by rw [kx1.cell]; rfl
      have s1 : wr.cell? ⟨w.heap.size + 1, 1, none⟩ = some (.int .i64 (liveN (fstBs bl k) : Int)) := by rw [kx1.cell]; rfl
      have f0 := kx1.frozen 0
      have f1 := kx1.frozen 1
      have hpn : p ≠ w.heap.size + 1 := fun e => by
        subst e
        exact Blk.apart kb kx1 (by decide) rfl
      have w1 : IntKind.i64.wrap (((fstBs bl k).length : Int) + c.length) = ((fstBs bl k).length : Int) + c.length := by rw [IntKind.wrap_i64]; omega
      have w2 : IntKind.i64.wrap ((liveN (fstBs bl k) : Int) + liveN c) = (liveN (fstBs bl k) : Int) + liveN c := by rw [IntKind.wrap_i64]; omega
      have E1 := Lib.hid E1
      have E2 := Lib.hid E2
      have n1 : (liveN (fstBs bl k) : Int) + liveN c ≤ 1099511627776 := by omega
      have n2 : ((fstBs bl k).length : Int) + c.length ≤ 1099511627776 := by omega
      clear hdx hx hsx hle hlv mx kx0 kx1 kb
      have M2 := Lib.hid (((((Mod.refl (one (w.heap.size + 1)) wr).drew).setCell ⟨w.heap.size + 1, 0, none⟩ (fun _ => rfl) (.int .i64 (((fstBs bl k).length : Int) + c.length))).drew).setCell ⟨w.heap.size + 1, 1, none⟩ (fun _ => rfl) (.int .i64 ((liveN (fstBs bl k) : Int) + liveN c)))
      have K2 := Lib.hid ((((KX1.out.drew).set 0 (.int .i64 (((fstBs bl k).length : Int) + c.length))).drew).set 1 (.int .i64 ((liveN (fstBs bl k) : Int) + liveN c)))
      go_wp2_with fail
      go_region_law (fail)
      all_goals go_wp2_with fail
      all_goals go_region_law (fail)
      all_goals go_wp2_with fail
      all_goals go_roundg (bl.length - (k + 1))
      all_goals first
        | omega
        | exact ⟨k + 1, rfl, by go_num, by omega, MX.out.transIn M2.out (fun b hb e => by have e' : b = w.heap.size + 1 := e; omega), KX0.out.mod M2.out (fun e => by have e' : w.heap.size = w.heap.size + 1 := e; omega), by rw [E1.out, E2.out]; exact K2.out⟩
    · obtain rfl : k = bl.length := by omega
      rw [fstBs_all (Nat.le_refl _), HFL.out] at kx1
      have s0 : wr.cell? ⟨w.heap.size + 1, 0, none⟩ = some (.int .i64 (l.length : Int)) := by rw [kx1.cell]; rfl
      have s1 : wr.cell? ⟨w.heap.size + 1, 1, none⟩ = some (.int .i64 (liveN l : Int)) := by rw [kx1.cell]; rfl
      have f0 := kx0.frozen 0
      have f1 := kx0.frozen 1
      have r0 : wr.cell? ⟨w.heap.size, 0, none⟩ = some (.int .i64 0) := by rw [kx0.cell]; rfl
      have r1 : wr.cell? ⟨w.heap.size, 1, none⟩ = some (.int .i64 0) := by rw [kx0.cell]; rfl
      have KF := Lib.hid ((kx0.set 0 (.int .i64 (l.length : Int))).set 1 (.int .i64 (liveN l : Int)))
      have MF := Lib.hid ((MX.out.setCell ⟨w.heap.size, 0, none⟩ (fun h => absurd h (by simp)) (.int .i64 (l.length : Int))).setCell ⟨w.heap.size, 1, none⟩ (fun h => absurd h (by simp)) (.int .i64 (liveN l : Int)))
      clear mx kx0 kx1 KX0 KX1
      go_wp2_with fail
      exact bodyPost_ret (results_ta1 rfl _ _ w.heap.size [.int .i64 (l.length : Int), .int .i64 (liveN l : Int)] rfl rfl (blk_range KF.out)) rfl ⟨rfl, MF.out⟩

end Go.Proofs.YtlidmajcdjlcnaaGreatDoor

namespace Go.Proofs.YtlidmajcdjlcnaaGreatDoor
open Go.RowKit Go.Mine

end Go.Proofs.YtlidmajcdjlcnaaGreatDoor

namespace Go.Proofs.YtlidmajcdjlcnaaGreatDoor
open Go.RowKit Go.Shelf Go.Mine
open Classical

/-- A block: its pointer, its slice, its cells. -/
structure BV where
  p : Nat
  v : Value
  c : List CellV
structure BlkV (w : World) (x : BV) : Prop where
  b : Blk w x.p [.int .i64 (x.c.length : Int), .int .i64 (liveN x.c : Int), x.v] 145
  o : w.ownsRow 0 47 5 x.v x.c.length (flat CellV.cs x.c)
abbrev cellsOf (bl : List BV) : List CellV := bl.flatMap BV.c
abbrev ptrsOf (bl : List BV) : List Value := bl.map fun x => .pointer (some ⟨x.p, 0, none⟩)
def apartB (x y : BV) : Prop := x.p ≠ y.p ∧ ∀ g, x.v.ownBlock = some g → y.v.ownBlock ≠ some g
/-- The blocks of a document (without its names). -/
structure DocV (w : World) (D : Nat) (v : Value) (MB : Nat) (bl : List BV) : Prop where
  doc : Blk w D [v, .map (some MB)] 140
  ptrs : w.ownsRow 0 141 1 v bl.length (ptrsOf bl)
  blk : ∀ x ∈ bl, BlkV w x
  apart : bl.Pairwise apartB
/-- All that it owns. -/
def foot (D : Nat) (v : Value) (bl : List BV) (k : Nat) : Prop := k = D ∨ v.ownBlock = some k ∨ ∃ x ∈ bl, k = x.p ∨ x.v.ownBlock = some k
/-- A document of these cells, all of it in S. -/
structure DocS (w : World) (S : Nat → Prop) (D : Nat) (l : List CellV) : Prop where
  ex : ∃ v MB bl, DocV w D v MB bl ∧ Names Tryz.prog 28 w MB (l.map CellV.name) ∧ cellsOf bl = l ∧ (∀ k, foot D v bl k → S k) ∧ S MB ∧ ∀ x ∈ bl, x.c ≠ []

theorem BlkV.mod {S : Nat → Prop} {w w' : World} {x : BV} (h : BlkV w x) (m : Mod S w w') (h1 : ¬ S x.p) (h2 : ∀ g, x.v.ownBlock = some g → ¬ S g) : BlkV w' x :=
  ⟨h.b.mod m h1, ownsRow_mod h.o m h2⟩
theorem DocV.mod {S : Nat → Prop} {w w' : World} {D MB : Nat} {v : Value} {bl : List BV} (h : DocV w D v MB bl) (m : Mod S w w') (hs : ∀ k, foot D v bl k → ¬ S k) : DocV w' D v MB bl :=
  ⟨h.doc.mod m (hs _ (.inl rfl)), ownsRow_mod h.ptrs m (fun k hk => hs k (.inr (.inl hk))), fun x hx => (h.blk x hx).mod m (hs _ (.inr (.inr ⟨x, hx, .inl rfl⟩))) (fun g hg => hs g (.inr (.inr ⟨x, hx, .inr hg⟩))), h.apart⟩
theorem DocV.grown {w w' : World} {D MB : Nat} {v : Value} {bl : List BV} (h : DocV w D v MB bl) (m : Mod none_ w w') : DocV w' D v MB bl := h.mod m (fun _ _ e => e)
theorem DocS.mod {T S : Nat → Prop} {w w' : World} {D : Nat} {l : List CellV} (h : DocS w S D l) (m : Mod T w w') (hs : ∀ k, S k → ¬ T k) : DocS w' S D l := by
  obtain ⟨v, MB, bl, hv, hc, hl, hf, hmb, hne⟩ := h.ex
  exact ⟨v, MB, bl, hv.mod m (fun k hk => hs k (hf k hk)), hc.mod m (hs _ hmb), hl, hf, hmb, hne⟩
theorem DocS.grown {S : Nat → Prop} {w w' : World} {D : Nat} {l : List CellV} (h : DocS w S D l) (m : Mod none_ w w') : DocS w' S D l := h.mod m (fun _ _ e => e)
theorem DocS.mono {S T : Nat → Prop} {w : World} {D : Nat} {l : List CellV} (h : DocS w S D l) (hs : ∀ k, k < w.heap.size → S k → T k) : DocS w T D l := by
  obtain ⟨v, MB, bl, hv, hc, hl, hf, hmb, hne⟩ := h.ex
  refine ⟨v, MB, bl, hv, hc, hl, fun k hk => hs k ?_ (hf k hk), hs _ hc.lt hmb, hne⟩
  rcases hk with rfl | hk | ⟨x, hx, rfl | hk⟩
  · exact hv.doc.lt
  · exact (hv.ptrs.lt k hk).2
  · exact (hv.blk x hx).b.lt
  · exact ((hv.blk x hx).o.lt k hk).2

/-- The names lie apart. -/
theorem foot_names {w : World} {D MB : Nat} {v : Value} {bl : List BV} {ks : List Value} (h : DocV w D v MB bl) (hn : Names Tryz.prog 28 w MB ks) : ¬ foot D v bl MB := by
  obtain ⟨m, n, hm, _⟩ := hn
  rintro (rfl | hk | ⟨x, hx, rfl | hk⟩)
  · exact imap_blk hm h.doc
  · obtain ⟨cs, hc⟩ := ownsRow_type h.ptrs hk
    exact imap_blk hm hc
  · exact imap_blk hm (h.blk x hx).b
  · obtain ⟨cs, hc⟩ := ownsRow_type (h.blk x hx).o hk
    exact imap_blk hm hc
/-- What was there, and what is new. -/
def grew (S : Nat → Prop) (w w' : World) (k : Nat) : Prop := S k ∨ (w.heap.size ≤ k ∧ k < w'.heap.size)

/-- The elder words of a document. -/
theorem DocV.bs {w : World} {D MB : Nat} {v : Value} {bl : List BV} (h : DocV w D v MB bl) : DocBs w 0 v (bl.map fun x => (x.p, x.c)) := by
  refine ⟨?_, fun y hy => ?_⟩
  · have := h.ptrs
    rw [List.length_map, List.map_map]
    exact this
  · obtain ⟨x, hx, rfl⟩ := List.mem_map.1 hy
    obtain ⟨hb, ho⟩ := h.blk x hx
    refine ⟨⟨x.v, hb, ho, fun e => ?_⟩, Nat.zero_le _⟩
    obtain ⟨cs, hk⟩ := ownsRow_type ho e
    exact Blk.apart hb hk (by decide) rfl
theorem arr_eq {w : World} {x : BV} {g : Nat} (h : BlkV w x) (k : Arr w x.p g) : x.v.ownBlock = some g := by
  obtain ⟨a, b, v', k', e⟩ := k
  have hb := h.b
  unfold Blk at hb k'
  rw [hb] at k'
  simp at k'
  obtain ⟨_, _, rfl⟩ := k'
  exact e
theorem DocV.ap {w : World} {D MB : Nat} {v : Value} {bl : List BV} (h : DocV w D v MB bl) : Apart w (bl.map fun x => (x.p, x.c)) := by
  unfold Apart
  rw [List.pairwise_map]
  exact List.Pairwise.imp_of_mem (fun hx hy hxy => ⟨hxy.1, fun g h1 h2 => hxy.2 g (arr_eq (h.blk _ hx) h1) (arr_eq (h.blk _ hy) h2)⟩) h.apart
theorem DocS.is {S : Nat → Prop} {w : World} {D : Nat} {l : List CellV} (h : DocS w S D l) : DocIs w 0 D l := by
  obtain ⟨v, MB, bl, hv, hc, hl, hf, hmb, hne⟩ := h.ex
  refine ⟨⟨v, MB, _, 0, hv.doc, hv.bs, ?_, hc, hv.ap, ?_, Nat.zero_le _⟩, Nat.zero_le _⟩
  · rw [List.flatMap_map]; exact hl
  · intro y hy
    obtain ⟨x, hx, rfl⟩ := List.mem_map.1 hy
    exact hne x hx

/-- A new document, in these words. -/
theorem exists_bv {w : World} {B : Nat} : ∀ (bl : List (Nat × List CellV)), (∀ x ∈ bl, BlkIs w B x.1 x.2) → Apart w bl → ∃ bv : List BV, (bv.map fun x => (x.p, x.c)) = bl ∧ (∀ x ∈ bv, BlkV w x ∧ B ≤ x.p ∧ ∀ g, x.v.ownBlock = some g → B ≤ g) ∧ bv.Pairwise apartB
  | [], _, _ => ⟨[], rfl, by simp, List.Pairwise.nil⟩
  | (p, c) :: r, h, ha => by
    obtain ⟨bv, e, hb, hp⟩ := exists_bv r (fun x hx => h x (List.mem_cons_of_mem _ hx)) (List.Pairwise.of_cons ha)
    obtain ⟨⟨v, kb, ko, kn⟩, klo⟩ := h (p, c) (by simp)
    refine ⟨⟨p, v, c⟩ :: bv, by simp [e], ?_, ?_⟩
    · intro x hx
      rcases List.mem_cons.1 hx with rfl | hx
      · exact ⟨⟨kb, ownsRow_base ko (Nat.zero_le _)⟩, klo, fun g hg => (ko.lt g hg).1⟩
      · exact hb x hx
    · refine List.Pairwise.cons (fun y hy => ?_) hp
      have hr := (List.pairwise_cons.1 ha).1 (y.p, y.c) (by rw [← e]; exact List.mem_map.2 ⟨y, hy, rfl⟩)
      refine ⟨hr.1, fun g h1 h2 => hr.2 g ⟨_, _, v, kb, h1⟩ ⟨_, _, y.v, (hb y hy).1.b, h2⟩⟩
theorem DocIs.s {w : World} {B D : Nat} {l : List CellV} (h : DocIs w B D l) : DocS w (fun k => B ≤ k) D l := by
  obtain ⟨⟨v, MB, bl, n, k, b, f, c, ap, ne, lm⟩, lo⟩ := h
  obtain ⟨bv, e, hb, hp⟩ := exists_bv bl b.2 ap
  refine ⟨v, MB, bv, ⟨k, ?_, fun x hx => (hb x hx).1, hp⟩, c, ?_, ?_, lm, fun x hx => ne (x.p, x.c) (by rw [← e]; exact List.mem_map.2 ⟨x, hx, rfl⟩)⟩
  · have := ownsRow_base b.1 (Nat.zero_le B)
    rw [← e, List.length_map, List.map_map] at this
    exact this
  · rw [← f, ← e, List.flatMap_map]
  · intro i hi
    rcases hi with rfl | hi | ⟨x, hx, rfl | hi⟩
    · exact lo
    · exact (b.1.lt i hi).1
    · exact (hb x hx).2.1
    · exact (hb x hx).2.2 i hi
end Go.Proofs.YtlidmajcdjlcnaaGreatDoor

namespace Go.Proofs.YtlidmajcdjlcnaaGreatDoor
open Go.RowKit Go.Shelf Go.Mine

theorem fTa0 (a b : Int) (w : World) : (Instr.field 143 (.agg #[.int .i64 a, .int .i64 b]) 0).run Tryz.prog w = .ok (.int .i64 a) w := by kernel_rfl
theorem fTa1 (a b : Int) (w : World) : (Instr.field 143 (.agg #[.int .i64 a, .int .i64 b]) 1).run Tryz.prog w = .ok (.int .i64 b) w := by kernel_rfl
attribute [local go_sem] fTa0 fTa1
set_option maxHeartbeats 2000000 in
set_option maxRecDepth 1000000 in
theorem size_any (w : World) (B D : Nat) (l : List CellV) (h : DocIs w B D l) (hlen : l.length ≤ 1099511627776) :
    Calls Tryz.prog 117 #[.pointer (some ⟨D, 0, none⟩)] w fun e w' => e = .returned (.int .i64 (l.length : Int)) ∧ Mod none_ w w' := by
  have HALL := Lib.hid (all_any w B D l h hlen)
  clear h
  go_enter Tryz.func117, Tryz.ntmps117
  go_wp2_with fail
  refine HALL.out.mono ?_
  rintro e w1 ⟨rfl, m1⟩
  go_wp2_with fail
  go_ret
  exact ⟨rfl, m1⟩
end Go.Proofs.YtlidmajcdjlcnaaGreatDoor

namespace Go.Proofs.YtlidmajcdjlcnaaGreatDoor
open Go.RowKit Go.Shelf Go.Mine

def goneC (c : CellV) : CellV := { c with gone := true }
/-- The cells at places of P are gone. -/
def markP (P : Nat → Bool) (l : List CellV) : List CellV := l.mapIdx fun i c => if P i then goneC c else c
theorem markP_len (P : Nat → Bool) (l : List CellV) : (markP P l).length = l.length := by simp [markP]
theorem markP_get (P : Nat → Bool) (l : List CellV) (i : Nat) : (markP P l)[i]? = (l[i]?).map fun c => if P i then goneC c else c := by simp [markP]
theorem markP_congr {P Q : Nat → Bool} {l : List CellV} (h : ∀ i, i < l.length → P i = Q i) : markP P l = markP Q l := by
  apply List.ext_getElem?
  intro i
  rw [markP_get, markP_get]
  by_cases hi : i < l.length
  · rw [h i hi]
  · rw [List.getElem?_eq_none (by omega)]; rfl
theorem markP_none {P : Nat → Bool} {l : List CellV} (h : ∀ i, i < l.length → P i = false) : markP P l = l := by
  rw [markP_congr (Q := fun _ => false) h]
  apply List.ext_getElem?
  intro i
  rw [markP_get]
  cases l[i]? <;> simp
theorem markP_append (P : Nat → Bool) (a b : List CellV) : markP P (a ++ b) = markP P a ++ markP (fun i => P (a.length + i)) b := by
  apply List.ext_getElem?
  intro i
  rw [markP_get]
  by_cases hi : i < a.length
  · rw [List.getElem?_append_left hi, List.getElem?_append_left (by rw [markP_len]; exact hi), markP_get]
  · rw [List.getElem?_append_right (by omega), List.getElem?_append_right (by rw [markP_len]; omega), markP_len, markP_get, show a.length + (i - a.length) = i by omega]
theorem markP_names (P : Nat → Bool) (l : List CellV) : (markP P l).map CellV.name = l.map CellV.name := by
  apply List.ext_getElem?
  intro i
  rw [List.getElem?_map, List.getElem?_map, markP_get]
  cases l[i]? with
  | none => rfl
  | some c => simp only [Option.map_some]; split <;> rfl
theorem markP_ok {P : Nat → Bool} {l : List CellV} (h : ∀ c ∈ l, c.ok) : ∀ c ∈ markP P l, c.ok := by
  intro c hc
  obtain ⟨i, hi⟩ := List.getElem?_of_mem hc
  rw [markP_get] at hi
  cases hx : l[i]? with
  | none => rw [hx] at hi; cases hi
  | some x =>
    have := h x (List.mem_of_getElem? hx)
    rw [hx] at hi
    simp only [Option.map_some, Option.some.injEq] at hi
    subst hi
    split
    · exact ⟨this.i1, this.i2, this.i3, this.i4⟩
    · exact this
/-- One place more. -/
theorem markP_set (P : Nat → Bool) (l : List CellV) (i : Nat) (c : CellV) (hc : l[i]? = some c) : markP (fun j => P j || decide (j = i)) l = (markP P l).set i (goneC c) := by
  apply List.ext_getElem?
  intro j
  rw [markP_get, List.getElem?_set, markP_len]
  have hi := (List.getElem?_eq_some_iff.1 hc).1
  by_cases hj : i = j
  · subst hj
    rw [if_pos rfl, if_pos hi, hc]; simp
  · rw [if_neg hj, markP_get]
    have : decide (j = i) = false := by simp; omega
    rw [this, Bool.or_false]
/-- .. and in memory. -/
theorem flat_gone (l : List CellV) (i : Nat) (c : CellV) (hc : l[i]? = some c) (more : List Value) : (flat CellV.cs l ++ more).set (i * 5 + 4) (.bool true) = flat CellV.cs (l.set i (goneC c)) ++ more := by
  obtain ⟨hi, rfl⟩ := List.getElem?_eq_some_iff.1 hc
  have e : flat CellV.cs l = flat CellV.cs (l.take i) ++ (l[i].cs ++ flat CellV.cs (l.drop (i + 1))) := by
    have : l = l.take i ++ (l[i] :: l.drop (i + 1)) := by rw [List.getElem_cons_drop, List.take_append_drop]
    conv => lhs; rw [this]
    unfold flat; rw [List.flatMap_append, List.flatMap_cons]
  have e2 : flat CellV.cs (l.set i (goneC l[i])) = flat CellV.cs (l.take i) ++ ((goneC l[i]).cs ++ flat CellV.cs (l.drop (i + 1))) := by
    rw [List.set_eq_take_append_cons_drop, if_pos hi]
    unfold flat; rw [List.flatMap_append, List.flatMap_cons]
  have hl : (flat CellV.cs (l.take i)).length = i * 5 := by rw [flat_length CellV.len, List.length_take]; omega
  rw [e, e2, List.append_assoc, List.append_assoc, List.set_append_right _ _ (by omega), hl, show i * 5 + 4 - i * 5 = 4 by omega]
  simp [goneC]

/-- Marks by spans. -/
def markS (l : List (Int × Int)) (p : Nat) (cs : List CellV) : List CellV := markP (fun i => hasPl l (p + i)) cs
def markBl (l : List (Int × Int)) : Nat → List BV → List BV
  | _, [] => []
  | p, x :: r => ⟨x.p, x.v, markS l p x.c⟩ :: markBl l (p + x.c.length) r
theorem markS_len (l : List (Int × Int)) (p : Nat) (cs : List CellV) : (markS l p cs).length = cs.length := markP_len _ _
theorem markBl_cells (l : List (Int × Int)) : ∀ (bl : List BV) (p : Nat), cellsOf (markBl l p bl) = markS l p (cellsOf bl)
  | [], _ => rfl
  | x :: r, p => by
    have ih := markBl_cells l r (p + x.c.length)
    unfold cellsOf markS at *
    rw [markBl, List.flatMap_cons, List.flatMap_cons, markP_append, ih]
    simp only [markS, Nat.add_assoc]
theorem markBl_len (l : List (Int × Int)) : ∀ (bl : List BV) (p : Nat), (markBl l p bl).length = bl.length
  | [], _ => rfl
  | x :: r, p => by rw [markBl, List.length_cons, List.length_cons, markBl_len l r]
theorem markBl_append (l : List (Int × Int)) : ∀ (a b : List BV) (p : Nat), markBl l p (a ++ b) = markBl l p a ++ markBl l (p + (cellsOf a).length) b
  | [], _, _ => by simp [markBl]
  | x :: r, b, p => by
    rw [List.cons_append, markBl, markBl, markBl_append l r b, List.cons_append]
    simp only [cellsOf, List.flatMap_cons, List.length_append, Nat.add_assoc]
theorem markBl_foot (l : List (Int × Int)) : ∀ (bl : List BV) (p : Nat), (markBl l p bl).map (fun x => (x.p, x.v)) = bl.map (fun x => (x.p, x.v))
  | [], _ => rfl
  | x :: r, p => by rw [markBl, List.map_cons, List.map_cons, markBl_foot l r]
end Go.Proofs.YtlidmajcdjlcnaaGreatDoor

namespace Go.Proofs.YtlidmajcdjlcnaaGreatDoor
open Go.RowKit Go.Shelf Go.Mine

theorem DocV.at_ {w : World} {D MB nb vc : Nat} {va : Option Addr} {bl : List BV} (h : DocV w D (.slice va nb vc) MB bl) {k : Nat} {x : BV} (hx : bl[k]? = some x) :
    ∃ g, va = some ⟨g, 0, none⟩ ∧ w.cell? ⟨g, k, none⟩ = some (.pointer (some ⟨x.p, 0, none⟩)) := by
  have hk := (List.getElem?_eq_some_iff.1 hx).1
  rcases ownsRow_blk h.ptrs with ⟨_, h0, _⟩ | ⟨g, c', more, e, _, hb, _⟩
  · omega
  · cases e
    refine ⟨g, rfl, ?_⟩
    rw [hb.cell, List.getElem?_append_left (by simpa using hk), List.getElem?_map, hx]
    rfl
theorem DocV.form {w : World} {D MB : Nat} {v : Value} {bl : List BV} (h : DocV w D v MB bl) : ∃ va vc, v = .slice va bl.length vc ∧ bl.length ≤ vc ∧ vc ≤ maxLen := by
  rcases ownsRow_blk h.ptrs with ⟨rfl, h0, _⟩ | ⟨g, c', _, rfl, _, _, h1, h2, _⟩
  · exact ⟨none, 0, by rw [h0], by omega, Nat.zero_le _⟩
  · exact ⟨_, c', rfl, h1, h2⟩
theorem cellsOf_step {bl : List BV} {k : Nat} {x : BV} (hx : bl[k]? = some x) : cellsOf bl = cellsOf (bl.take k) ++ (x.c ++ cellsOf (bl.drop (k + 1))) := by
  obtain ⟨hk', e⟩ := List.getElem?_eq_some_iff.1 hx
  have : bl = bl.take k ++ (x :: bl.drop (k + 1)) := by rw [← e, List.getElem_cons_drop, List.take_append_drop]
  conv => lhs; rw [this]
  unfold cellsOf
  rw [List.flatMap_append, List.flatMap_cons]
theorem cellsOf_succ {bl : List BV} {k : Nat} {x : BV} (hx : bl[k]? = some x) : cellsOf (bl.take (k + 1)) = cellsOf (bl.take k) ++ x.c := by
  obtain ⟨hk', e⟩ := List.getElem?_eq_some_iff.1 hx
  unfold cellsOf
  rw [List.take_succ_eq_append_getElem hk', e, List.flatMap_append]
  simp

set_option maxHeartbeats 2000000 in
set_option maxRecDepth 1000000 in
theorem find_any (w : World) (D MB p : Nat) (v : Value) (bl : List BV) (h : DocV w D v MB bl) (hlen : (cellsOf bl).length ≤ 1099511627776) (hp : p ≤ (cellsOf bl).length) (hne : 0 < bl.length) :
    Calls Tryz.prog 139 #[.pointer (some ⟨D, 0, none⟩), .int .i64 (p : Int)] w fun e w' => ∃ (k i : Nat) (x : BV), e = .returned (.tuple #[.int .i64 (k : Int), .int .i64 (i : Int)]) ∧ bl[k]? = some x ∧ i ≤ x.c.length ∧ (cellsOf (bl.take k)).length + i = p ∧ Mod none_ w w' := by
  obtain ⟨va, vc, rfl, hvc, hvm⟩ := h.form
  unfold maxLen at hvm
  have cd : w.cell? ⟨D, 0, none⟩ = some (.slice va bl.length vc) := h.doc.cell 0
  have H := Lib.hid h
  have HP := Lib.hid (show 0 < bl.length ∧ (cellsOf (bl.take 0)).length + p = p by simp; exact hne)
  clear h
  go_enter Tryz.func139, Tryz.ntmps139
  go_wp2_with fail
  go_loopg [1, 13] bl.length (fun g s1 s13 wx => ∃ k i : Nat, g = bl.length - k ∧ s1 = .int .i64 i ∧ s13 = .int .i64 k ∧ Mod none_ w wx ∧ RowKit.Hid (k < bl.length ∧ (cellsOf (bl.take k)).length + i = p))
  case atStart => exact ⟨0, p, rfl, rfl, rfl, Mod.refl _ _, HP⟩
  case round =>
    obtain ⟨k, i, rfl, rfl, rfl, mx, hst⟩ := hrel
    obtain ⟨hk, hi⟩ := hst.out
    obtain ⟨x, hx⟩ : ∃ x, bl[k]? = some x := ⟨bl[k]'hk, by simp⟩
    have hdx := H.out.grown mx
    obtain ⟨g, rfl, c0⟩ := hdx.at_ hx
    have kb := (hdx.blk x (List.mem_of_getElem? hx)).b
    have b0 : wr.cell? ⟨x.p, 0, none⟩ = some (.int .i64 (x.c.length : Int)) := by rw [kb.cell]; rfl
    have cdx : wr.cell? ⟨D, 0, none⟩ = some (.slice (some ⟨g, 0, none⟩) bl.length vc) := hdx.doc.cell 0
    have MX := Lib.hid mx
    have HX := Lib.hid hx
    have hs1 := cellsOf_step hx
    have hs2 := cellsOf_succ hx
    have e1 : (cellsOf bl).length = (cellsOf (bl.take k)).length + (x.c.length + (cellsOf (bl.drop (k + 1))).length) := by rw [hs1]; simp
    have e2 : (cellsOf (bl.take (k + 1))).length = (cellsOf (bl.take k)).length + x.c.length := by rw [hs2]; simp
    have hil : i ≤ 1099511627776 := by omega
    have hxl : x.c.length ≤ 1099511627776 := by omega
    by_cases h1 : i < x.c.length
    · have FIN := Lib.hid (show i ≤ x.c.length ∧ (cellsOf (bl.take k)).length + i = p from ⟨by omega, hi⟩)
      have d1 : decide (i < x.c.length) = true := by simpa using h1
      clear e1 e2 hs1 hs2 hst hi mx kb hdx hx
      go_wp2_with fail
      go_ret2
      exact ⟨k, i, x, rfl, HX.out, FIN.out.1, FIN.out.2, MX.out⟩
    · have d1 : decide (i < x.c.length) = false := by simpa using h1
      have hkl : k + 1 = bl.length ∨ k + 1 < bl.length := by omega
      have hlast : k + 1 = bl.length → i = x.c.length := fun e => by
        have : (cellsOf (bl.drop (k + 1))).length = 0 := by rw [List.drop_eq_nil_of_le (by omega)]; rfl
        omega
      by_cases h2 : i = x.c.length
      · by_cases h3 : k + 1 = bl.length
        · have FIN := Lib.hid (show i ≤ x.c.length ∧ (cellsOf (bl.take k)).length + i = p from ⟨by omega, hi⟩)
          have d2 : ((i : Int) == (x.c.length : Int)) = true := by simp; omega
          have d3 : ((k : Int) == (bl.length : Int) - 1) = true := by simp; omega
          clear e1 e2 hs1 hs2 hst hi mx kb hdx hx h1 h2 h3 hkl hlast
          go_wp2_with fail
          go_ret2
          exact ⟨k, i, x, rfl, HX.out, FIN.out.1, FIN.out.2, MX.out⟩
        · have FIN := Lib.hid (show k + 1 < bl.length ∧ (cellsOf (bl.take (k + 1))).length + (i - x.c.length) = p from ⟨by omega, by omega⟩)
          have d2 : ((i : Int) == (x.c.length : Int)) = true := by simp; omega
          have d3 : ((k : Int) == (bl.length : Int) - 1) = false := by simp; omega
          clear e1 e2 hs1 hs2 hst hi mx kb hdx hx h2 h3 hkl hlast
          go_wp2_with fail
          go_roundg (bl.length - (k + 1))
          case measure => omega
          case rel => exact ⟨k + 1, i - x.c.length, rfl, by (congr 1; omega), by go_num, MX.out, FIN⟩
      · have h3 : k + 1 < bl.length := by
          rcases hkl with h | h
          · exact absurd (hlast h) h2
          · exact h
        have FIN := Lib.hid (show k + 1 < bl.length ∧ (cellsOf (bl.take (k + 1))).length + (i - x.c.length) = p from ⟨by omega, by omega⟩)
        have d2 : ((i : Int) == (x.c.length : Int)) = false := by simp; omega
        clear e1 e2 hs1 hs2 hst hi mx kb hdx hx h2 h3 hkl hlast
        go_wp2_with fail
        go_roundg (bl.length - (k + 1))
        case measure => omega
        case rel => exact ⟨k + 1, i - x.c.length, rfl, by (congr 1; omega), by go_num, MX.out, FIN⟩

end Go.Proofs.YtlidmajcdjlcnaaGreatDoor

namespace Go.Proofs.YtlidmajcdjlcnaaGreatDoor
open Go.RowKit Go.Shelf Go.Mine

theorem foot_congr {D : Nat} {v : Value} {a b : List BV} (h : a.map (fun x => (x.p, x.v)) = b.map (fun x => (x.p, x.v))) (k : Nat) : foot D v a k ↔ foot D v b k := by
  have key : ∀ {a b : List BV}, a.map (fun x => (x.p, x.v)) = b.map (fun x => (x.p, x.v)) → (∃ x ∈ a, k = x.p ∨ x.v.ownBlock = some k) → ∃ x ∈ b, k = x.p ∨ x.v.ownBlock = some k := by
    rintro a b h ⟨x, hx, hk⟩
    have : (x.p, x.v) ∈ b.map (fun x => (x.p, x.v)) := by rw [← h]; exact List.mem_map.2 ⟨x, hx, rfl⟩
    obtain ⟨y, hy, e⟩ := List.mem_map.1 this
    simp only [Prod.mk.injEq] at e
    exact ⟨y, hy, by rw [e.1, e.2]; exact hk⟩
  unfold foot
  exact ⟨fun h' => h'.imp id (Or.imp id (key h)), fun h' => h'.imp id (Or.imp id (key h.symm))⟩

theorem BlkV.apart_arr {w : World} {x : BV} (h : BlkV w x) {g : Nat} (hg : x.v.ownBlock = some g) : ∃ cs, Blk w g cs 47 := ownsRow_type h.o hg
/-- One block is written. -/
theorem DocV.upd {w w' : World} {D MB : Nat} {v : Value} {A B : List BV} {x y : BV} (h : DocV w D v MB (A ++ x :: B)) (m : Mod (fun b => b = x.p ∨ x.v.ownBlock = some b) w w') (hy : BlkV w' y) (hp : y.p = x.p) (hv : ∀ g, y.v.ownBlock = some g → x.v.ownBlock = some g ∨ w.heap.size ≤ g) :
    DocV w' D v MB (A ++ y :: B) := by
  have hxm : x ∈ A ++ x :: B := by simp
  have hx := h.blk x hxm
  have hap := List.pairwise_append.1 h.apart
  obtain ⟨apA, apX, apAX⟩ := hap
  obtain ⟨apXB, apB⟩ := List.pairwise_cons.1 apX
  have other : ∀ z, (z ∈ A ∨ z ∈ B) → BlkV w' z ∧ apartB z x ∧ apartB x z := by
    intro z hz
    have hzm : z ∈ A ++ x :: B := by rcases hz with hz | hz <;> simp [hz]
    have hzx : apartB z x ∧ apartB x z := by
      rcases hz with hz | hz
      · have := apAX z hz x (by simp)
        exact ⟨this, fun e => this.1 e.symm, fun g h1 h2 => this.2 g h2 h1⟩
      · have := apXB z hz
        exact ⟨⟨fun e => this.1 e.symm, fun g h1 h2 => this.2 g h2 h1⟩, this⟩
    refine ⟨(h.blk z hzm).mod m ?_ ?_, hzx⟩
    · rintro (e | e)
      · exact hzx.1.1 e
      · obtain ⟨cs, hc⟩ := hx.apart_arr e
        exact Blk.apart (h.blk z hzm).b hc (by decide) rfl
    · rintro g hg (e | e)
      · obtain ⟨cs, hc⟩ := (h.blk z hzm).apart_arr hg
        exact Blk.apart hx.b hc (by decide) e.symm
      · exact hzx.1.2 g hg e
  refine ⟨h.doc.mod m ?_, ?_, ?_, ?_⟩
  · rintro (e | e)
    · exact Blk.apart h.doc hx.b (by decide) e
    · obtain ⟨cs, hc⟩ := hx.apart_arr e
      exact Blk.apart h.doc hc (by decide) rfl
  · have e1 : (A ++ y :: B).length = (A ++ x :: B).length := by simp
    have e2 : ptrsOf (A ++ y :: B) = ptrsOf (A ++ x :: B) := by simp [ptrsOf, hp]
    rw [e1, e2]
    refine ownsRow_mod h.ptrs m ?_
    rintro k hk (e | e)
    · obtain ⟨cs, hc⟩ := ownsRow_type h.ptrs hk
      exact Blk.apart hx.b hc (by decide) e.symm
    · obtain ⟨cs, hc⟩ := ownsRow_type h.ptrs hk
      obtain ⟨cs', hc'⟩ := hx.apart_arr e
      exact Blk.apart hc hc' (by decide) rfl
  · intro z hz
    rcases List.mem_append.1 hz with hz | hz
    · exact (other z (.inl hz)).1
    · rcases List.mem_cons.1 hz with rfl | hz
      · exact hy
      · exact (other z (.inr hz)).1
  · have far : ∀ z, (z ∈ A ∨ z ∈ B) → apartB z y ∧ apartB y z := by
      intro z hz
      obtain ⟨_, ⟨h1, h2⟩, _⟩ := other z hz
      have hzm : z ∈ A ++ x :: B := by rcases hz with hz | hz <;> simp [hz]
      have key : ∀ g, z.v.ownBlock = some g → y.v.ownBlock ≠ some g := fun g hg e => by
        rcases hv g e with h3 | h3
        · exact h2 g hg h3
        · have := ((h.blk z hzm).o.lt g hg).2
          omega
      exact ⟨⟨by rw [hp]; exact h1, key⟩, ⟨by rw [hp]; exact fun e => h1 e.symm, fun g e1 e2 => key g e2 e1⟩⟩
    refine List.pairwise_append.2 ⟨apA, List.pairwise_cons.2 ⟨fun z hz => (far z (.inr hz)).2, apB⟩, fun z hz u hu => ?_⟩
    rcases List.mem_cons.1 hu with rfl | hu
    · exact (far z (.inl hz)).1
    · exact apAX z hz u (by simp [hu])

/-- Spans, none of them in F. -/
structure SpF (w : World) (F : Nat → Prop) (a : Option Addr) (n c : Nat) (r : List (Int × Int)) : Prop where
  sp : IsSpans w a n c r
  far : ∀ b off, a = some ⟨b, off, none⟩ → 0 < n → ¬ F b
theorem SpF.mod {w w' : World} {F S : Nat → Prop} {a : Option Addr} {n c : Nat} {r : List (Int × Int)} (h : SpF w F a n c r) (m : Mod S w w') (hs : ∀ k, S k → F k) : SpF w' F a n c r := by
  refine ⟨{ h.sp with cells := fun i x hx => ?_ }, h.far⟩
  obtain ⟨b, off, e, h0, h1⟩ := h.sp.cells i x hx
  have hi := (List.getElem?_eq_some_iff.1 hx).1
  have hn := h.sp.n
  have hf := h.far b off e (by omega)
  exact ⟨b, off, e, m.cell (fun s => hf (hs _ s)) h0, m.cell (fun s => hf (hs _ s)) h1⟩
theorem SpF.tail {w : World} {F : Nat → Prop} {b off n c : Nat} {x : Int × Int} {r : List (Int × Int)} (h : SpF w F (some ⟨b, off, none⟩) (n + 1) c (x :: r)) :
    (c = 1 → SpF w F (some ⟨b, off, none⟩) n 0 r) ∧ (c ≠ 1 → SpF w F (some ⟨b, off + 2, none⟩) n (c - 1) r) := by
  have hn := h.sp.n
  have hle := h.sp.le
  have hbig := h.sp.big
  rw [List.length_cons] at hn
  refine ⟨fun e => ⟨⟨by omega, by omega, by unfold maxLen; omega, fun y hy => h.sp.ok y (List.mem_cons_of_mem _ hy), fun i y hy => ?_⟩, fun _ _ _ hn' => by omega⟩,
    fun e => ⟨⟨by omega, by omega, by omega, fun y hy => h.sp.ok y (List.mem_cons_of_mem _ hy), fun i y hy => ?_⟩, fun b' off' e' hn' => ?_⟩⟩
  · have := (List.getElem?_eq_some_iff.1 hy).1
    omega
  · obtain ⟨b', off', e', h0, h1⟩ := h.sp.cells (i + 1) y (by simpa using hy)
    cases e'
    exact ⟨b, off + 2, rfl, by rw [show off + 2 + i * 2 = off + (i + 1) * 2 by omega]; exact h0, by rw [show off + 2 + i * 2 = off + (i + 1) * 2 by omega]; exact h1⟩
  · cases e'
    exact h.far b off rfl (by omega)
theorem SpF.head {w : World} {F : Nat → Prop} {a : Option Addr} {n c : Nat} {x : Int × Int} {r : List (Int × Int)} (h : SpF w F a n c (x :: r)) : ∃ b off m, a = some ⟨b, off, none⟩ ∧ n = m + 1 ∧ r.length = m ∧ m + 1 ≤ c ∧ c ≤ maxLen ∧ w.cell? ⟨b, off, none⟩ = some (.int .i64 x.1) ∧ w.cell? ⟨b, off + 1, none⟩ = some (.int .i64 x.2) := by
  obtain ⟨b, off, e, h0, h1⟩ := h.sp.cells 0 x rfl
  have hn := h.sp.n
  have hle := h.sp.le
  rw [List.length_cons] at hn
  exact ⟨b, off, n - 1, e, by omega, by omega, by omega, h.sp.big, h0, h1⟩
theorem SpF.nil {w : World} {F : Nat → Prop} {a : Option Addr} {n c : Nat} (h : SpF w F a n c []) : n = 0 := h.sp.n.symm

/-- Spans that may be rise. -/
theorem spans_rise : ∀ (A : List (Int × Int)) (last : Int) (x : Int × Int) (R : List (Int × Int)), spansFrom last (A ++ x :: R) = true → (0 ≤ x.1 ∧ 1 ≤ x.2 ∧ x.1 + x.2 ≤ 20000) ∧ spansFrom (x.1 - 1) (x :: R) = true
  | [], last, (f, n), R, h => by
    rw [List.nil_append, spansFrom_cons] at h
    simp only [Bool.and_eq_true, decide_eq_true_eq] at h
    obtain ⟨h1, h2⟩ := h
    refine ⟨by dsimp only; omega, ?_⟩
    rw [spansFrom_cons]
    simp only [Bool.and_eq_true, decide_eq_true_eq]
    exact ⟨by omega, h2⟩
  | (f, n) :: A, last, x, R, h => by
    rw [List.cons_append, spansFrom_cons] at h
    simp only [Bool.and_eq_true] at h
    exact spans_rise A _ x R h.2
theorem hasPl_append (a b : List (Int × Int)) (i : Nat) : hasPl (a ++ b) i = (hasPl a i || hasPl b i) := by unfold hasPl; rw [List.any_append]
theorem hasPl_one (x : Int × Int) (i : Nat) : hasPl [x] i = decide (x.1 ≤ (i : Int) ∧ (i : Int) < x.1 + x.2) := by simp [hasPl]
theorem hasPl_ahead {a : List (Int × Int)} {p : Nat} (h : ∀ x ∈ a, x.1 + x.2 ≤ p) (i : Nat) (hi : p ≤ i) : hasPl a i = false := by
  unfold hasPl
  rw [List.any_eq_false]
  intro x hx
  have := h x hx
  simp; omega
/-- Spans from a place on have no place ahead of it. -/
theorem hasPl_behind {A R : List (Int × Int)} {x : Int × Int} {last : Int} (h : spansFrom last (A ++ x :: R) = true) (i : Nat) (hi : (i : Int) < x.1) : hasPl (x :: R) i = false :=
  hasPl_past (x :: R) (x.1 - 1) i (spans_rise A last x R h).2 (by omega)
/-- A cell of a block is gone. -/
theorem own_gone {w : World} {P : Nat → Bool} {c : List CellV} {gc capc n i : Nat} (h : w.ownsRow 0 47 5 (.slice (some ⟨gc, 0, none⟩) n capc) n (flat CellV.cs (markP P c))) (hn : n = c.length) (hi : i < n) :
    (w.setCell ⟨gc, i * 5 + 4, none⟩ (.bool true)).ownsRow 0 47 5 (.slice (some ⟨gc, 0, none⟩) n capc) n (flat CellV.cs (markP (fun j => P j || decide (j = i)) c)) := by
  rcases ownsRow_blk h with ⟨e, _, _⟩ | ⟨g, cap, more, e, _, hb, h1, h2, h3⟩
  · cases e
  cases e
  obtain ⟨y, hy⟩ : ∃ y, (markP P c)[i]? = some y := ⟨(markP P c)[i]'(by rw [markP_len]; omega), by simp⟩
  obtain ⟨x, hx⟩ : ∃ x, c[i]? = some x := ⟨c[i]'(by omega), by simp⟩
  have e : (markP P c).set i (goneC y) = markP (fun j => P j || decide (j = i)) c := by
    rw [markP_set P c i x hx]
    rw [markP_get, hx] at hy
    simp only [Option.map_some, Option.some.injEq] at hy
    subst hy
    split <;> rfl
  have hb' := hb.set (i * 5 + 4) (.bool true)
  rw [flat_gone _ _ y hy, e] at hb'
  have l1 : (flat CellV.cs (markP (fun j => P j || decide (j = i)) c)).length = n * 5 := by rw [flat_length CellV.len, markP_len, hn]
  have l2 : (flat CellV.cs (markP P c)).length = n * 5 := by rw [flat_length CellV.len, markP_len, hn]
  exact blk_ownsRow (Nat.zero_le _) hb' l1 h1 h2 (by omega)
theorem own_form {w : World} {v : Value} {n : Nat} {xs : List Value} (h : w.ownsRow 0 47 5 v n xs) (hn : 0 < n) : ∃ g cap, v = .slice (some ⟨g, 0, none⟩) n cap ∧ n ≤ cap ∧ cap ≤ maxLen ∧ g < w.heap.size ∧ (∀ j, j < n * 5 → (w.cell? ⟨g, j, none⟩).isSome = true) ∧ ∀ j, w.frozen? ⟨g, j, none⟩ = false := by
  have hl := h.1
  rcases ownsRow_blk h with ⟨_, h0, _⟩ | ⟨g, cap, more, e, _, hb, h1, h2, h3⟩
  · omega
  · refine ⟨g, cap, e, h1, h2, hb.lt, fun j hj => ?_, fun j => hb.frozen j⟩
    rw [hb.cell, List.getElem?_append_left (by omega)]
    rw [List.getElem?_eq_getElem (by omega)]; rfl
end Go.Proofs.YtlidmajcdjlcnaaGreatDoor

namespace Go.Proofs.YtlidmajcdjlcnaaGreatDoor
open Go.RowKit Go.Shelf Go.Mine

set_option maxHeartbeats 4000000 in
set_option maxRecDepth 1000000 in
theorem mark_any (w : World) (D MB : Nat) (v : Value) (bl : List BV) (sa : Option Addr) (slen scap : Nat) (l : List (Int × Int)) (h : DocV w D v MB bl) (hlen : (cellsOf bl).length ≤ 1099511627776)
    (hs : SpF w (foot D v bl) sa slen scap l) (hok : spansOk l = true) :
    Calls Tryz.prog 118 #[.pointer (some ⟨D, 0, none⟩), .slice sa slen scap] w fun e w' => e = .returned (.tuple #[]) ∧ Mod (foot D v bl) w w' ∧ DocV w' D v MB (markBl l 0 bl) := by
  obtain ⟨F, hF⟩ : ∃ F, F = foot D v bl := ⟨_, rfl⟩
  rw [← hF] at hs ⊢
  obtain ⟨va, vc, rfl, hvc, hvm⟩ := h.form
  unfold maxLen at hvm
  have cd : w.cell? ⟨D, 0, none⟩ = some (.slice va bl.length vc) := h.doc.cell 0
  have H := Lib.hid (show DocV w D (.slice va bl.length vc) MB (markBl l 0 (bl.take 0) ++ bl.drop 0) from h)
  have HS := Lib.hid hs
  have HOK := Lib.hid hok
  have HF := Lib.hid hF
  have HP := Lib.hid (show ∃ pre : List (Int × Int), l = pre ++ l ∧ ∀ x ∈ pre, x.1 + x.2 ≤ ((cellsOf (bl.take 0)).length : Int) from ⟨[], rfl, by simp⟩)
  clear h hs hok hF
  go_enter Tryz.func118, Tryz.ntmps118
  go_wp2_with fail
  go_loopg [1, 4, 16] bl.length (fun g s1 s4 s16 wx => ∃ (k n' c' : Nat) (a' : Option Addr) (r : List (Int × Int)), g = bl.length - k ∧ s1 = .slice a' n' c' ∧ s4 = .int .i64 ((cellsOf (bl.take k)).length : Int) ∧ s16 = .int .i64 k ∧ k ≤ bl.length ∧ Mod F w wx ∧ RowKit.Hid (SpF wx F a' n' c' r) ∧ RowKit.Hid (∃ pre, l = pre ++ r ∧ ∀ x ∈ pre, x.1 + x.2 ≤ ((cellsOf (bl.take k)).length : Int)) ∧ RowKit.Hid (DocV wx D (.slice va bl.length vc) MB (markBl l 0 (bl.take k) ++ bl.drop k)))
  case atStart => exact ⟨0, slen, scap, sa, l, rfl, rfl, rfl, rfl, Nat.zero_le _, Mod.refl _ _, HS, HP, H⟩
  case round =>
    obtain ⟨k, n', c', a', r, rfl, rfl, rfl, rfl, hk, mx, hsp, hpre, hdoc⟩ := hrel
    have MX := Lib.hid mx
    by_cases hlk : k < bl.length
    · obtain ⟨x, hx⟩ : ∃ x, bl[k]? = some x := ⟨bl[k]'hlk, by simp⟩
      have hdr : bl.drop k = x :: bl.drop (k + 1) := by
        obtain ⟨hk', e⟩ := List.getElem?_eq_some_iff.1 hx
        rw [List.drop_eq_getElem_cons hk', e]
      have hdx := hdoc.out
      rw [hdr] at hdx
      have hLx : (markBl l 0 (bl.take k) ++ x :: bl.drop (k + 1))[k]? = some x := by
        have e : (markBl l 0 (bl.take k)).length = k := by rw [markBl_len, List.length_take]; omega
        rw [List.getElem?_append_right (by omega), e, Nat.sub_self]; rfl
      obtain ⟨g, rfl, c0⟩ := hdx.at_ hLx
      have hxm : x ∈ markBl l 0 (bl.take k) ++ x :: bl.drop (k + 1) := by simp
      have hbx := hdx.blk x hxm
      have b0 : wr.cell? ⟨x.p, 0, none⟩ = some (.int .i64 (x.c.length : Int)) := by rw [hbx.b.cell]; rfl
      have b2 : wr.cell? ⟨x.p, 2, none⟩ = some x.v := by rw [hbx.b.cell]; rfl
      have hs1 := cellsOf_step hx
      have e1 : (cellsOf bl).length = (cellsOf (bl.take k)).length + (x.c.length + (cellsOf (bl.drop (k + 1))).length) := by rw [hs1]; simp
      obtain ⟨p, hp⟩ : ∃ p, p = (cellsOf (bl.take k)).length := ⟨_, rfl⟩
      rw [← hp] at hpre e1 ⊢
      obtain ⟨n, hn⟩ : ∃ n, n = x.c.length := ⟨_, rfl⟩
      rw [← hn] at b0 e1
      have hpn : p + n ≤ 1099511627776 := by omega
      have HDX := Lib.hid hdx
      have HBX := Lib.hid hbx
      have HX := Lib.hid hx
      have HPP := Lib.hid hp
      have HN := Lib.hid hn
      have HDR := Lib.hid hdr
      clear hdx hbx hx hdr hLx hxm hs1 e1 hp hn mx
      obtain ⟨wo, rfl⟩ : ∃ wo : World, wo = wr := ⟨_, rfl⟩
      clear cd
      go_upto_block 2 with fail
      go_cut [1, 16] from 16 to 104 (fun s1 s16 wx => s16 = .int .i64 k ∧ ∃ (n2 c2 : Nat) (a2 : Option Addr) (r2 : List (Int × Int)), s1 = .slice a2 n2 c2 ∧ Mod none_ wo wx ∧ RowKit.Hid (SpF wo F a2 n2 c2 r2) ∧ RowKit.Hid (∃ pre, l = pre ++ r2 ∧ ∀ x ∈ pre, x.1 + x.2 ≤ (p : Int)))
      case first =>
        go_wp2_with fail
        go_loopg [1] n' (fun g' s1 wx => ∃ (n2 c2 : Nat) (a2 : Option Addr) (r2 : List (Int × Int)), n2 = g' ∧ s1 = .slice a2 n2 c2 ∧ Mod none_ wo wx ∧ RowKit.Hid (SpF wo F a2 n2 c2 r2) ∧ RowKit.Hid (∃ pre, l = pre ++ r2 ∧ ∀ x ∈ pre, x.1 + x.2 ≤ (p : Int)))
        case atStart => exact ⟨n', c', a', r, rfl, rfl, Mod.refl _ _, hsp, hpre⟩
        case round =>
          obtain ⟨n2, c2, a2, r2, rfl, rfl, my, hsp2, hpre2⟩ := hrel
          have MY := Lib.hid my
          cases r2 with
          | nil =>
            have h0 := hsp2.out.nil
            have hd : decide (0 < n2) = false := by simp [h0]
            have hd2 : decide ((0 : Int) < (n2 : Int)) = false := by simp [h0]
            clear h0
            go_wp2_with fail
            go_quiet (fail)
            go_wp2_with fail
            go_meet
            exact ⟨rfl, n2, c2, a2, [], rfl, MY.out.drewN _, hsp2, hpre2⟩
          | cons y r2 =>
            obtain ⟨b, off, m, rfl, rfl, hrl, hmc, hcm, y0, y1⟩ := hsp2.out.head
            unfold maxLen at hcm
            have hd : decide (0 < m + 1) = true := by simp
            have hd2 : decide ((0 : Int) < ((m + 1 : Nat) : Int)) = true := by simp
            have y0' := my.cell (fun e => e) y0
            have y1' := my.cell (fun e => e) y1
            obtain ⟨f, nn⟩ := y
            dsimp only at y0 y1 y0' y1'
            have hfn : 0 ≤ f ∧ 1 ≤ nn ∧ f + nn ≤ 20000 := by
              obtain ⟨pre, e, _⟩ := hpre2.out
              have := HOK.out
              unfold spansOk at this
              rw [e] at this
              exact (spans_rise _ _ _ _ this).1
            have hw : IntKind.i64.wrap (f + nn) = f + nn := by rw [IntKind.wrap_i64]; omega
            by_cases hle : f + nn ≤ (p : Int)
            · have hd3 : decide (f + nn ≤ (p : Int)) = true := by simpa using hle
              have HN2 := Lib.hid (show ∃ pre, l = pre ++ r2 ∧ ∀ x ∈ pre, x.1 + x.2 ≤ (p : Int) by
                obtain ⟨pre, e, hh⟩ := hpre2.out
                refine ⟨pre ++ [(f, nn)], by rw [e]; simp, fun x hx => ?_⟩
                rcases List.mem_append.1 hx with hx | hx
                · exact hh x hx
                · rw [List.mem_singleton.1 hx]; exact hle)
              have HT := Lib.hid hsp2.out.tail
              clear y0 y1 my hsp2 hpre2
              by_cases hc1 : c2 = 1
              · subst hc1
                have hs3 := Lib.hid (HT.out.1 rfl)
                go_wp2_with fail
                go_quiet (fail)
                go_wp2_with fail
                go_roundg m
                case measure => omega
                case rel => exact ⟨m, 0, _, r2, rfl, by rw [show m = 0 by omega], MY.out.drewN _, hs3, HN2⟩
              · have hs3 := Lib.hid (HT.out.2 hc1)
                go_wp2_with fail
                go_quiet (fail)
                go_wp2_with fail
                go_roundg m
                case measure => omega
                case rel => exact ⟨m, c2 - 1, _, r2, rfl, rfl, MY.out.drewN _, hs3, HN2⟩
            · have hd3 : decide (f + nn ≤ (p : Int)) = false := by simpa using hle
              clear y0 y1 my
              go_wp2_with fail
              go_quiet (fail)
              go_wp2_with fail
              go_meet
              exact ⟨rfl, m + 1, c2, _, _, rfl, MY.out.drewN _, hsp2, hpre2⟩
      case rest =>
        obtain ⟨rfl, n2, c2, a2, r2, rfl, my, hsp2, hpre2⟩ := hcut
        obtain ⟨w5, rfl⟩ : ∃ w5 : World, w5 = wc := ⟨_, rfl⟩
        obtain ⟨O, hO⟩ : ∃ O : Nat → Prop, O = fun b => x.v.ownBlock = some b := ⟨_, rfl⟩
        have hOF : ∀ b, O b → F b := by
          intro b hb
          rw [hO] at hb
          rw [HF.out]
          exact .inr (.inr ⟨x, List.mem_of_getElem? HX.out, .inr hb⟩)
        have HOF := Lib.hid hOF
        have HO := Lib.hid hO
        have c0' := my.cell (fun e => e) c0
        have x0 := my.cell (fun e => e) b0
        have x2 := my.cell (fun e => e) b2
        have HB0 := Lib.hid (HBX.out.mod my (fun e => e) (fun _ _ e => e))
        have HS2 := Lib.hid (hsp2.out.mod my (fun _ e => e.elim))
        have MXC := Lib.hid (MX.out.trans (my.mono (T := F) (fun _ _ e => e.elim)))
        have HD2 := Lib.hid (HDX.out.grown my)
        have h0 : x.c = markS [] p x.c := by unfold markS; rw [markP_none]; intro i _; rfl
        have HR0 := Lib.hid (show ∃ pre, l = pre ++ r2 ∧ w5.ownsRow 0 47 5 x.v n (flat CellV.cs (markS pre p x.c)) by
          obtain ⟨pre, e, hh⟩ := hpre2.out
          refine ⟨pre, e, ?_⟩
          have : markS pre p x.c = x.c := by
            unfold markS
            rw [markP_none]
            intro i _
            exact hasPl_ahead hh _ (by omega)
          rw [this, HN.out]
          exact HB0.out.o)
        have HPRE := hpre2
        clear hO hOF c0 b0 b2 my hsp2 hpre2 h0
        go_upto_block 4 with fail
        go_cut [7, 8, 9, 10, 16] from 16 to 104 (fun s7 s8 s9 s10 s16 wx => s16 = .int .i64 k ∧ Mod O w5 wx ∧ RowKit.Hid (wx.ownsRow 0 47 5 x.v n (flat CellV.cs (markS l p x.c))))
        case first =>
          go_wp2_with fail
          go_loopg [7, 8, 9, 10] n2 (fun g' s7 s8 s9 s10 wx => ∃ (n3 c3 : Nat) (a3 : Option Addr) (r3 : List (Int × Int)), n3 = g' ∧ s7 = .slice a3 n3 c3 ∧ Mod O w5 wx ∧ RowKit.Hid (SpF wx F a3 n3 c3 r3) ∧ RowKit.Hid (∃ pre, l = pre ++ r3 ∧ wx.ownsRow 0 47 5 x.v n (flat CellV.cs (markS pre p x.c))))
          case atStart => exact ⟨n2, c2, a2, r2, rfl, rfl, Mod.refl _ _, HS2, HR0⟩
          case round =>
            obtain ⟨n3, c3, a3, r3, rfl, rfl, mz, hsp3, hpre3⟩ := hrel
            have hxO : ¬ O x.p := fun e => by
              rw [HO.out] at e
              obtain ⟨cs, hc⟩ := HB0.out.apart_arr e
              exact Blk.apart HB0.out.b hc (by decide) rfl
            have z0 := mz.cell hxO x0
            have z2 := mz.cell hxO x2
            have MZ := Lib.hid mz
            cases r3 with
            | nil =>
              have h0 := hsp3.out.nil
              have hd : decide (0 < n3) = false := by simp [h0]
              have hd2 : decide ((0 : Int) < (n3 : Int)) = false := by simp [h0]
              have FIN := Lib.hid (show wr.ownsRow 0 47 5 x.v n (flat CellV.cs (markS l p x.c)) by
                obtain ⟨pre, e, hh⟩ := hpre3.out
                rw [List.append_nil] at e
                rw [e]; exact hh)
              clear h0 mz hxO
              go_wp2_with fail
              go_quiet (fail)
              go_wp2_with fail
              go_meet
              exact ⟨rfl, MZ.out.drewN _, Lib.hid (ownsRow_mod FIN.out ((Mod.refl none_ wr).drewN _) (fun _ _ e => e))⟩
            | cons y r3 =>
              obtain ⟨b, off, m, rfl, rfl, hrl, hmc, hcm, y0, y1⟩ := hsp3.out.head
              unfold maxLen at hcm
              have hd : decide (0 < m + 1) = true := by simp
              have hd2 : decide ((0 : Int) < ((m + 1 : Nat) : Int)) = true := by simp
              obtain ⟨f, nn⟩ := y
              dsimp only at y0 y1
              have hfn : 0 ≤ f ∧ 1 ≤ nn ∧ f + nn ≤ 20000 := by
                obtain ⟨pre, e, _⟩ := hpre3.out
                have := HOK.out
                unfold spansOk at this
                rw [e] at this
                exact (spans_rise _ _ _ _ this).1
              have hw : IntKind.i64.wrap ((p : Int) + n) = (p : Int) + n := by rw [IntKind.wrap_i64]; omega
              by_cases hle : f < (p : Int) + n
              · have hd3 : decide (f < (p : Int) + n) = true := by simpa using hle
                go_wp2_with fail
                go_quiet (fail)
                go_wp2_with fail
                generalize hwq : wr.drewN nq = wq
                have q0 : wq.cell? ⟨x.p, 0, none⟩ = some (.int .i64 (n : Int)) := by rw [← hwq]; exact ((Mod.refl none_ wr).drewN nq).cell (fun e => e) z0
                have q2 : wq.cell? ⟨x.p, 2, none⟩ = some x.v := by rw [← hwq]; exact ((Mod.refl none_ wr).drewN nq).cell (fun e => e) z2
                have q3 : wq.cell? ⟨b, off, none⟩ = some (.int .i64 f) := by rw [← hwq]; exact ((Mod.refl none_ wr).drewN nq).cell (fun e => e) y0
                have q4 : wq.cell? ⟨b, off + 1, none⟩ = some (.int .i64 nn) := by rw [← hwq]; exact ((Mod.refl none_ wr).drewN nq).cell (fun e => e) y1
                have MQ : RowKit.Hid (Mod O w5 wq) := by rw [← hwq]; exact Lib.hid (MZ.out.drewN nq)
                have HSQ : RowKit.Hid (SpF wq F (some ⟨b, off, none⟩) (m + 1) c3 ((f, nn) :: r3)) := by rw [← hwq]; exact Lib.hid (hsp3.out.mod ((Mod.refl none_ wr).drewN nq) (fun _ e => e.elim))
                have HPQ : RowKit.Hid (∃ pre, l = pre ++ (f, nn) :: r3 ∧ wq.ownsRow 0 47 5 x.v n (flat CellV.cs (markS pre p x.c))) := by
                  obtain ⟨pre, e, hh⟩ := hpre3.out
                  refine Lib.hid ⟨pre, e, ?_⟩
                  rw [← hwq]; exact ownsRow_mod hh ((Mod.refl none_ wr).drewN nq) (fun _ _ e => e)
                clear hwq z0 z2 y0 y1 mz hpre3 hsp3 MZ hd3 hd hd2 hw
                have hw1 : IntKind.i64.wrap (f - (p : Int)) = f - (p : Int) := by rw [IntKind.wrap_i64]; omega
                have hw2 : IntKind.i64.wrap (f + nn) = f + nn := by rw [IntKind.wrap_i64]; omega
                have hw3 : IntKind.i64.wrap (f + nn - (p : Int)) = f + nn - (p : Int) := by rw [IntKind.wrap_i64]; omega
                go_quiet (fail)
                go_wp2_with fail
                clear q0 q3 q4 hw1 hw2 hw3
                generalize hwk : wq.drewN nq = wk
                have k2 : wk.cell? ⟨x.p, 2, none⟩ = some x.v := by rw [← hwk]; exact ((Mod.refl none_ wq).drewN nq).cell (fun e => e) q2
                have MK := Lib.hid (show Mod O w5 wk by rw [← hwk]; exact MQ.out.drewN nq)
                have HSK := Lib.hid (show SpF wk F (some ⟨b, off, none⟩) (m + 1) c3 ((f, nn) :: r3) by rw [← hwk]; exact HSQ.out.mod ((Mod.refl none_ wq).drewN nq) (fun _ e => e.elim))
                obtain ⟨pre, hpe, hrq⟩ := HPQ.out
                have HPE := Lib.hid hpe
                obtain ⟨fr, hfr⟩ : ∃ fr : Nat, max (f - (p : Int)) 0 = (fr : Int) := ⟨(max (f - (p : Int)) 0).toNat, by omega⟩
                rw [hfr]
                generalize hT : min (f + nn - (p : Int)) (n : Int) = T
                have HRK := Lib.hid (show wk.ownsRow 0 47 5 x.v n (flat CellV.cs (markP (fun j => hasPl pre (p + j) || decide (fr ≤ j ∧ j < fr)) x.c)) by
                  rw [← hwk]
                  have e : markP (fun j => hasPl pre (p + j) || decide (fr ≤ j ∧ j < fr)) x.c = markS pre p x.c := markP_congr (fun i _ => by
                    have : decide (fr ≤ i ∧ i < fr) = false := by simp
                    rw [this, Bool.or_false])
                  rw [e]; exact ownsRow_mod hrq ((Mod.refl none_ wq).drewN nq) (fun _ _ e => e))
                have HFT := Lib.hid (show max (f - (p : Int)) 0 = (fr : Int) ∧ min (f + nn - (p : Int)) (n : Int) = T from ⟨hfr, hT⟩)
                have hfrb : (fr : Int) ≤ 20000 := by omega
                have hTn : T ≤ n := by omega
                clear hwk q2 hpe hrq hfr hT MQ HSQ HPQ
                go_loopg [10] (T - fr).toNat (fun g' s10 wx => ∃ i : Nat, g' = (T - i).toNat ∧ s10 = .int .i64 i ∧ (i = fr ∨ (i : Int) ≤ T) ∧ fr ≤ i ∧ Mod O wk wx ∧ RowKit.Hid (wx.ownsRow 0 47 5 x.v n (flat CellV.cs (markP (fun j => hasPl pre (p + j) || decide (fr ≤ j ∧ j < i)) x.c))))
                case atStart => exact ⟨fr, rfl, rfl, .inl rfl, Nat.le_refl _, Mod.refl _ _, HRK⟩
                case round =>
                  obtain ⟨i, rfl, rfl, hi1, hi2, mi, hri⟩ := hrel
                  have i2 := mi.cell hxO k2
                  have MI := Lib.hid mi
                  have hib : (i : Int) ≤ 1099511627776 := by omega
                  by_cases hlt : (i : Int) < T
                  · have hd4 : decide ((i : Int) < T) = true := by simpa using hlt
                    have hin : i < n := by omega
                    obtain ⟨gc, capc, hv, hc1, hc2, hgl, hce, hfz⟩ := own_form hri.out (by omega)
                    rw [hv] at i2
                    unfold maxLen at hc2
                    obtain ⟨old, hold⟩ := Option.isSome_iff_exists.1 (hce (i * 5 + 4) (by omega))
                    have hfi := hfz (i * 5 + 4)
                    have hin2 : (i : Int) < (n : Int) := by omega
                    have E := Lib.hid (show (wr.setCell ⟨gc, i * 5 + 4, none⟩ (.bool true)).ownsRow 0 47 5 x.v n (flat CellV.cs (markP (fun j => hasPl pre (p + j) || decide (fr ≤ j ∧ j < i + 1)) x.c)) by
                      have hh := hri.out
                      rw [hv] at hh ⊢
                      have := own_gone hh HN.out hin
                      have e : markP (fun j => hasPl pre (p + j) || decide (fr ≤ j ∧ j < i + 1)) x.c = markP (fun j => (hasPl pre (p + j) || decide (fr ≤ j ∧ j < i)) || decide (j = i)) x.c := markP_congr (fun j _ => by
                        rw [Bool.or_assoc]
                        congr 1
                        rw [Bool.eq_iff_iff]
                        simp; omega)
                      rw [e]; exact this)
                    have ME := Lib.hid (show Mod O wk (wr.setCell ⟨gc, i * 5 + 4, none⟩ (.bool true)) from mi.setCell _ (fun _ => by rw [HO.out]; show x.v.ownBlock = _; rw [hv]; rfl) _)
                    clear hfz hce mi hri
                    go_wp2_with fail
                    go_roundg (T - ((i + 1 : Nat) : Int)).toNat
                    case measure => omega
                    case rel => exact ⟨i + 1, rfl, by go_num, by omega, by omega, ME.out, E⟩
                  · have hd4 : decide ((i : Int) < T) = false := by simpa using hlt
                    have HT := Lib.hid (HSK.out.mod mi HOF.out).tail
                    have hft := HFT.out
                    have HPR := Lib.hid (show ∃ pre, l = pre ++ r3 ∧ wr.ownsRow 0 47 5 x.v n (flat CellV.cs (markS pre p x.c)) by
                      refine ⟨pre ++ [(f, nn)], by rw [HPE.out]; simp, ?_⟩
                      have e : markS (pre ++ [(f, nn)]) p x.c = markP (fun j => hasPl pre (p + j) || decide (fr ≤ j ∧ j < i)) x.c := by
                        unfold markS
                        refine markP_congr (fun j hj => ?_)
                        rw [← HN.out] at hj
                        rw [hasPl_append, hasPl_one]
                        congr 1
                        rw [Bool.eq_iff_iff]
                        simp; omega
                      rw [e]; exact hri.out)
                    have MII := Lib.hid (MK.out.trans mi)
                    clear hri mi hft hlt
                    by_cases hc1 : c3 = 1
                    · subst hc1
                      have hs3 := Lib.hid (HT.out.1 rfl)
                      go_wp2_with fail
                      go_roundg m
                      case measure => omega
                      case rel => exact ⟨m, 0, _, r3, rfl, by rw [show m = 0 by omega], MII.out, hs3, HPR⟩
                    · have hs3 := Lib.hid (HT.out.2 hc1)
                      go_wp2_with fail
                      go_roundg m
                      case measure => omega
                      case rel => exact ⟨m, c3 - 1, _, r3, rfl, rfl, MII.out, hs3, HPR⟩
              · have hd3 : decide (f < (p : Int) + n) = false := by simpa using hle
                have FIN := Lib.hid (show wr.ownsRow 0 47 5 x.v n (flat CellV.cs (markS l p x.c)) by
                  obtain ⟨pre, e, hh⟩ := hpre3.out
                  have : markS l p x.c = markS pre p x.c := by
                    unfold markS
                    refine markP_congr (fun i hi => ?_)
                    rw [← HN.out] at hi
                    have hok := HOK.out
                    unfold spansOk at hok
                    rw [e] at hok ⊢
                    rw [hasPl_append, hasPl_behind hok (p + i) (by dsimp only; omega), Bool.or_false]
                  rw [this]; exact hh)
                clear mz hxO
                go_wp2_with fail
                go_quiet (fail)
                go_wp2_with fail
                go_meet
                exact ⟨rfl, MZ.out.drewN _, Lib.hid (ownsRow_mod FIN.out ((Mod.refl none_ wr).drewN _) (fun _ _ e => e))⟩
        case rest =>
          obtain ⟨rfl, mz, hrow⟩ := hcut
          obtain ⟨w8, rfl⟩ : ∃ w8 : World, w8 = wc := ⟨_, rfl⟩
          have hxO : ¬ O x.p := fun e => by
            rw [HO.out] at e
            obtain ⟨cs, hc⟩ := HB0.out.apart_arr e
            exact Blk.apart HB0.out.b hc (by decide) rfl
          have z0 := mz.cell hxO x0
          have z2 := mz.cell hxO x2
          have kz := Lib.hid (HB0.out.b.mod mz hxO)
          have hno : x.v.ownBlock ≠ some x.p := fun e => hxO (by rw [HO.out]; exact e)
          have MZ := Lib.hid mz
          have HNO := Lib.hid hno
          have hmn : (markS l p x.c).length = n := by rw [markS_len, HN.out]
          have HMN := Lib.hid hmn
          clear hxO x0 x2 mz hno hmn
          go_wp2_with fail
          refine (count_any w8 x.p 0 _ _ x.v n (markS l p x.c) (by have := kz.out; exact this) hrow.out HNO.out HMN.out (by omega)).mono ?_
          rintro e w9 ⟨rfl, kc, mc⟩
          have HROW := Lib.hid (ownsRow_mod hrow.out mc (fun g hg e => HNO.out (by have e' : g = x.p := e; rw [hg, e'])))
          have E1 := Lib.hid (show ((cellsOf (bl.take (k + 1))).length : Int) = (p : Int) + n by
            rw [cellsOf_succ HX.out, List.length_append, HPP.out, HN.out]; simp)
          have hxb : x ∈ bl := List.mem_of_getElem? HX.out
          have m59 : Mod (fun b => b = x.p ∨ x.v.ownBlock = some b) w5 w9 := (MZ.out.mono (fun b _ hb => .inr (by rw [HO.out] at hb; exact hb))).trans (mc.mono (fun b _ hb => .inl hb))
          have hxF : ∀ b, (b = x.p ∨ x.v.ownBlock = some b) → F b := by
            intro b hb
            rw [HF.out]
            exact .inr (.inr ⟨x, hxb, hb⟩)
          have MF := Lib.hid (MXC.out.trans (m59.mono (fun b _ => hxF b)))
          have SF := Lib.hid (HS2.out.mod m59 hxF)
          have PF := Lib.hid (show ∃ pre, l = pre ++ r2 ∧ ∀ x ∈ pre, x.1 + x.2 ≤ ((cellsOf (bl.take (k + 1))).length : Int) by
            obtain ⟨pre, e, hh⟩ := HPRE.out
            exact ⟨pre, e, fun y hy => by have := hh y hy; rw [E1.out]; omega⟩)
          have DF := Lib.hid (show DocV w9 D (.slice (some ⟨g, 0, none⟩) bl.length vc) MB (markBl l 0 (bl.take (k + 1)) ++ bl.drop (k + 1)) by
            have hy : BlkV w9 ⟨x.p, x.v, markS l p x.c⟩ := ⟨by rw [HMN.out]; exact kc, by rw [HMN.out]; exact HROW.out⟩
            have := HD2.out.upd (y := ⟨x.p, x.v, markS l p x.c⟩) m59 hy rfl (fun g hg => .inl hg)
            obtain ⟨hk', e⟩ := List.getElem?_eq_some_iff.1 HX.out
            rw [List.take_succ_eq_append_getElem hk', e, markBl_append, Nat.zero_add, ← HPP.out, List.append_assoc]
            exact this)
          clear kc mc m59 hxF hxb
          go_wp2_with fail
          go_roundg (bl.length - (k + 1))
          case measure => omega
          case rel => exact ⟨k + 1, n2, c2, a2, r2, rfl, rfl, by rw [E1.out], by go_num, by omega, MF.out, SF, PF, DF⟩
    · obtain rfl : k = bl.length := by omega
      have DF := Lib.hid (show DocV wr D (.slice va bl.length vc) MB (markBl l 0 bl) by
        have := hdoc.out
        rw [List.take_length, List.drop_length, List.append_nil] at this
        exact this)
      clear hdoc mx
      go_wp2_with fail
      go_end0
      exact ⟨rfl, MX.out, DF.out⟩

end Go.Proofs.YtlidmajcdjlcnaaGreatDoor

namespace Go.Proofs.YtlidmajcdjlcnaaGreatDoor
open Go.RowKit Go.Shelf Go.Mine
open Classical

/-- The parts, behind i cells that lie in them. -/
def PartI (w : World) (a : Option Addr) (len cap : Nat) (l : List CellV) (D bs bn : Nat) (i : Nat) (W : World) : Prop :=
  Mod none_ w W ∧ Blk W bs [.slice a len cap] 22 ∧ Blk W bn [.int .i64 64] 3 ∧
    ∃ v bl, Blk W D [v] 137 ∧ DocBs W w.heap.size v bl ∧ bl.flatMap Prod.snd = l.take i ∧ bl.length * 64 = i ∧ Apart W bl ∧ ∀ y ∈ bl, y.2 ≠ []
theorem PartI.stable {w : World} {a : Option Addr} {len cap : Nat} {l : List CellV} {D bs bn B : Nat} (hB : w.heap.size ≤ B) (i : Nat) (W W' : World) (h : PartI w a len cap l D bs bn i W) (m : Mod (loopOwn B W) W W') : PartI w a len cap l D bs bn i W' := by
  obtain ⟨m0, k2, k3, v, bl, kd, hdb, e, e2, hap⟩ := h
  exact ⟨m0.transOwn m hB, k2.own m, k3.own m, v, bl, kd.own m, hdb.own m, e, e2, hap.1.mod hdb.2 m (fun k cs hk s => by have := s.2 _ hk; cases this), hap.2⟩

/-- What append and newBlock leave behind them. -/
theorem partArm {w W w3 : World} {D p nb vc : Nat} {va : Option Addr} {ptrs : List Value} (ho : W.ownsRow w.heap.size 141 1 (.slice va nb vc) nb ptrs) (hnb : nb ≤ 1099511627776) (hB : w.heap.size ≤ W.heap.size) (m3 : Mod none_ W.drew w3)
    (kd : Blk W D [.slice va nb vc] 137) :
    ∃ va' vc' w4, (appSem #[137, 137] 137 #[.slice va nb vc, .slice (some ⟨w3.heap.size, 0, none⟩) 1 1]).run Tryz.prog (w3.alloc (.cells #[.pointer (some ⟨p, 0, none⟩)] 141)) = .ok (.slice va' (nb + 1) vc') w4 ∧
      w4.ownsRow w.heap.size 141 1 (.slice va' (nb + 1) vc') (nb + 1) (ptrs ++ [.pointer (some ⟨p, 0, none⟩)]) ∧ Mod (fun k => (Value.slice va nb vc).ownBlock = some k) w3 w4 ∧ Blk w4 D [.slice va nb vc] 137 := by
  have hsz : W.heap.size ≤ w3.heap.size := m3.size
  obtain ⟨va', vc', w4, hrun, hown, hgrow⟩ := appPtr (p := p) (ownsRow_mod ho ((Mod.drew (Mod.refl none_ W)).trans m3) (fun _ _ e => e)) hnb (by omega)
  have mg : Mod (fun k => (Value.slice va nb vc).ownBlock = some k) w3 w4 := ((Mod.refl _ w3).alloc (.cells #[.pointer (some ⟨p, 0, none⟩)] 141)).grown hgrow (fun k e _ => e)
  refine ⟨va', vc', w4, hrun, hown, mg, (kd.drew.mod m3 (fun e => e)).mod mg (fun e => ?_)⟩
  obtain ⟨cs, hk⟩ := ownsRow_type ho e
  exact Blk.apart kd hk (by decide) rfl

/-- A round. -/
theorem partEnd {w W w3 w4 : World} {a : Option Addr} {len cap D bs bn x p nb vc vc' : Nat} {va va' : Option Addr} {l : List CellV} {bl : List (Nat × List CellV)} (hD : w.heap.size ≤ D) (hN : l.length = len)
    (m0 : Mod none_ w W) (ks : Blk W bs [.slice a len cap] 22) (kn : Blk W bn [.int .i64 64] 3)
    (ho : W.ownsRow w.heap.size 141 1 (.slice va nb vc) nb (bl.map fun x => .pointer (some ⟨x.1, 0, none⟩))) (hbl : ∀ x ∈ bl, BlkIs W w.heap.size x.1 x.2) (hfl : bl.flatMap Prod.snd = l.take x) (hbn : bl.length * 64 = x) (hap : Apart W bl ∧ ∀ y ∈ bl, y.2 ≠ []) (hxl : x < len) (hnb : nb = bl.length)
    (m3 : Mod none_ W.drew w3) (hB : BlkIs w3 W.drew.heap.size p ((l.drop x).take (min 64 (len - x)))) (hown : w4.ownsRow w.heap.size 141 1 (.slice va' (nb + 1) vc') (nb + 1) ((bl.map fun x => .pointer (some ⟨x.1, 0, none⟩)) ++ [.pointer (some ⟨p, 0, none⟩)]))
    (mg : Mod (fun k => (Value.slice va nb vc).ownBlock = some k) w3 w4) (k4 : Blk w4 D [.slice va nb vc] 137) :
    KeepsOthers W (w4.setCell ⟨D, 0, none⟩ (.slice va' (nb + 1) vc')) ∧ PartI w a len cap l D bs bn (x + 64) (w4.setCell ⟨D, 0, none⟩ (.slice va' (nb + 1) vc')) := by
  have ht : ∀ {k : Nat}, (Value.slice va nb vc).ownBlock = some k → ∃ cs, Blk W k cs 141 := fun e => ownsRow_type ho e
  have m4 : Mod (fun k => (Value.slice va nb vc).ownBlock = some k) W w4 := ((Mod.drew (Mod.refl none_ W)).trans m3).mono (T := fun k => (Value.slice va nb vc).ownBlock = some k) (fun _ _ e => e.elim) |>.trans mg
  have hge : ∀ k, (Value.slice va nb vc).ownBlock = some k → w.heap.size ≤ k := fun k hk => (ho.lt k hk).1
  have ms : Mod (one D) w4 (w4.setCell ⟨D, 0, none⟩ (.slice va' (nb + 1) vc')) := (Mod.refl (one D) w4).setCell ⟨D, 0, none⟩ (fun _ => rfl) _
  have k5 := k4.set 0 (.slice va' (nb + 1) vc')
  have far : ∀ {b : Nat} {cs : List Value} {t : TypeId}, Blk W b cs t → t ≠ 141 → b ≠ D → Blk (w4.setCell ⟨D, 0, none⟩ (.slice va' (nb + 1) vc')) b cs t := fun hb h1 h2 =>
    (hb.mod m4 (fun e => by obtain ⟨cs, hk⟩ := ht e; exact Blk.apart hb hk h1 rfl)).mod ms h2
  have ne : ∀ {b : Nat} {cs : List Value} {t : TypeId}, Blk W b cs t → t ≠ 141 → t ≠ 137 → b ≠ D := fun hb h0 h1 e => by
    subst e
    exact Blk.apart (hb.mod m4 (fun e => by obtain ⟨cs, hk⟩ := ht e; exact Blk.apart hb hk h0 rfl)) k4 h1 rfl
  refine ⟨(keeps_of_mod m4 (fun k hk o ho' => ?_)).trans (KeepsOthers.setCell _ _ _), ?_, far ks (by decide) (ne ks (by decide) (by decide)), far kn (by decide) (ne kn (by decide) (by decide)), .slice va' (nb + 1) vc', bl ++ [(p, (l.drop x).take (min 64 (len - x)))], k5, ⟨?_, ?_⟩, ?_, ?_, ?_, ?_⟩
  · obtain ⟨cs, hb⟩ := ht hk
    unfold Blk at hb
    rw [hb] at ho'
    cases ho'
    rfl
  · exact (m0.transIn m4 (fun k hk e => absurd (hge k e) (by omega))).transIn ms (fun k hk e => by have e' : k = D := e; omega)
  · have e1 : (bl ++ [(p, (l.drop x).take (min 64 (len - x)))]).length = nb + 1 := by simp [hnb]
    rw [e1, List.map_append]
    refine ownsRow_mod hown ms (fun k hk e => ?_)
    have e' : k = D := e
    subst e'
    obtain ⟨cs, hb⟩ := ownsRow_type hown hk
    exact Blk.apart hb k4 (by decide) rfl
  · intro y hy
    rcases List.mem_append.1 hy with hy | hy
    · refine ((hbl y hy).mod m4 (fun k cs t hk ht' e => ?_)).mod ms (fun k cs t hk ht' e => ?_)
      · obtain ⟨cs', hb⟩ := ht e
        exact Blk.apart hk hb (by rcases ht' with rfl | rfl <;> decide) rfl
      · have e' : k = D := e
        subst e'
        exact Blk.apart hk k4 (by rcases ht' with rfl | rfl <;> decide) rfl
    · rw [List.mem_singleton.1 hy]
      have hsz := m0.size
      refine ((hB.base (B' := w.heap.size) hsz).mod mg (fun k cs t hk ht' e => ?_)).mod ms (fun k cs t hk ht' e => ?_)
      · obtain ⟨cs', hb⟩ := ht e
        exact Blk.apart hk ((hb.drew).mod m3 (fun e => e)) (by rcases ht' with rfl | rfl <;> decide) rfl
      · have e' : k = D := e
        subst e'
        exact Blk.apart hk k4 (by rcases ht' with rfl | rfl <;> decide) rfl
  · rw [List.flatMap_append, hfl]
    simp only [List.flatMap_cons, List.flatMap_nil, List.append_nil]
    rw [List.take_add, List.append_cancel_left_eq, List.take_eq_take_iff, List.length_drop]
    omega
  · rw [List.length_append, List.length_singleton]
    omega
  · have keep : ∀ {q : Nat} {cs : List Value}, Blk w3 q cs 145 → (w4.setCell ⟨D, 0, none⟩ (.slice va' (nb + 1) vc')).heap[q]? = w3.heap[q]? := fun {q cs} hq => by
      rw [ms.block q (Nat.lt_of_lt_of_le hq.lt mg.size) (fun e => ?_), mg.block q hq.lt (fun e => ?_)]
      · obtain ⟨cs', hb⟩ := ht e
        exact Blk.apart hq ((hb.drew).mod m3 (fun e => e)) (by decide) rfl
      · have e' : q = D := e
        subst e'
        exact Blk.apart (hq.mod mg (fun e => by obtain ⟨cs', hb⟩ := ht e; exact Blk.apart hq ((hb.drew).mod m3 (fun e => e)) (by decide) rfl)) k4 (by decide) rfl
    have ap3 : Apart w3 bl := Apart.of_heap (W := W) (fun y hy => by obtain ⟨⟨v, k, _⟩, _⟩ := hbl y hy; exact ((Mod.drew (Mod.refl none_ W)).trans m3).block _ k.lt (fun e => e)) hap.1
    have hb3 : ∀ y ∈ bl, BlkIs w3 w.heap.size y.1 y.2 := fun y hy => (hbl y hy).grown ((Mod.drew (Mod.refl none_ W)).trans m3)
    refine List.pairwise_append.2 ⟨Apart.of_heap (W := w3) (fun y hy => by obtain ⟨⟨v, k, _⟩, _⟩ := hb3 y hy; exact keep k) ap3, List.pairwise_singleton _ _, fun y hy z hz => ?_⟩
    rw [List.mem_singleton.1 hz]
    have hlo : W.heap.size ≤ p := hB.lo
    have hy1 := (hbl y hy).lt
    refine ⟨by show y.1 ≠ p; omega, fun g h1 h2 => ?_⟩
    obtain ⟨⟨v1, k1, _⟩, _⟩ := hb3 y hy
    obtain ⟨⟨v2, k2, _⟩, _⟩ := id hB
    have a1 := h1.of_heap (keep k1)
    have a2 := hB.arr (h2.of_heap (keep k2))
    have a3 := (hbl y hy).arr (a1.of_heap (((Mod.drew (Mod.refl none_ W)).trans m3).block _ hy1 (fun e => e)))
    have : W.drew.heap.size = W.heap.size := rfl
    omega
  · intro y hy
    rcases List.mem_append.1 hy with hy | hy
    · exact hap.2 y hy
    · rw [List.mem_singleton.1 hy]
      intro e
      have := congrArg List.length e
      simp only [List.length_take, List.length_drop, List.length_nil, hN] at this
      omega
end Go.Proofs.YtlidmajcdjlcnaaGreatDoor

namespace Go.Proofs.YtlidmajcdjlcnaaGreatDoor
open Go.RowKit Go.Shelf Go.Mine

theorem size_drewN (w : World) : ∀ n : Nat, (w.drewN n).heap.size = w.heap.size
  | 0 => rfl
  | n + 1 => size_drewN w n
/-- What Replace leaves. -/
def RepTo (w : World) (B : Nat) (v : Value) (k : Nat) (l : List Value) (e : Ending) (w' : World) : Prop :=
  ∃ v', e = .returned v' ∧ w'.ownsRow B 141 1 v' k l ∧ Mod (fun b => v.ownBlock = some b) w w' ∧ ∀ g, v'.ownBlock = some g → v.ownBlock = some g ∨ w.heap.size ≤ g

set_option maxHeartbeats 2000000 in
set_option maxRecDepth 1000000 in
theorem repEnd_any (w : World) (B g cap k m vb vc : Nat) (ps vs more vmore : List Value) (hb : Blk w g (ps ++ more) 141) (hBg : B ≤ g) (hB : B ≤ w.heap.size) (hn : ps.length = k + 1) (hl : k + 1 + more.length = cap) (hs : Blk w vb (vs ++ vmore) 141) (hm : vs.length = m) (h0 : 2 ≤ m) (hbig : k + m ≤ 4398046511104) (hcm : cap ≤ maxLen) (h1 : ∀ u ∈ vs, u.oneCell' = true) :
    Calls Tryz.prog 141 #[.slice (some ⟨g, 0, none⟩) (k + 1) cap, .int .i64 (k : Int), .int .i64 ((k : Int) + 1), .slice (some ⟨vb, 0, none⟩) m vc] w (RepTo w B (.slice (some ⟨g, 0, none⟩) (k + 1) cap) (k + m) (ps.take k ++ vs)) := by
  obtain ⟨L, hL⟩ : ∃ L, L = ps.take k ++ vs := ⟨_, rfl⟩
  rw [← hL]
  have hcm0 := hcm
  unfold maxLen at hcm
  obtain ⟨i0, hi0, hz0, hz1, hz2⟩ := info_parts infoPtr
  have hpre : w.ownsRow B 141 1 (.slice (some ⟨g, 0, none⟩) k cap) k (ps.take k) := by
    refine blk_ownsRow hBg (more := ps.drop k ++ more) (by rw [← List.append_assoc, List.take_append_drop]; exact hb) (by rw [List.length_take]; omega) (by omega) hcm0 (by simp [hn]; omega)
  obtain ⟨v', w', hrun, ho, hg, hf⟩ := append_fresh (P := Tryz.prog) (ty := 137) Tryz.underlying137 hi0 hz0 hz1 hz2 rfl (by decide) hpre ⟨vb, 0, none⟩ m vc vs (by omega) (fun j u hu => by rw [Addr.add_lit, Nat.zero_add, hs.cell, List.getElem?_append_left (List.getElem?_eq_some_iff.1 hu).1]; exact hu) h1 (by unfold maxLen; omega) (by omega) hB (by omega)
  obtain ⟨va', vc', hv'⟩ : ∃ va' vc', v' = .slice va' (k + m) vc' := by
    rcases ownsRow_blk ho with ⟨_, e, _⟩ | ⟨g, c', _, e, _⟩
    · omega
    · exact ⟨_, _, e⟩
  subst hv'
  have FIN : RepTo w B (.slice (some ⟨g, 0, none⟩) (k + 1) cap) (k + m) L (.returned (.slice va' (k + m) vc')) w' := ⟨_, rfl, by rw [hL]; exact ho, (Mod.refl _ w).grown hg (fun k e _ => e), hf⟩
  have FIN := Lib.hid FIN
  have HR := Lib.hid hrun
  have hd1 : ((k : Int) == (k : Int) + 1) = false := by simp; omega
  have hd2 : ((k : Int) + 1 == ((k + 1 : Nat) : Int)) = true := by simp
  have hd3 : decide (k + m < k + 1) = false := by simp; omega
  have hd4 : decide (((k + m : Nat) : Int) < ((k + 1 : Nat) : Int)) = false := by simp; omega
  have htn : ((k : Int) + 1).toNat = k + 1 := by omega
  have hb1 : (0 : Int) ≤ (k : Int) + 1 := by omega
  have hcn : ¬ (cap = k) := by omega
  clear ho hg hf hrun hb hs hi0 hz0 hz1 hz2 hL hpre
  go_enter Tryz.func141, Tryz.ntmps141
  go_wp2_with (at_builtin; refine Lib.wpList_append_run _ rfl (.tmp 32) (.tmp 33) 137 137 rfl _ _ rfl rfl _ _ HR.out ?_)
  go_ret
  exact FIN.out

theorem repList {ps vs more : List Value} {n k m cap : Nat} (hk : k + 1 ≤ n) (hn : ps.length = n) (hm : vs.length = m) (h0 : 1 ≤ m) (hr : k + m + (n - (k + 1)) ≤ cap) (hl : n + more.length = cap) :
    ((ps ++ more).take (k + m) ++ ps.drop (k + 1) ++ (ps ++ more).drop (k + m + (ps.drop (k + 1)).length)).take k ++ vs ++ ((ps ++ more).take (k + m) ++ ps.drop (k + 1) ++ (ps ++ more).drop (k + m + (ps.drop (k + 1)).length)).drop (k + vs.length) =
    (ps.take k ++ vs ++ ps.drop (k + 1)) ++ (ps ++ more).drop (k + m + (n - (k + 1))) := by
  have lc : (ps ++ more).length = cap := by rw [List.length_append, hn]; exact hl
  have e0 : (ps ++ more).take k = ps.take k := List.take_append_of_le_length (by omega)
  have l1 : (ps.drop (k + 1)).length = n - (k + 1) := by rw [List.length_drop, hn]
  rw [l1, hm]
  generalize ps ++ more = cur at *
  have hX : (cur.take (k + m)).length = k + m := by rw [List.length_take]; omega
  rw [List.append_assoc (cur.take (k + m))]
  rw [List.take_append_of_le_length (by rw [hX]; omega), List.take_take, show min k (k + m) = k by omega, e0]
  have e1 : ∀ t : List Value, (cur.take (k + m) ++ t).drop (k + m) = t := fun t => by
    conv => lhs; rw [← hX]
    rw [hX]
    have := List.drop_left (l₁ := cur.take (k + m)) (l₂ := t)
    rw [hX] at this; exact this
  rw [e1]
  simp only [List.append_assoc]
theorem repList2 {ps vs R : List Value} {n k m : Nat} (_hk : k + 1 ≤ n) (hn : ps.length = n) (hm : vs.length = m) (hR : k + m + (n - (k + 1)) ≤ R.length) (ht : R.take k = ps.take k) :
    (R.take k ++ vs ++ R.drop (k + vs.length)).take (k + m) ++ ps.drop (k + 1) ++ (R.take k ++ vs ++ R.drop (k + vs.length)).drop (k + m + (ps.drop (k + 1)).length) =
    (ps.take k ++ vs ++ ps.drop (k + 1)) ++ R.drop (k + m + (n - (k + 1))) := by
  have l1 : (ps.drop (k + 1)).length = n - (k + 1) := by rw [List.length_drop, hn]
  have hX : (R.take k ++ vs).length = k + m := by rw [List.length_append, List.length_take, hm]; omega
  rw [List.take_append_of_le_length (by rw [hX]; exact Nat.le_refl _), List.take_of_length_le (by rw [hX]; exact Nat.le_refl _)]
  rw [List.drop_append, hX, List.drop_of_length_le (l := R.take k ++ vs) (by rw [hX]; omega), List.nil_append, List.drop_drop, l1, hm]
  rw [show k + m + (k + m + (n - (k + 1)) - (k + m)) = k + m + (n - (k + 1)) by omega, ht]

set_option maxHeartbeats 4000000 in
set_option maxRecDepth 1000000 in
theorem repShift_any (w : World) (B g cap n k m vb vc T : Nat) (ps vs more vmore : List Value) (hb : Blk w g (ps ++ more) 141) (hBg : B ≤ g) (hn : ps.length = n) (hk : k + 1 < n) (hl : n + more.length = cap) (hs : Blk w vb (vs ++ vmore) 141) (hne : vb ≠ g) (hm : vs.length = m) (h0 : 2 ≤ m) (hT : T = k + m + (n - (k + 1))) (hroom : T ≤ cap) (hcm : cap ≤ maxLen) (h1 : ∀ u ∈ vs, u.oneCell' = true) (h2 : ∀ u ∈ ps, u.oneCell' = true) :
    Calls Tryz.prog 141 #[.slice (some ⟨g, 0, none⟩) n cap, .int .i64 (k : Int), .int .i64 ((k : Int) + 1), .slice (some ⟨vb, 0, none⟩) m vc] w (RepTo w B (.slice (some ⟨g, 0, none⟩) n cap) T (ps.take k ++ vs ++ ps.drop (k + 1))) := by
  obtain ⟨L, hL⟩ : ∃ L, L = ps.take k ++ vs ++ ps.drop (k + 1) := ⟨_, rfl⟩
  rw [← hL]
  have hcm0 := hcm
  unfold maxLen at hcm
  obtain ⟨i0, hi0, hz0, hz1, hz2⟩ := info_parts infoPtr
  have l1 : (ps.drop (k + 1)).length = n - (k + 1) := by rw [List.length_drop, hn]
  have HB := Lib.hid hb
  have HSV := Lib.hid hs
  have HLL := Lib.hid hL
  have HTT := Lib.hid hT
  have hd1 : ((k : Int) == (k : Int) + 1) = false := by simp; omega
  have hd2 : ((k : Int) + 1 == (n : Int)) = false := by simp; omega
  have hd3 : decide ((cap : Int) < (T : Int)) = false := by simp; omega
  have hd4 : decide ((k : Int) + m ≤ (k : Int) + 1) = false := by simp; omega
  have htn : ((k : Int) + 1).toNat = k + 1 := by omega
  have htm : ((k : Int) + m).toNat = k + m := by omega
  have hb1' : (0 : Int) ≤ (k : Int) + 1 := by omega
  have hb2' : (0 : Int) ≤ (k : Int) + m := by omega
  have hb3' : (k : Int) + 1 ≤ (n : Int) := by omega
  have hb4' : (k : Int) + m ≤ (T : Int) := by omega
  have hcn : ¬ (cap = k) := by omega
  have hcn1 : ¬ (cap = k + 1) := by omega
  have hcn2 : ¬ (cap = k + m) := by omega
  have hw1 : IntKind.i64.wrap ((k : Int) + m) = (k : Int) + m := by rw [IntKind.wrap_i64]; omega
  have hw2 : IntKind.i64.wrap ((k : Int) + m + ((n - (k + 1) : Nat) : Int)) = (T : Int) := by rw [IntKind.wrap_i64]; omega
  have hkn : k ≤ n := by omega
  have hkT : k ≤ T := by omega
  have HI0 := Lib.hid hi0
  have HZ1 := Lib.hid hz1
  have L1 := Lib.hid l1
  clear hs hi0 hz0 hz1 hz2 l1 hb hL hT
  go_enter Tryz.func141, Tryz.ntmps141
  go_wp2_with fail
  go_quiet (fail)
  have mq : Mod none_ w (w.drewN nq) := (Mod.refl _ w).drewN nq
  have hbq := HB.out.mod mq (fun e => e)
  have hsq := HSV.out.mod mq (fun e => e)
  generalize w.drewN nq = wq at mq hbq hsq ⊢
  have hi0 := HI0.out
  have hz1 := HZ1.out
  have l1 := L1.out
  have hL := HLL.out
  have hT := HTT.out
  have hov : ∀ la lb ca cb, (callFunc 155 #[.slice (some ⟨g, k + m, none⟩) la ca, .slice (some ⟨vb, 0, none⟩) lb cb]).run Tryz.prog wq = .ok (.value (.bool false)) wq := fun la lb ca cb => by
    rw [run_callFunc_extern Tryz.func155 (by kernel_rfl) (by kernel_rfl) (by kernel_rfl) (e := Extern.SlicesOverlaps.overlaps #[137, 137] #[4]) (by kernel_rfl),
      Lib.run_overlaps_apart wq 137 4 141 Tryz.underlying137 1 (fun w => by simp [sizeOf, typeInfo, hi0, hz1]) ⟨g, k + m, none⟩ ⟨vb, 0, none⟩ la ca lb cb (fun e => hne e.symm) _ _ _ _ hbq.shape hsq.shape (by rw [List.length_append]; omega) (hbq.frozen _) (hbq.frozen _)]
    rfl
  obtain ⟨w1, hc1, hb1, m1⟩ := run_copyN (P := Tryz.prog) (w := wq.drew) (sz := 1) Tryz.underlying137 hi0 hz1 3 g (k + m) (T - (k + m)) (cap - (k + m)) ⟨g, k + 1, none⟩ (n - (k + 1)) (cap - (k + 1)) _ (ps.drop (k + 1)) hbq.drew (by rw [l1]; simp only [Nat.min_def]; split <;> omega)
    (fun j u hu => by
      rw [Addr.add_lit]
      have := hbq.cell (k + 1 + j)
      rw [List.getElem?_drop] at hu
      rw [List.getElem?_append_left (List.getElem?_eq_some_iff.1 hu).1, hu] at this
      exact this) (by rw [List.length_append, l1]; omega) (fun u hu => h2 u (List.mem_of_mem_drop hu))
  have hs1 := (hsq.drew).mod m1 hne
  obtain ⟨w2, hc2, hb2, m2⟩ := run_copyN (P := Tryz.prog) (w := w1) (sz := 1) Tryz.underlying137 hi0 hz1 3 g k (T - k) (cap - k) ⟨vb, 0, none⟩ m vc _ vs hb1 (by rw [hm]; simp only [Nat.min_def]; split <;> omega)
    (fun j u hu => by rw [Addr.add_lit, Nat.zero_add, hs1.cell, List.getElem?_append_left (List.getElem?_eq_some_iff.1 hu).1]; exact hu) (by simp only [List.length_append, List.length_take, List.length_drop, hm, hn]; omega) h1
  rw [repList (by omega) hn hm (by omega) (by omega) hl, ← hL] at hb2
  have hLl : L.length = T := by rw [hL]; simp [hn, hm]; omega
  have FIN : RepTo w B (.slice (some ⟨g, 0, none⟩) n cap) T L (.returned (.slice (some ⟨g, 0, none⟩) T cap)) w2 := by
    refine ⟨_, rfl, blk_ownsRow hBg hb2 (by omega) hroom hcm0 ?_, (((mq.mono (fun _ _ e => e.elim)).drew).trans (m1.mono ?_)).trans (m2.mono ?_), fun g' e => .inl e⟩
    · rw [hLl, List.length_drop, List.length_append, hn]; omega
    · intro k _ e
      have e' : k = g := e
      rw [e']; rfl
    · intro k _ e
      have e' : k = g := e
      rw [e']; rfl
  have FIN := Lib.hid FIN
  have HC1 := Lib.hid hc1
  have HC2 := Lib.hid hc2
  clear hb1 m1 hb2 m2 hs1 hc1 hc2 hi0 hz1 l1 hL hLl hT hbq hsq mq
  go_wp2_with (simp only [hov])
  go_region_law (refine step_copy_runI rfl _ _ 137 137 rfl _ _ (by simp [Act.eval, Act.put]) (by simp [Act.eval, Act.put]) HC1.out ?_)
  have hc2 := HC2.out
  go_wp2_with fail
  go_ret
  exact FIN.out

set_option maxHeartbeats 4000000 in
set_option maxRecDepth 1000000 in
theorem repGrow_any (w : World) (B g cap n k m vb vc T : Nat) (ps vs more vmore : List Value) (hb : Blk w g (ps ++ more) 141) (hB : B ≤ w.heap.size) (hn : ps.length = n) (hk : k + 1 < n) (hnc : n ≤ cap) (hs : Blk w vb (vs ++ vmore) 141) (hm : vs.length = m) (h0 : 2 ≤ m) (hT : T = k + m + (n - (k + 1))) (hroom : cap < T) (hbig : T ≤ 4398046511104) (hcm : cap ≤ maxLen) (h1 : ∀ u ∈ vs, u.oneCell' = true) (h2 : ∀ u ∈ ps, u.oneCell' = true) :
    Calls Tryz.prog 141 #[.slice (some ⟨g, 0, none⟩) n cap, .int .i64 (k : Int), .int .i64 ((k : Int) + 1), .slice (some ⟨vb, 0, none⟩) m vc] w (RepTo w B (.slice (some ⟨g, 0, none⟩) n cap) T (ps.take k ++ vs ++ ps.drop (k + 1))) := by
  obtain ⟨L, hL⟩ : ∃ L, L = ps.take k ++ vs ++ ps.drop (k + 1) := ⟨_, rfl⟩
  rw [← hL]
  unfold maxLen at hcm
  obtain ⟨i0, hi0, hz0, hz1, hz2⟩ := info_parts infoPtr
  have HB := Lib.hid hb
  have HSV := Lib.hid hs
  have HLL := Lib.hid hL
  have HTT := Lib.hid hT
  have hd1 : ((k : Int) == (k : Int) + 1) = false := by simp; omega
  have hd2 : ((k : Int) + 1 == (n : Int)) = false := by simp; omega
  have hd3 : decide ((cap : Int) < (T : Int)) = true := by simp; omega
  have htn : ((k : Int) + 1).toNat = k + 1 := by omega
  have htm : ((k : Int) + m).toNat = k + m := by omega
  have hb1' : (0 : Int) ≤ (k : Int) + 1 := by omega
  have hb2' : (0 : Int) ≤ (k : Int) + m := by omega
  have hb3' : (k : Int) + 1 ≤ (n : Int) := by omega
  have hb4' : (k : Int) + m ≤ (T : Int) := by omega
  have hcn : ¬ (cap = k) := by omega
  have hcn1 : ¬ (cap = k + 1) := by omega
  have hw1 : IntKind.i64.wrap ((k : Int) + m) = (k : Int) + m := by rw [IntKind.wrap_i64]; omega
  have hw2 : IntKind.i64.wrap ((k : Int) + m + ((n - (k + 1) : Nat) : Int)) = (T : Int) := by rw [IntKind.wrap_i64]; omega
  have hkn : k ≤ n := by omega
  have hkT : k ≤ T := by omega
  have HI0 := Lib.hid hi0
  have HZ0 := Lib.hid hz0
  have HZ1 := Lib.hid hz1
  have HZ2 := Lib.hid hz2
  clear hs hi0 hz0 hz1 hz2 hb hL hT
  go_enter Tryz.func141, Tryz.ntmps141
  go_wp2_with fail
  go_quiet (fail)
  have mq : Mod none_ w (w.drewN nq) := (Mod.refl _ w).drewN nq
  have hbq := HB.out.mod mq (fun e => e)
  have hsq := HSV.out.mod mq (fun e => e)
  have hsz : (w.drewN nq).heap.size = w.heap.size := size_drewN w nq
  generalize w.drewN nq = wq at mq hbq hsq hsz ⊢
  have hi0 := HI0.out
  have hz0 := HZ0.out
  have hz1 := HZ1.out
  have hz2 := HZ2.out
  have hL := HLL.out
  have hT := HTT.out
  have l1 : (ps.drop (k + 1)).length = n - (k + 1) := by rw [List.length_drop, hn]
  have l3 : (ps.take k).length = k := by rw [List.length_take, hn]; omega
  have hold : (Builtin.firstCells i0.size k (.slice (some ⟨g, 0, none⟩) k cap)).run Tryz.prog wq.drew = .ok (ps.take k).toArray wq.drew := by
    rw [hz1]
    exact run_firstCells_some wq.drew 1 k ⟨g, 0, none⟩ k cap _ (by rw [l3]; omega) (fun j u hu => by
      rw [Addr.add_lit, Nat.zero_add]
      have := hbq.drew.cell j
      rw [List.getElem?_take] at hu
      split at hu
      · rw [List.getElem?_append_left (List.getElem?_eq_some_iff.1 hu).1, hu] at this
        exact this
      · cases hu)
  have hkk : (T : Int) - (k : Int) = ((T - k : Nat) : Int) := by omega
  have hik : k + (T - k) = T := by omega
  have hrz := Lib.run_append_grow_zeros (P := Tryz.prog) wq 137 3 137 141 i0 _ .i64 .i64 Tryz.underlying137 Tryz.underlying3 hi0 hz0 (some ⟨g, 0, none⟩) k cap _ hold (T - k) (by omega) (by omega) (by omega) (by omega) (by rw [hz2]; omega) (by rw [hz2, hik]; exact growslice_fits (by omega) (by omega))
  rw [hik, ← hkk] at hrz
  obtain ⟨G, hG⟩ : ∃ G, G = grownCap wq T cap 141 := ⟨_, rfl⟩
  have hGn : T ≤ G := by rw [hG]; exact grownCap_ge wq _ _ _
  have hGm : G ≤ maxLen := by rw [hG]; exact grownCap_le_maxLen wq T cap _ (by unfold maxLen; omega)
  have hG63 : G ≤ 9223372036854775807 := by unfold maxLen at hGm; omega
  rw [← hG] at hrz
  have hzl : ∀ k, (Builtin.zeroCells (Value.pointer none).cells k).size = k := fun k => by rw [size_zeroCells]; simp [Value.cells]
  obtain ⟨R, hR⟩ : ∃ R : List Value, R = ps.take k ++ (Builtin.zeroCells (Value.pointer none).cells (T - k)).toList ++ (Builtin.zeroCells (Value.pointer none).cells (G - T)).toList := ⟨_, rfl⟩
  have hRA : (ps.take k).toArray ++ Builtin.zeroCells (Value.pointer none).cells (T - k) ++ Builtin.zeroCells (Value.pointer none).cells (G - T) = R.toArray := by
    rw [hR]; simp
  have hRl : R.length = G := by
    rw [hR]
    simp only [List.length_append, l3, Array.length_toList, hzl]
    omega
  have hRt : R.take k = ps.take k := by
    rw [hR, List.append_assoc]
    have := List.take_left (l₁ := ps.take k) (l₂ := (Builtin.zeroCells (Value.pointer none).cells (T - k)).toList ++ (Builtin.zeroCells (Value.pointer none).cells (G - T)).toList)
    rw [l3] at this; exact this
  rw [hRA] at hrz
  have b0 : Blk (wq.drew.alloc (.cells R.toArray 141)) wq.heap.size R 141 := Blk.new (w := wq.drew)
  have m0 : Mod none_ wq (wq.drew.alloc (.cells R.toArray 141)) := (Mod.drew (Mod.refl _ wq)).alloc _
  have hs0 := hsq.mod m0 (fun e => e)
  have hb0 := hbq.mod m0 (fun e => e)
  generalize wq.drew.alloc (.cells R.toArray 141) = w1 at hrz b0 m0 hs0 hb0
  obtain ⟨N, hN⟩ : ∃ N, N = wq.heap.size := ⟨_, rfl⟩
  have hgN : g ≠ N := by have := hbq.lt; omega
  have hvN : vb ≠ N := by have := hsq.lt; omega
  rw [← hN] at hrz b0
  obtain ⟨w2, hc1, hb1, m1⟩ := run_copyN (P := Tryz.prog) (w := w1) (sz := 1) Tryz.underlying137 hi0 hz1 3 N k (T - k) (G - k) ⟨vb, 0, none⟩ m vc R vs b0 (by rw [hm]; simp only [Nat.min_def]; split <;> omega)
    (fun j u hu => by rw [Addr.add_lit, Nat.zero_add, hs0.cell, List.getElem?_append_left (List.getElem?_eq_some_iff.1 hu).1]; exact hu) (by rw [hRl, hm]; omega) h1
  have hb2 := (hb0.mod m1 hgN).drew
  obtain ⟨w3, hc2, hb3, m2⟩ := run_copyN (P := Tryz.prog) (w := w2.drew) (sz := 1) Tryz.underlying137 hi0 hz1 3 N (k + m) (T - (k + m)) (G - (k + m)) ⟨g, k + 1, none⟩ (n - (k + 1)) (cap - (k + 1)) _ (ps.drop (k + 1)) hb1.drew (by rw [l1]; simp only [Nat.min_def]; split <;> omega)
    (fun j u hu => by
      rw [Addr.add_lit]
      have := hb2.cell (k + 1 + j)
      rw [List.getElem?_drop] at hu
      rw [List.getElem?_append_left (List.getElem?_eq_some_iff.1 hu).1, hu] at this
      exact this) (by simp only [List.length_append, List.length_take, List.length_drop, hm, hn, hRl]; omega) (fun u hu => h2 u (List.mem_of_mem_drop hu))
  rw [repList2 (by omega) hn hm (by omega) hRt, ← hL] at hb3
  have hLl : L.length = T := by rw [hL]; simp [hn, hm]; omega
  have FIN : RepTo w B (.slice (some ⟨g, 0, none⟩) n cap) T L (.returned (.slice (some ⟨N, 0, none⟩) T G)) w3 := by
    refine ⟨_, rfl, blk_ownsRow (by omega) hb3 (by omega) hGn hGm ?_, ?_, fun g' e => ?_⟩
    · rw [hLl, List.length_drop, hRl]; omega
    · have far : ∀ k, k < wq.heap.size → one N k → False := fun k hk e => by have e' : k = N := e; omega
      exact (mq.trans ((m0.transIn m1 far).drew.transIn m2 far)).mono (fun _ _ e => e.elim)
    · have e' : N = g' := by simpa [Value.ownBlock] using e
      right; omega
  have FIN := Lib.hid FIN
  have HC1 := Lib.hid hc1
  have HC2 := Lib.hid hc2
  have HRZ := Lib.hid hrz
  have hcn3 : ¬ (G = k + m) := by omega
  have hcn4 : ¬ (G = k) := by omega
  clear hL hb1 m1 hb2 m2 hc1 hc2 hi0 hz0 hz1 hz2 l1 l3 hb0 hs0 b0 m0 hb3 hkk hik hold hG hzl hR hRA hRl hRt hrz hN hLl hbq hsq mq hsz hT
  have hc1 := HC1.out
  go_wp2_with (at_builtin; refine Lib.wpList_append_run _ rfl _ _ _ _ rfl _ _ rfl rfl _ _ HRZ.out ?_)
  clear hc1
  go_region_law (refine step_copy_runI rfl _ _ 137 137 rfl _ _ (by simp [Act.eval, Act.put]) (by simp [Act.eval, Act.put]) HC2.out ?_)
  go_wp2_with fail
  go_ret
  exact FIN.out

theorem ptr_one {α : Type} (f : α → Nat) (l : List α) : ∀ u ∈ l.map (fun x => Value.pointer (some ⟨f x, 0, none⟩)), u.oneCell' = true := by
  intro u hu
  obtain ⟨x, _, rfl⟩ := List.mem_map.1 hu
  rfl
/-- Replace, whichever way. -/
theorem rep_any (w : World) (g cap n k m vb vc T : Nat) (ps vs vmore : List Value) (hv : w.ownsRow 0 141 1 (.slice (some ⟨g, 0, none⟩) n cap) n ps) (hk : k < n) (hs : Blk w vb (vs ++ vmore) 141) (hne : vb ≠ g) (hm : vs.length = m) (h0 : 2 ≤ m) (hT : T = k + m + (n - (k + 1))) (hbig : T ≤ 4398046511104) (h1 : ∀ u ∈ vs, u.oneCell' = true) (h2 : ∀ u ∈ ps, u.oneCell' = true) :
    Calls Tryz.prog 141 #[.slice (some ⟨g, 0, none⟩) n cap, .int .i64 (k : Int), .int .i64 ((k : Int) + 1), .slice (some ⟨vb, 0, none⟩) m vc] w (RepTo w 0 (.slice (some ⟨g, 0, none⟩) n cap) T (ps.take k ++ vs ++ ps.drop (k + 1))) := by
  have hn : ps.length = n := by have := hv.1; omega
  rcases ownsRow_blk hv with ⟨e, _, _⟩ | ⟨g', cap', more, e, _, hb, q1, q2, q3⟩
  · cases e
  cases e
  by_cases h : k + 1 = n
  · subst h
    have e : ps.take k ++ vs ++ ps.drop (k + 1) = ps.take k ++ vs := by rw [List.drop_eq_nil_of_le (by omega), List.append_nil]
    have eT : T = k + m := by omega
    rw [e, eT]
    exact repEnd_any w 0 g cap k m vb vc ps vs more vmore hb (Nat.zero_le _) (Nat.zero_le _) hn (by omega) hs hm h0 (by omega) q2 h1
  · by_cases hr : T ≤ cap
    · exact repShift_any w 0 g cap n k m vb vc T ps vs more vmore hb (Nat.zero_le _) hn (by omega) (by omega) hs hne hm h0 hT hr q2 h1 h2
    · exact repGrow_any w 0 g cap n k m vb vc T ps vs more vmore hb (Nat.zero_le _) hn (by omega) q1 hs hm h0 hT (by omega) hbig q2 h1 h2
end Go.Proofs.YtlidmajcdjlcnaaGreatDoor

namespace Go.Proofs.YtlidmajcdjlcnaaGreatDoor
open Go.RowKit Go.Shelf Go.Mine

/-- What Insert leaves. -/
def InsTo (w : World) (B : Nat) (v : Value) (k : Nat) (l : List CellV) (e : Ending) (w' : World) : Prop :=
  ∃ v', e = .returned v' ∧ w'.ownsRow B 47 5 v' k (flat CellV.cs l) ∧ Mod (fun b => v.ownBlock = some b) w w' ∧ ∀ g, v'.ownBlock = some g → v.ownBlock = some g ∨ w.heap.size ≤ g

set_option maxHeartbeats 2000000 in
set_option maxRecDepth 1000000 in
/-- At the end. -/
theorem insEnd_any (w : World) (B : Nat) (v : Value) (n m vb vc : Nat) (cs vs : List CellV) (hv : w.ownsRow B 47 5 v n (flat CellV.cs cs)) (hs : Blk w vb (flat CellV.cs vs) 47) (hm : vs.length = m) (h0 : 0 < m) (hbig : n + m ≤ 1099511627776) (hB : B ≤ w.heap.size) :
    Calls Tryz.prog 140 #[v, .int .i64 (n : Int), .slice (some ⟨vb, 0, none⟩) m vc] w (InsTo w B v (n + m) (cs ++ vs)) := by
  obtain ⟨va, vcap, rfl, hvn, hvm⟩ : ∃ va vcap, v = .slice va n vcap ∧ n ≤ vcap ∧ vcap ≤ maxLen := by
    rcases ownsRow_blk hv with ⟨rfl, rfl, _⟩ | ⟨g, c', _, rfl, _, _, h1, h2, _⟩
    · exact ⟨none, 0, rfl, Nat.le_refl _, Nat.zero_le _⟩
    · exact ⟨_, c', rfl, h1, h2⟩
  unfold maxLen at hvm
  obtain ⟨i0, hi0, hz0, hz1, hz2⟩ := info_parts infoCell
  have hl : (flat CellV.cs vs).length = m * 5 := by rw [flat_length CellV.len, hm]
  obtain ⟨v', w', hrun, ho, hg, hf⟩ := append_fresh (P := Tryz.prog) (ty := 22) Tryz.underlying22 hi0 hz0 hz1 hz2 rfl (by decide) hv ⟨vb, 0, none⟩ m vc (flat CellV.cs vs) hl (fun j u hu => by rw [Addr.add_lit, Nat.zero_add, hs.cell]; exact hu) (flat_ones vs) (by unfold maxLen; omega) (by omega) hB h0
  have FIN : InsTo w B (.slice va n vcap) (n + m) (cs ++ vs) (.returned v') w' := ⟨v', rfl, by rw [flat_append]; exact ho, (Mod.refl _ w).grown hg (fun k e _ => e), hf⟩
  have FIN := Lib.hid FIN
  have HR := Lib.hid hrun
  have hm0 : ((m : Int) == 0) = false := by simp; omega
  have hnn : ((n : Int) == (n : Int)) = true := by simp
  clear ho hg hf hrun hv hs hi0 hz0 hz1 hz2
  go_enter Tryz.func140, Tryz.ntmps140
  cases va with
  | none =>
    go_wp2_with (at_builtin; refine Lib.wpList_append_run _ rfl (.tmp 23) (.tmp 24) 22 22 rfl _ _ rfl rfl _ _ HR.out ?_)
    all_goals (go_ret; exact FIN.out)
  | some ad =>
    obtain ⟨ab, ao, asp⟩ := ad
    go_wp2_with (at_builtin; refine Lib.wpList_append_run _ rfl (.tmp 23) (.tmp 24) 22 22 rfl _ _ rfl rfl _ _ HR.out ?_)
    all_goals (go_ret; exact FIN.out)

theorem insList {cs vs : List CellV} {more : List Value} {i n m cap : Nat} (hi : i ≤ n) (hn : cs.length = n) (hm : vs.length = m) (hr : n + m ≤ cap) (hl : n * 5 + more.length = cap * 5) :
    ((((flat CellV.cs cs ++ more).take ((i + m) * 5) ++ flat CellV.cs (cs.drop i) ++ (flat CellV.cs cs ++ more).drop ((i + m) * 5 + (flat CellV.cs (cs.drop i)).length)).take (i * 5) ++ flat CellV.cs vs ++
      ((flat CellV.cs cs ++ more).take ((i + m) * 5) ++ flat CellV.cs (cs.drop i) ++ (flat CellV.cs cs ++ more).drop ((i + m) * 5 + (flat CellV.cs (cs.drop i)).length)).drop (i * 5 + (flat CellV.cs vs).length))) =
    flat CellV.cs (cs.take i ++ vs ++ cs.drop i) ++ (flat CellV.cs cs ++ more).drop ((n + m) * 5) := by
  have l1 : (flat CellV.cs (cs.drop i)).length = (n - i) * 5 := by rw [flat_length CellV.len, List.length_drop, hn]
  have l2 : (flat CellV.cs vs).length = m * 5 := by rw [flat_length CellV.len, hm]
  have l3 : (flat CellV.cs cs).length = n * 5 := by rw [flat_length CellV.len, hn]
  have e0 : (flat CellV.cs cs ++ more).take (i * 5) = flat CellV.cs (cs.take i) := by
    rw [List.take_append_of_le_length (by omega), flat_take CellV.len]
  rw [l1, l2, show (i + m) * 5 + (n - i) * 5 = (n + m) * 5 by omega]
  have lc : (flat CellV.cs cs ++ more).length = cap * 5 := by rw [List.length_append, l3]; omega
  generalize flat CellV.cs cs ++ more = cur at *
  have hX : (cur.take ((i + m) * 5)).length = (i + m) * 5 := by rw [List.length_take]; omega
  rw [List.append_assoc (cur.take ((i + m) * 5))]
  rw [List.take_append_of_le_length (by rw [hX]; omega), List.take_take, show min (i * 5) ((i + m) * 5) = i * 5 by omega, e0]
  rw [show i * 5 + m * 5 = (cur.take ((i + m) * 5)).length by rw [hX]; omega, List.drop_left]
  simp only [flat_append, List.append_assoc]

set_option maxHeartbeats 4000000 in
set_option maxRecDepth 1000000 in
/-- There is room: in place. -/
theorem insShift_any (w : World) (B g cap n i m vb vc : Nat) (cs vs : List CellV) (more : List Value) (hb : Blk w g (flat CellV.cs cs ++ more) 47) (hBg : B ≤ g) (hn : cs.length = n) (hl : n * 5 + more.length = cap * 5) (hs : Blk w vb (flat CellV.cs vs) 47) (hne : vb ≠ g) (hm : vs.length = m) (h0 : 0 < m) (hi : i < n)
    (hroom : n + m ≤ cap) (hcm : cap ≤ maxLen) :
    Calls Tryz.prog 140 #[.slice (some ⟨g, 0, none⟩) n cap, .int .i64 (i : Int), .slice (some ⟨vb, 0, none⟩) m vc] w (InsTo w B (.slice (some ⟨g, 0, none⟩) n cap) (n + m) (cs.take i ++ vs ++ cs.drop i)) := by
  obtain ⟨L, hL⟩ : ∃ L, L = cs.take i ++ vs ++ cs.drop i := ⟨_, rfl⟩
  rw [← hL]
  have hcm0 := hcm
  unfold maxLen at hcm
  obtain ⟨i0, hi0, hz0, hz1, hz2⟩ := info_parts infoCell
  have l0 : (flat CellV.cs cs).length = n * 5 := by rw [flat_length CellV.len, hn]
  have l1 : (flat CellV.cs (cs.drop i)).length = (n - i) * 5 := by rw [flat_length CellV.len, List.length_drop, hn]
  have l2 : (flat CellV.cs vs).length = m * 5 := by rw [flat_length CellV.len, hm]
  have hov : ∀ lb cb, (callFunc 152 #[.slice (some ⟨vb, 0, none⟩) m vc, .slice (some ⟨g, (i + m) * 5, none⟩) lb cb]).run Tryz.prog w = .ok (.value (.bool false)) w := fun lb cb => by
    rw [run_callFunc_extern Tryz.func152 (by kernel_rfl) (by kernel_rfl) (by kernel_rfl) (e := Extern.SlicesOverlaps.overlaps #[22, 22] #[4]) (by kernel_rfl),
      Lib.run_overlaps_apart w 22 4 47 Tryz.underlying22 5 (fun w => by simp [sizeOf, typeInfo, hi0, hz1]) ⟨vb, 0, none⟩ ⟨g, (i + m) * 5, none⟩ m vc lb cb hne _ _ _ _ hs.shape hb.shape (by rw [List.length_append, l0]; omega) (hs.frozen 0) (hs.frozen _)]
    rfl
  obtain ⟨w1, hc1, hb1, m1⟩ := run_copyN (P := Tryz.prog) (w := w.drew) (sz := 5) Tryz.underlying22 hi0 hz1 3 g ((i + m) * 5) (n + m - (i + m)) (cap - (i + m)) ⟨g, i * 5, none⟩ (n + m - i) (cap - i) _ (flat CellV.cs (cs.drop i)) hb.drew (by rw [l1]; simp only [Nat.min_def]; split <;> omega)
    (fun j u hu => by
      rw [Addr.add_lit]
      have := hb.cell (i * 5 + j)
      rw [← flat_drop CellV.len, List.getElem?_drop] at hu
      rw [List.getElem?_append_left (List.getElem?_eq_some_iff.1 hu).1, hu] at this
      exact this) (by rw [List.length_append, l0, l1]; omega) (flat_ones _)
  have hs1 := (hs.drew).mod m1 hne
  obtain ⟨w2, hc2, hb2, m2⟩ := run_copyN (P := Tryz.prog) (w := w1) (sz := 5) Tryz.underlying22 hi0 hz1 3 g (i * 5) (n + m - i) (cap - i) ⟨vb, 0, none⟩ m vc _ (flat CellV.cs vs) hb1 (by rw [l2]; simp only [Nat.min_def]; split <;> omega)
    (fun j u hu => by rw [Addr.add_lit, Nat.zero_add, hs1.cell]; exact hu) (by simp only [List.length_append, List.length_take, List.length_drop, l0, l1, l2]; omega) (flat_ones _)
  rw [insList (by omega) hn hm hroom hl] at hb2
  have FIN : InsTo w B (.slice (some ⟨g, 0, none⟩) n cap) (n + m) L (.returned (.slice (some ⟨g, 0, none⟩) (n + m) cap)) w2 := by
    rw [hL]
    refine ⟨_, rfl, blk_ownsRow hBg hb2 (by rw [flat_length CellV.len]; simp [hn, hm]; omega) (by omega) hcm0 ?_, ((Mod.drew (Mod.refl _ w)).trans (m1.mono ?_)).trans (m2.mono ?_), fun g' e => .inl e⟩
    · rw [flat_length CellV.len]
      simp only [List.length_append, List.length_take, List.length_drop, hn, hm, l0]
      omega
    · intro k _ e
      have e' : k = g := e
      rw [e']; rfl
    · intro k _ e
      have e' : k = g := e
      rw [e']; rfl
  have FIN := Lib.hid FIN
  have HC1 := Lib.hid hc1
  have HC2 := Lib.hid hc2
  have hm0 : ((m : Int) == 0) = false := by simp; omega
  have hnn : ((i : Int) == (n : Int)) = false := by simp; omega
  have hd1 : decide ((cap : Int) < (n : Int) + m) = false := by simp; omega
  have hw1 : IntKind.i64.wrap ((i : Int) + (m : Int)) = (i : Int) + (m : Int) := by rw [IntKind.wrap_i64]; omega
  have hb1' : (0 : Int) ≤ (i : Int) + (m : Int) := by omega
  have htn : ((i : Int) + (m : Int)).toNat = i + m := by omega
  have hcn1 : ¬ (cap = i + m) := by omega
  have hcn2 : ¬ (cap = i) := by omega
  have hb3 : (i : Int) ≤ (n : Int) + (m : Int) := by omega
  have hin : i ≤ n := by omega
  clear hL hb1 m1 hb2 m2 hs1 hs hc1 hc2 hi0 hz0 hz1 hz2 l0 l1 l2 hb
  go_enter Tryz.func140, Tryz.ntmps140
  go_wp2_with (simp only [hov])
  go_region_law (refine step_copy_runI rfl _ _ 22 22 rfl _ _ (by simp [Act.eval, Act.put]) (by simp [Act.eval, Act.put]) HC1.out ?_)
  have hc2 := HC2.out
  go_wp2_with fail
  go_ret
  exact FIN.out

theorem insList2 {cs vs : List CellV} {R : List Value} {i n m : Nat} (hi : i ≤ n) (hn : cs.length = n) (hm : vs.length = m) (hR : (n + m) * 5 ≤ R.length) (ht : R.take (i * 5) = flat CellV.cs (cs.take i)) :
    (R.take (i * 5) ++ flat CellV.cs vs ++ R.drop (i * 5 + (flat CellV.cs vs).length)).take ((i + m) * 5) ++ flat CellV.cs (cs.drop i) ++ (R.take (i * 5) ++ flat CellV.cs vs ++ R.drop (i * 5 + (flat CellV.cs vs).length)).drop ((i + m) * 5 + (flat CellV.cs (cs.drop i)).length) =
    flat CellV.cs (cs.take i ++ vs ++ cs.drop i) ++ R.drop ((n + m) * 5) := by
  have l1 : (flat CellV.cs (cs.drop i)).length = (n - i) * 5 := by rw [flat_length CellV.len, List.length_drop, hn]
  have l2 : (flat CellV.cs vs).length = m * 5 := by rw [flat_length CellV.len, hm]
  have hX : (R.take (i * 5) ++ flat CellV.cs vs).length = (i + m) * 5 := by rw [List.length_append, List.length_take, l2]; omega
  rw [List.take_append_of_le_length (by rw [hX]; exact Nat.le_refl _), List.take_of_length_le (by rw [hX]; exact Nat.le_refl _)]
  rw [List.drop_append, hX, List.drop_of_length_le (l := R.take (i * 5) ++ flat CellV.cs vs) (by rw [hX]; omega), List.nil_append, List.drop_drop, l1, l2]
  rw [show i * 5 + m * 5 + ((i + m) * 5 + (n - i) * 5 - (i + m) * 5) = (n + m) * 5 by omega, ht]
  simp only [flat_append]

set_option maxHeartbeats 4000000 in
set_option maxRecDepth 1000000 in
/-- There is no room: a new row. -/
theorem insGrow_any (w : World) (B g cap n i m vb vc : Nat) (cs vs : List CellV) (more : List Value) (hb : Blk w g (flat CellV.cs cs ++ more) 47) (hB : B ≤ w.heap.size) (hn : cs.length = n) (hnc : n ≤ cap) (hs : Blk w vb (flat CellV.cs vs) 47) (hm : vs.length = m) (h0 : 0 < m) (hi : i < n)
    (hroom : cap < n + m) (hbig : n + m ≤ 1099511627776) (hcm : cap ≤ maxLen) :
    Calls Tryz.prog 140 #[.slice (some ⟨g, 0, none⟩) n cap, .int .i64 (i : Int), .slice (some ⟨vb, 0, none⟩) m vc] w (InsTo w B (.slice (some ⟨g, 0, none⟩) n cap) (n + m) (cs.take i ++ vs ++ cs.drop i)) := by
  obtain ⟨L, hL⟩ : ∃ L, L = cs.take i ++ vs ++ cs.drop i := ⟨_, rfl⟩
  rw [← hL]
  unfold maxLen at hcm
  obtain ⟨i0, hi0, hz0, hz1, hz2⟩ := info_parts infoCell
  have l0 : (flat CellV.cs cs).length = n * 5 := by rw [flat_length CellV.len, hn]
  have l1 : (flat CellV.cs (cs.drop i)).length = (n - i) * 5 := by rw [flat_length CellV.len, List.length_drop, hn]
  have l2 : (flat CellV.cs vs).length = m * 5 := by rw [flat_length CellV.len, hm]
  have l3 : (flat CellV.cs (cs.take i)).length = i * 5 := by rw [flat_length CellV.len, List.length_take, hn]; omega
  have hold : (Builtin.firstCells i0.size i (.slice (some ⟨g, 0, none⟩) i cap)).run Tryz.prog w.drew = .ok (flat CellV.cs (cs.take i)).toArray w.drew := by
    rw [hz1]
    exact run_firstCells_some w.drew 5 i ⟨g, 0, none⟩ i cap _ l3 (fun j u hu => by
      rw [Addr.add_lit, Nat.zero_add]
      have := hb.drew.cell j
      rw [← flat_take CellV.len, List.getElem?_take] at hu
      split at hu
      · rw [List.getElem?_append_left (List.getElem?_eq_some_iff.1 hu).1, hu] at this
        exact this
      · cases hu)
  have hkk : (n : Int) + (m : Int) - (i : Int) = ((n + m - i : Nat) : Int) := by omega
  have hik : i + (n + m - i) = n + m := by omega
  have hrz := Lib.run_append_grow_zeros (P := Tryz.prog) w 22 3 22 47 i0 _ .i64 .i64 Tryz.underlying22 Tryz.underlying3 hi0 hz0 (some ⟨g, 0, none⟩) i cap _ hold (n + m - i) (by omega) (by omega) (by omega) (by omega) (by rw [hz2]; omega) (by rw [hz2, hik]; exact growslice_fits (by omega) (by omega))
  rw [hik, ← hkk] at hrz
  obtain ⟨G, hG⟩ : ∃ G, G = grownCap w (n + m) cap 47 := ⟨_, rfl⟩
  have hGn : n + m ≤ G := by rw [hG]; exact grownCap_ge w _ _ _
  have hGm : G ≤ maxLen := by rw [hG]; exact grownCap_le_maxLen w (n + m) cap _ (by unfold maxLen; omega)
  have hG63 : G ≤ 9223372036854775807 := by unfold maxLen at hGm; omega
  rw [← hG] at hrz
  have hzl : ∀ k, (Builtin.zeroCells (Value.agg #[.int .i64 0, .int .i64 0, .int .i64 0, .int .i32 0, .bool false]).cells k).size = k * 5 := fun k => by rw [size_zeroCells]; rfl
  obtain ⟨R, hR⟩ : ∃ R : List Value, R = flat CellV.cs (cs.take i) ++ (Builtin.zeroCells (Value.agg #[.int .i64 0, .int .i64 0, .int .i64 0, .int .i32 0, .bool false]).cells (n + m - i)).toList ++ (Builtin.zeroCells (Value.agg #[.int .i64 0, .int .i64 0, .int .i64 0, .int .i32 0, .bool false]).cells (G - (n + m))).toList := ⟨_, rfl⟩
  have hRA : (flat CellV.cs (cs.take i)).toArray ++ Builtin.zeroCells (Value.agg #[.int .i64 0, .int .i64 0, .int .i64 0, .int .i32 0, .bool false]).cells (n + m - i) ++ Builtin.zeroCells (Value.agg #[.int .i64 0, .int .i64 0, .int .i64 0, .int .i32 0, .bool false]).cells (G - (n + m)) = R.toArray := by
    rw [hR]; simp
  have hRl : R.length = G * 5 := by
    rw [hR]
    simp only [List.length_append, l3, Array.length_toList, hzl]
    omega
  have hRt : R.take (i * 5) = flat CellV.cs (cs.take i) := by
    rw [hR, List.append_assoc, ← l3, List.take_left]
  rw [hRA] at hrz
  have b0 : Blk (w.drew.alloc (.cells R.toArray 47)) w.heap.size R 47 := Blk.new (w := w.drew)
  have m0 : Mod none_ w (w.drew.alloc (.cells R.toArray 47)) := (Mod.drew (Mod.refl _ w)).alloc _
  have hs0 := hs.mod m0 (fun e => e)
  have hb0 := hb.mod m0 (fun e => e)
  generalize w.drew.alloc (.cells R.toArray 47) = w1 at hrz b0 m0 hs0 hb0
  obtain ⟨N, hN⟩ : ∃ N, N = w.heap.size := ⟨_, rfl⟩
  have hgN : g ≠ N := by have := hb.lt; omega
  have hvN : vb ≠ N := by have := hs.lt; omega
  rw [← hN] at hrz b0
  obtain ⟨w2, hc1, hb1, m1⟩ := run_copyN (P := Tryz.prog) (w := w1) (sz := 5) Tryz.underlying22 hi0 hz1 3 N (i * 5) (n + m - i) (G - i) ⟨vb, 0, none⟩ m vc R (flat CellV.cs vs) b0 (by rw [l2]; simp only [Nat.min_def]; split <;> omega)
    (fun j u hu => by rw [Addr.add_lit, Nat.zero_add, hs0.cell]; exact hu) (by rw [hRl, l2]; omega) (flat_ones _)
  have hb2 := (hb0.mod m1 hgN).drew
  obtain ⟨w3, hc2, hb3, m2⟩ := run_copyN (P := Tryz.prog) (w := w2.drew) (sz := 5) Tryz.underlying22 hi0 hz1 3 N ((i + m) * 5) (n + m - (i + m)) (G - (i + m)) ⟨g, i * 5, none⟩ (n - i) (cap - i) _ (flat CellV.cs (cs.drop i)) hb1.drew (by rw [l1]; simp only [Nat.min_def]; split <;> omega)
    (fun j u hu => by
      rw [Addr.add_lit]
      have := hb2.cell (i * 5 + j)
      rw [← flat_drop CellV.len, List.getElem?_drop] at hu
      rw [List.getElem?_append_left (List.getElem?_eq_some_iff.1 hu).1, hu] at this
      exact this) (by simp only [List.length_append, List.length_take, List.length_drop, l1, l2, hRl]; omega) (flat_ones _)
  rw [insList2 (by omega) hn hm (by omega) hRt, ← hL] at hb3
  have hLl : L.length = n + m := by rw [hL]; simp [hn, hm]; omega
  have FIN : InsTo w B (.slice (some ⟨g, 0, none⟩) n cap) (n + m) L (.returned (.slice (some ⟨N, 0, none⟩) (n + m) G)) w3 := by
    refine ⟨_, rfl, blk_ownsRow (by omega) hb3 (by rw [flat_length CellV.len, hLl]) hGn hGm ?_, ?_, fun g' e => ?_⟩
    · rw [flat_length CellV.len, hLl, List.length_drop, hRl]; omega
    · have far : ∀ k, k < w.heap.size → one N k → False := fun k hk e => by have e' : k = N := e; omega
      exact ((m0.transIn m1 far).drew.transIn m2 far).mono (fun _ _ e => e.elim)
    · have e' : N = g' := by simpa [Value.ownBlock] using e
      right; omega
  have FIN := Lib.hid FIN
  have HC1 := Lib.hid hc1
  have HC2 := Lib.hid hc2
  have HRZ := Lib.hid hrz
  have hm0 : ((m : Int) == 0) = false := by simp; omega
  have hnn : ((i : Int) == (n : Int)) = false := by simp; omega
  have hd1 : decide ((cap : Int) < (n : Int) + m) = true := by simp; omega
  have hw1 : IntKind.i64.wrap ((i : Int) + (m : Int)) = (i : Int) + (m : Int) := by rw [IntKind.wrap_i64]; omega
  have hb1' : (0 : Int) ≤ (i : Int) + (m : Int) := by omega
  have htn : ((i : Int) + (m : Int)).toNat = i + m := by omega
  have hcn1 : ¬ (G = i + m) := by omega
  have hcn2 : ¬ (G = i) := by omega
  have hcn3 : ¬ (cap = i) := by omega
  have hb3' : (i : Int) ≤ (n : Int) + (m : Int) := by omega
  have hin : i ≤ n := by omega
  clear hL hb1 m1 hb2 m2 hs hc1 hc2 hi0 hz0 hz1 hz2 l0 l1 l2 l3 hb hb0 hs0 b0 m0 hb3 hkk hik hold hG hzl hR hRA hRl hRt hrz hN hLl
  go_enter Tryz.func140, Tryz.ntmps140
  have hc1 := HC1.out
  go_wp2_with (at_builtin; refine Lib.wpList_append_run _ rfl _ _ _ _ rfl _ _ rfl rfl _ _ HRZ.out ?_)
  clear hc1
  go_region_law (refine step_copy_runI rfl _ _ 22 22 rfl _ _ (by simp [Act.eval, Act.put]) (by simp [Act.eval, Act.put]) HC2.out ?_)
  go_wp2_with fail
  go_ret
  exact FIN.out

/-- Insert, whichever way. -/
theorem ins_any (w : World) (v : Value) (n i m vb vc : Nat) (cs vs : List CellV) (hv : w.ownsRow 0 47 5 v n (flat CellV.cs cs)) (hn : cs.length = n) (hi : i ≤ n) (hs : Blk w vb (flat CellV.cs vs) 47) (hne : v.ownBlock ≠ some vb) (hm : vs.length = m) (h0 : 0 < m) (hbig : n + m ≤ 1099511627776) :
    Calls Tryz.prog 140 #[v, .int .i64 (i : Int), .slice (some ⟨vb, 0, none⟩) m vc] w (InsTo w 0 v (n + m) (cs.take i ++ vs ++ cs.drop i)) := by
  by_cases h : i = n
  · subst h
    have e : cs.take i ++ vs ++ cs.drop i = cs ++ vs := by rw [List.take_of_length_le (by omega), List.drop_eq_nil_of_le (by omega), List.append_nil]
    rw [e]
    exact insEnd_any w 0 v i m vb vc cs vs hv hs hm h0 hbig (Nat.zero_le _)
  · rcases ownsRow_blk hv with ⟨_, e, _⟩ | ⟨g, cap, more, rfl, _, hb, h1, h2, h3⟩
    · omega
    · have l0 : (flat CellV.cs cs).length = n * 5 := by rw [flat_length CellV.len, hn]
      have hvg : vb ≠ g := fun e => hne (by rw [e]; rfl)
      by_cases hr : n + m ≤ cap
      · exact insShift_any w 0 g cap n i m vb vc cs vs more hb (Nat.zero_le _) hn (by omega) hs hvg hm h0 (by omega) hr h2
      · exact insGrow_any w 0 g cap n i m vb vc cs vs more hb (Nat.zero_le _) hn h1 hs hm h0 (by omega) (by omega) hbig h2
end Go.Proofs.YtlidmajcdjlcnaaGreatDoor

namespace Go.Proofs.YtlidmajcdjlcnaaGreatDoor
open Go.RowKit Go.Shelf Go.Mine
open Classical
attribute [local go_sem] Oper.semAt_some
attribute [local go_sem ↓] app_fold

theorem zBlock (w : World) : (zeroValue 145).run Tryz.prog w = .ok (.agg #[.int .i64 0, .int .i64 0, .slice none 0 0]) w := by kernel_rfl

theorem bl_len {bl : List BV} (h : ∀ x ∈ bl, x.c ≠ []) : bl.length ≤ (cellsOf bl).length := by
  induction bl with
  | nil => simp
  | cons x r ih =>
    have h1 := ih (fun y hy => h y (List.mem_cons_of_mem _ hy))
    have h2 := h x (by simp)
    have h3 : 0 < x.c.length := List.length_pos_iff.2 h2
    simp only [cellsOf, List.flatMap_cons, List.length_append, List.length_cons] at *
    omega
/-- A document of no block gets an empty one. -/
theorem first_block {w : World} {D MB : Nat} {v : Value} (h : DocV w D v MB []) :
    ∃ v' w', (Builtin.append_ #[137, 137] 137 #[v, .slice (some ⟨w.heap.size + 1, 0, none⟩) 1 1]).run Tryz.prog ((w.alloc (.cells #[.int .i64 0, .int .i64 0, .slice none 0 0] 145)).alloc (.cells #[.pointer (some ⟨w.heap.size, 0, none⟩)] 141)) = .ok v' w' ∧
      (∃ u, w'.cell? ⟨D, 0, none⟩ = some u) ∧ (∃ a c, v' = .slice a 1 c) ∧ w'.frozen? ⟨D, 0, none⟩ = false ∧ DocV (w'.setCell ⟨D, 0, none⟩ v') D v' MB [⟨w.heap.size, .slice none 0 0, []⟩] ∧ Mod (foot D v []) w (w'.setCell ⟨D, 0, none⟩ v') ∧ ∀ k, foot D v' [⟨w.heap.size, .slice none 0 0, []⟩] k → foot D v [] k ∨ w.heap.size ≤ k := by
  obtain ⟨i0, hi0, hz0, hz1, hz2⟩ := info_parts infoPtr
  have m1 := (Mod.refl none_ w).alloc (.cells #[.int .i64 0, .int .i64 0, .slice none 0 0] 145)
  have m2 := m1.alloc (.cells #[.pointer (some ⟨w.heap.size, 0, none⟩)] 141)
  have kb := (Blk.new (w := w) (cs := [.int .i64 0, .int .i64 0, .slice none 0 0]) (t := 145)).mod ((Mod.refl none_ _).alloc (.cells #[.pointer (some ⟨w.heap.size, 0, none⟩)] 141)) (fun e => e)
  have kp := Blk.new (w := w.alloc (.cells #[.int .i64 0, .int .i64 0, .slice none 0 0] 145)) (cs := [.pointer (some ⟨w.heap.size, 0, none⟩)]) (t := 141)
  rw [World.size_alloc] at kp
  have hsz := m2.size
  generalize (w.alloc (.cells #[.int .i64 0, .int .i64 0, .slice none 0 0] 145)).alloc (.cells #[.pointer (some ⟨w.heap.size, 0, none⟩)] 141) = wA at m2 kb kp hsz
  have ho := ownsRow_mod h.ptrs m2 (fun _ _ e => e)
  have hd := h.doc.mod m2 (fun e => e)
  obtain ⟨v', w', hrun, hown, hg, hf⟩ := append_fresh (P := Tryz.prog) (ty := 137) Tryz.underlying137 hi0 hz0 hz1 hz2 rfl (by decide) ho ⟨w.heap.size + 1, 0, none⟩ 1 1 [.pointer (some ⟨w.heap.size, 0, none⟩)] rfl (fun j u hu => by rw [Addr.add_lit, Nat.zero_add, kp.cell]; exact hu) (fun u hu => by rw [List.mem_singleton.1 hu]; rfl) (by simp; unfold maxLen; omega) (by simp) (by omega) (by omega)
  have mg : Mod (fun k => v.ownBlock = some k) wA w' := (Mod.refl _ wA).grown hg (fun k e _ => e)
  have hty : ∀ k, v.ownBlock = some k → ∃ cs, Blk wA k cs 141 := fun k e => ownsRow_type ho e
  have hd' := hd.mod mg (fun e => by obtain ⟨cs, hc⟩ := hty _ e; exact Blk.apart hd hc (by decide) rfl)
  have kb' := kb.mod mg (fun e => by obtain ⟨cs, hc⟩ := hty _ e; exact Blk.apart kb hc (by decide) rfl)
  have ms : Mod (one D) w' (w'.setCell ⟨D, 0, none⟩ v') := (Mod.refl (one D) w').setCell ⟨D, 0, none⟩ (fun _ => rfl) _
  have hform : ∃ a c, v' = .slice a 1 c := by
    rcases ownsRow_blk hown with ⟨_, e, _⟩ | ⟨g, c', _, e, _⟩
    · simp at e
    · exact ⟨_, _, by simpa using e⟩
  refine ⟨v', w', hrun, ⟨_, hd'.cell 0⟩, hform, hd'.frozen 0, ⟨hd'.set 0 v', ?_, ?_, List.pairwise_singleton _ _⟩, ?_, ?_⟩
  · refine ownsRow_mod (by simpa [ptrsOf] using hown) ms (fun k hk e => ?_)
    have e' : k = D := e
    subst e'
    obtain ⟨cs, hc⟩ := ownsRow_type hown hk
    exact Blk.apart hd' hc (by decide) rfl
  · intro x hx
    rw [List.mem_singleton.1 hx]
    refine ⟨kb'.mod ms (fun e => Blk.apart kb' hd' (by decide) e), World.ownsRow_nil _ _ _ _⟩
  · exact (((m2.mono (T := foot D v []) (fun _ _ e => e.elim))).trans (mg.mono (fun k _ e => .inr (.inl e)))).trans (ms.mono (fun k _ e => .inl e))
  · intro k hk
    rcases hk with rfl | hk | ⟨x, hx, hk⟩
    · exact .inl (.inl rfl)
    · rcases hf k hk with e | e
      · exact .inl (.inr (.inl e))
      · exact .inr (by omega)
    · rw [List.mem_singleton.1 hx] at hk
      rcases hk with rfl | hk
      · exact .inr (Nat.le_refl _)
      · cases hk

theorem cells_ins {A B P : List BV} {x : BV} {fs : List CellV} {i p : Nat} (hP : cellsOf P = x.c.take i ++ fs ++ x.c.drop i) (hi : i ≤ x.c.length) (hp : (cellsOf A).length + i = p) :
    cellsOf (A ++ P ++ B) = (cellsOf (A ++ x :: B)).take p ++ fs ++ (cellsOf (A ++ x :: B)).drop p := by
  have e1 : cellsOf (A ++ P ++ B) = cellsOf A ++ cellsOf P ++ cellsOf B := by simp [cellsOf]
  have e2 : cellsOf (A ++ x :: B) = (cellsOf A ++ x.c.take i) ++ (x.c.drop i ++ cellsOf B) := by
    simp only [cellsOf, List.flatMap_append, List.flatMap_cons]
    conv => lhs; rw [← List.take_append_drop i x.c]
    simp only [List.append_assoc]
  have hl : (cellsOf A ++ x.c.take i).length = p := by rw [List.length_append, List.length_take]; omega
  rw [e1, e2, hP, ← hl, List.take_left, List.drop_left]
  simp only [List.append_assoc]
theorem foot_part {D : Nat} {v : Value} {A B P : List BV} {x : BV} {F : Nat → Prop} {w : World} (h : ∀ k, foot D v (A ++ x :: B) k → F k ∨ w.heap.size ≤ k) {v' : Value} (hv : ∀ g, v'.ownBlock = some g → v.ownBlock = some g ∨ w.heap.size ≤ g)
    (hP : ∀ y ∈ P, ∀ k, (k = y.p ∨ y.v.ownBlock = some k) → (k = x.p ∨ x.v.ownBlock = some k) ∨ w.heap.size ≤ k) : ∀ k, foot D v' (A ++ P ++ B) k → F k ∨ w.heap.size ≤ k := by
  intro k hk
  rcases hk with rfl | hk | ⟨y, hy, hk⟩
  · exact h _ (.inl rfl)
  · rcases hv k hk with e | e
    · exact h k (.inr (.inl e))
    · exact .inr e
  · simp only [List.mem_append] at hy
    rcases hy with (hy | hy) | hy
    · exact h k (.inr (.inr ⟨y, by simp [hy], hk⟩))
    · rcases hP y hy k hk with e | e
      · exact h k (.inr (.inr ⟨x, by simp, e⟩))
      · exact .inr e
    · exact h k (.inr (.inr ⟨y, by simp [hy], hk⟩))
theorem DocV.own {W W' : World} {B D MB : Nat} {v : Value} {bl : List BV} (h : DocV W D v MB bl) (m : Mod (loopOwn B W) W W') : DocV W' D v MB bl :=
  ⟨h.doc.own m, ownsRow_mod h.ptrs m (fun k hk s => by obtain ⟨cs, hc⟩ := ownsRow_type h.ptrs hk; have := s.2 _ hc; cases this),
    fun x hx => ⟨(h.blk x hx).b.own m, ownsRow_mod (h.blk x hx).o m (fun k hk s => by obtain ⟨cs, hc⟩ := ownsRow_type (h.blk x hx).o hk; have := s.2 _ hc; cases this)⟩, h.apart⟩
/-- A block gives way to others. -/
theorem DocV.rep {w5 W w9 : World} {D MB T : Nat} {v v' : Value} {A B bv : List BV} {y : BV} (h5 : DocV w5 D v MB (A ++ y :: B)) (m0 : Mod none_ w5 W) (hb : ∀ z ∈ bv, BlkV W z ∧ w5.heap.size ≤ z.p ∧ ∀ g, z.v.ownBlock = some g → w5.heap.size ≤ g) (hp : bv.Pairwise apartB)
    (m9 : Mod (fun b => v.ownBlock = some b) W w9) (ho : w9.ownsRow 0 141 1 v' T (ptrsOf (A ++ bv ++ B))) : DocV (w9.setCell ⟨D, 0, none⟩ v') D v' MB (A ++ bv ++ B) ∧ Mod (fun b => v.ownBlock = some b ∨ b = D) W (w9.setCell ⟨D, 0, none⟩ v') := by
  have h := h5.grown m0
  have hd := h.doc.mod m9 (fun e => by obtain ⟨cs, hc⟩ := ownsRow_type h.ptrs e; exact Blk.apart h.doc hc (by decide) rfl)
  have ms : Mod (one D) w9 (w9.setCell ⟨D, 0, none⟩ v') := (Mod.refl (one D) w9).setCell ⟨D, 0, none⟩ (fun _ => rfl) _
  have keep : ∀ z, BlkV W z → BlkV (w9.setCell ⟨D, 0, none⟩ v') z := fun z hz => by
    have h9 : BlkV w9 z := hz.mod m9 (fun e => by obtain ⟨cs, hc⟩ := ownsRow_type h.ptrs e; exact Blk.apart hz.b hc (by decide) rfl) (fun g hg e => by
      obtain ⟨cs, hc⟩ := ownsRow_type h.ptrs e
      obtain ⟨cs', hc'⟩ := hz.apart_arr hg
      exact Blk.apart hc hc' (by decide) rfl)
    exact h9.mod ms (fun e => Blk.apart h9.b hd (by decide) e) (fun g hg e => by
      have e' : g = D := e
      subst e'
      obtain ⟨cs, hc⟩ := h9.apart_arr hg
      exact Blk.apart hc hd (by decide) rfl)
  have hT : T = (A ++ bv ++ B).length := by have := ho.1; simp [ptrsOf] at this ⊢; omega
  have old : ∀ z, (z ∈ A ∨ z ∈ B) → z.p < w5.heap.size ∧ ∀ g, z.v.ownBlock = some g → g < w5.heap.size := fun z hz => by
    have hzb := h5.blk z (by rcases hz with hz | hz <;> simp [hz])
    exact ⟨hzb.b.lt, fun g hg => (hzb.o.lt g hg).2⟩
  have cross : ∀ z u, (z ∈ A ∨ z ∈ B) → u ∈ bv → apartB z u ∧ apartB u z := fun z u hz hu => by
    obtain ⟨o1, o2⟩ := old z hz
    obtain ⟨_, n1, n2⟩ := hb u hu
    exact ⟨⟨by omega, fun g h1 h2 => by have := o2 g h1; have := n2 g h2; omega⟩, ⟨by omega, fun g h1 h2 => by have := o2 g h2; have := n2 g h1; omega⟩⟩
  obtain ⟨apA, apX, apAX⟩ := List.pairwise_append.1 h5.apart
  obtain ⟨apXB, apB⟩ := List.pairwise_cons.1 apX
  refine ⟨⟨hd.set 0 v', ?_, ?_, ?_⟩, (m9.mono (fun _ _ e => .inl e)).trans (ms.mono (fun _ _ e => .inr e))⟩
  · rw [← hT]
    refine ownsRow_mod ho ms (fun k hk e => ?_)
    have e' : k = D := e
    subst e'
    obtain ⟨cs, hc⟩ := ownsRow_type ho hk
    exact Blk.apart hc hd (by decide) rfl
  · intro z hz
    simp only [List.mem_append] at hz
    rcases hz with (hz | hz) | hz
    · exact keep z (h.blk z (by simp [hz]))
    · exact keep z (hb z hz).1
    · exact keep z (h.blk z (by simp [hz]))
  · refine List.pairwise_append.2 ⟨List.pairwise_append.2 ⟨apA, hp, fun z hz u hu => (cross z u (.inl hz) hu).1⟩, apB, fun z hz u hu => ?_⟩
    rcases List.mem_append.1 hz with hz | hz
    · exact apAX z hz u (by simp [hu])
    · exact (cross u z (.inr hu) hz).2
theorem blkCells {w : World} {g n cap : Nat} {l : List CellV} {more : List Value} (k : Blk w g (flat CellV.cs l ++ more) 47) (hn : l.length = n) (hc : n ≤ cap) (hm : cap ≤ maxLen) (hok : ∀ c ∈ l, c.ok) : IsCells w (some ⟨g, 0, none⟩) n cap l :=
  ⟨hn, hc, hm, hok, fun i c hx => ⟨g, 0, rfl, fun j v hv => by
    have hj : j < 5 := (List.getElem?_eq_some_iff.1 hv).1
    have := Blk.elem CellV.len k i j c hx hj
    rw [Nat.zero_add, this]; exact hv⟩⟩
/-- What insert leaves. -/
def DinTo (w : World) (D : Nat) (v : Value) (MB : Nat) (bl : List BV) (l : List CellV) (e : Ending) (w' : World) : Prop :=
  e = .returned (.tuple #[]) ∧ Mod (foot D v bl) w w' ∧ ∃ v' bl', DocV w' D v' MB bl' ∧ cellsOf bl' = l ∧ (∀ k, foot D v' bl' k → foot D v bl k ∨ w.heap.size ≤ k) ∧ ∀ x ∈ bl', x.c ≠ []

set_option maxHeartbeats 4000000 in
set_option maxRecDepth 1000000 in
theorem insert_any (w : World) (D MB p vb vc m : Nat) (v : Value) (bl : List BV) (fs : List CellV) (h : DocV w D v MB bl) (hne : ∀ x ∈ bl, x.c ≠ []) (hp : p ≤ (cellsOf bl).length) (hlen : (cellsOf bl).length + m ≤ 1099511627776)
    (hs : Blk w vb (flat CellV.cs fs) 47) (hvb : ¬ foot D v bl vb) (hm : fs.length = m) (h0 : 0 < m) (hok : ∀ c ∈ cellsOf bl, c.ok) (hfok : ∀ c ∈ fs, c.ok) :
    Calls Tryz.prog 120 #[.pointer (some ⟨D, 0, none⟩), .int .i64 (p : Int), .slice (some ⟨vb, 0, none⟩) m vc] w (DinTo w D v MB bl ((cellsOf bl).take p ++ fs ++ (cellsOf bl).drop p)) := by
  obtain ⟨F, hF⟩ : ∃ F, F = foot D v bl := ⟨_, rfl⟩
  obtain ⟨L, hL⟩ : ∃ L, L = (cellsOf bl).take p ++ fs ++ (cellsOf bl).drop p := ⟨_, rfl⟩
  rw [← hL]
  obtain ⟨va, vca, rfl, hvc, hvm⟩ := h.form
  unfold maxLen at hvm
  have cd : w.cell? ⟨D, 0, none⟩ = some (.slice va bl.length vca) := h.doc.cell 0
  have H := Lib.hid h
  have HF := Lib.hid hF
  have HL := Lib.hid hL
  have HS := Lib.hid hs
  have HNE := Lib.hid hne
  have HVB := Lib.hid hvb
  have HOK := Lib.hid hok
  have HFOK := Lib.hid hfok
  clear h hF hL hs hne hvb hok hfok
  refine (callsIn_wide (n := 5)).1 ?_
  refine callsIn_of_wp_marks Tryz.func120 rfl trivial ?_ rfl
  refine wpIn_wide.2 (Code.wp_mono (Q := calmPost _) calmPost.out ?_)
  simp only [Tryz.ntmps120, List.size_toArray, List.length_cons, List.length_nil, Nat.reduceAdd, Nat.reduceSub, Array.replicate_succ, Array.replicate_zero, List.push_toArray, List.append_toArray, List.nil_append, List.cons_append]
  go_upto_if 16 with fail
  go_cut [] from 11 to 28 (fun wx => RowKit.Hid (∃ v1 bl1, DocV wx D v1 MB bl1 ∧ cellsOf bl1 = cellsOf bl ∧ 0 < bl1.length ∧ Mod F w wx ∧ (∀ k, foot D v1 bl1 k → F k ∨ w.heap.size ≤ k) ∧ bl1.length ≤ (cellsOf bl).length + 1 ∧ ∀ x ∈ bl1, x.c = [] → bl1.length = 1))
  case first =>
    by_cases hb : bl.length = 0
    · have hbl : bl = [] := List.eq_nil_of_length_eq_zero hb
      have hd : ((bl.length : Int) == 0) = true := by simp [hb]
      have hh := H.out
      rw [hbl] at hh
      obtain ⟨v1, w1, hrun, ⟨u, hu⟩, ⟨a1, c1, rfl⟩, hfz, hdv, hmod, hft⟩ := first_block hh
      have FIN := Lib.hid (show ∃ v2 bl1, DocV (w1.setCell ⟨D, 0, none⟩ (.slice a1 1 c1)) D v2 MB bl1 ∧ cellsOf bl1 = cellsOf bl ∧ 0 < bl1.length ∧ Mod F w (w1.setCell ⟨D, 0, none⟩ (.slice a1 1 c1)) ∧ (∀ k, foot D v2 bl1 k → F k ∨ w.heap.size ≤ k) ∧ bl1.length ≤ (cellsOf bl).length + 1 ∧ ∀ x ∈ bl1, x.c = [] → bl1.length = 1 by
        refine ⟨_, _, hdv, by rw [hbl]; rfl, by simp, by rw [HF.out, hbl]; exact hmod, by rw [HF.out, hbl]; exact hft, by simp, fun _ _ _ => rfl⟩)
      have hz := zBlock
      have HRUN := Lib.hid (show (Builtin.append_ #[137, 137] 137 #[.slice va bl.length vca, .slice (some ⟨w.heap.size + 1, 0, none⟩) 1 1]).run Tryz.prog ((w.alloc (.cells #[.int .i64 0, .int .i64 0, .slice none 0 0] 145)).alloc (.cells #[.pointer (some ⟨w.heap.size, 0, none⟩)] 141)) = .ok (.slice a1 1 c1) w1 by rw [hbl]; exact hrun)
      have hlt := block_lt_of_cell cd
      clear hh hrun hdv hmod hft hbl hb
      go_wp2_with (at_builtin; refine Lib.wpList_append_run _ rfl (.tmp 21) (.tmp 24) 137 137 rfl _ _ rfl rfl _ _ HRUN.out ?_)
      go_meet
      exact FIN
    · have hd : ((bl.length : Int) == 0) = false := by simp [hb]
      go_wp2_with fail
      go_meet
      exact Lib.hid ⟨_, bl, H.out, rfl, by omega, Mod.refl _ _, fun k hk => .inl (by rw [HF.out]; exact hk), by have := bl_len HNE.out; omega, fun x hx e => absurd e (HNE.out x hx)⟩
  case rest =>
    obtain ⟨v1, bl1, hv1, hc1, hb1, m1, hft1, hbl1, hem1⟩ := hcut.out
    obtain ⟨w1, rfl⟩ : ∃ w1 : World, w1 = wc := ⟨_, rfl⟩
    have HV1 := Lib.hid hv1
    have HC1 := Lib.hid hc1
    have M1 := Lib.hid m1
    have HF1 := Lib.hid hft1
    have HE1 := Lib.hid hem1
    have HFI := Lib.hid (find_any w1 D MB p v1 bl1 hv1 (by rw [hc1]; omega) (by rw [hc1]; exact hp) hb1)
    have cd1 := hv1.doc.cell 0
    obtain ⟨va1, vc1, rfl, hvc1, hvm1⟩ := hv1.form
    unfold maxLen at hvm1
    clear hv1 hc1 m1 hft1 hem1 hcut cd
    go_wp2_with fail
    refine HFI.out.mono ?_
    rintro e w2 ⟨k, i, x, rfl, hx, hix, hpk, m2⟩
    have hv2 := HV1.out.grown m2
    obtain ⟨g, rfl, c0⟩ := hv2.at_ hx
    have hkl : k < bl1.length := (List.getElem?_eq_some_iff.1 hx).1
    have hdec : bl1 = bl1.take k ++ x :: bl1.drop (k + 1) := by
      obtain ⟨hk', e⟩ := List.getElem?_eq_some_iff.1 hx
      rw [← e, List.getElem_cons_drop, List.take_append_drop]
    have hbx := hv2.blk x (List.mem_of_getElem? hx)
    have b0 : w2.cell? ⟨x.p, 0, none⟩ = some (.int .i64 (x.c.length : Int)) := by rw [hbx.b.cell]; rfl
    have b2 : w2.cell? ⟨x.p, 2, none⟩ = some x.v := by rw [hbx.b.cell]; rfl
    have cd2 : w2.cell? ⟨D, 0, none⟩ = some (.slice (some ⟨g, 0, none⟩) bl1.length vc1) := hv2.doc.cell 0
    have f2 := hbx.b.frozen 2
    clear cd1
    have HX := Lib.hid hx
    have HPK := Lib.hid hpk
    have HIX := Lib.hid hix
    have HDEC := Lib.hid hdec
    have M2 := Lib.hid m2
    have HV2 := Lib.hid hv2
    have HBX := Lib.hid hbx
    have hxF : ∀ b, (b = x.p ∨ x.v.ownBlock = some b) → F b ∨ w.heap.size ≤ b := fun b hb => HF1.out b (.inr (.inr ⟨x, List.mem_of_getElem? hx, hb⟩))
    have hvl := HS.out.lt
    have hs2 := HS.out.mod M1.out (fun e => HVB.out (by rw [← HF.out]; exact e))
    have hs2 := hs2.mod m2 (fun e => e)
    have hvx : x.v.ownBlock ≠ some vb := fun e => by
      rcases hxF vb (.inr e) with h | h
      · exact HVB.out (by rw [← HF.out]; exact h)
      · omega
    have hxl : x.c.length ≤ (cellsOf bl).length := by
      rw [← HC1.out, cellsOf_step hx]; simp; omega
    have HIN := Lib.hid (ins_any w2 x.v x.c.length i m vb vc x.c fs hbx.o rfl hix hs2 hvx hm h0 (by omega))
    have HXF := Lib.hid hxF
    clear hx hpk hix hdec m2 hv2 hbx hxF hs2 hvx
    go_wp2_with fail
    refine HIN.out.mono ?_
    rintro e w3 ⟨v', rfl, ho3, m3, hf3⟩
    obtain ⟨a', c', rfl⟩ : ∃ a' c', v' = .slice a' (x.c.length + m) c' := by
      rcases ownsRow_blk ho3 with ⟨_, e, _⟩ | ⟨g, c', _, rfl, _⟩
      · omega
      · exact ⟨_, _, rfl⟩
    have hno : ¬ x.v.ownBlock = some x.p := fun e => by
      obtain ⟨cs, hc⟩ := HBX.out.apart_arr e
      exact Blk.apart HBX.out.b hc (by decide) rfl
    have k3 := HBX.out.b.mod m3 hno
    have x2 : w3.cell? ⟨x.p, 2, none⟩ = some x.v := by rw [k3.cell]; rfl
    have xf2 := k3.frozen 2
    have K4 := Lib.hid (k3.set 2 (.slice a' (x.c.length + m) c'))
    have M4 := Lib.hid ((m3.mono (T := fun b => b = x.p ∨ x.v.ownBlock = some b) (fun b _ e => .inr e)).setCell ⟨x.p, 2, none⟩ (fun _ => .inl rfl) (.slice a' (x.c.length + m) c'))
    have hno4 : (Value.slice a' (x.c.length + m) c').ownBlock ≠ some x.p := fun e => by
      obtain ⟨cs, hc⟩ := ownsRow_type ho3 e
      exact Blk.apart k3 hc (by decide) rfl
    have O4 := Lib.hid (ownsRow_mod ho3 ((Mod.refl (one x.p) w3).setCell ⟨x.p, 2, none⟩ (fun _ => rfl) (.slice a' (x.c.length + m) c')) (fun g hg e => hno4 (by have e' : g = x.p := e; rw [← e']; exact hg)))
    have HF3 := Lib.hid hf3
    have HNO4 := Lib.hid hno4
    clear ho3 m3 hf3 hno k3 hno4 b2 f2 b0
    obtain ⟨N, hN⟩ : ∃ N, N = x.c.take i ++ fs ++ x.c.drop i := ⟨_, rfl⟩
    have hNl : N.length = x.c.length + m := by
      have := HIX.out
      rw [hN]; simp [hm]; omega
    have HN := Lib.hid hN
    have HNL := Lib.hid hNl
    rw [← hN] at O4
    clear hN hNl
    go_wp2_with fail
    refine (count_any _ x.p 0 _ _ (.slice a' (x.c.length + m) c') (x.c.length + m) N (by exact K4.out) O4.out HNO4.out HNL.out (by omega)).mono ?_
    rintro e w5 ⟨rfl, k5, m5⟩
    have b50 : w5.cell? ⟨x.p, 0, none⟩ = some (.int .i64 ((x.c.length + m : Nat) : Int)) := by rw [k5.cell]; rfl
    have b52 : w5.cell? ⟨x.p, 2, none⟩ = some (.slice a' (x.c.length + m) c') := by rw [k5.cell]; rfl
    have M5 := Lib.hid (M4.out.trans (m5.mono (T := fun b => b = x.p ∨ x.v.ownBlock = some b) (fun b _ e => .inl e)))
    have O5 := Lib.hid (ownsRow_mod O4.out m5 (fun g hg e => HNO4.out (by have e' : g = x.p := e; rw [← e']; exact hg)))
    have K5 := Lib.hid k5
    obtain ⟨y, hy⟩ : ∃ y : BV, y = ⟨x.p, .slice a' (x.c.length + m) c', N⟩ := ⟨_, rfl⟩
    have hby : BlkV w5 y := by rw [hy]; exact ⟨by rw [HNL.out]; exact k5, by rw [HNL.out]; exact O5.out⟩
    have hvu : DocV w5 D (.slice (some ⟨g, 0, none⟩) bl1.length vc1) MB (bl1.take k ++ y :: bl1.drop (k + 1)) := by
      have := HV2.out
      rw [HDEC.out] at this
      have e : (bl1.take k ++ x :: bl1.drop (k + 1)).length = bl1.length := by rw [← HDEC.out]
      rw [e] at this
      refine this.upd M5.out hby (by rw [hy]) (fun g hg => ?_)
      rw [hy] at hg
      exact (HF3.out g hg).imp id (fun h => h)
    have HVU := Lib.hid hvu
    have HY := Lib.hid hy
    have hnA : ∀ z ∈ bl1.take k ++ bl1.drop (k + 1), z.c ≠ [] := fun z hz e => by
      have h1 := HE1.out z (by rw [HDEC.out]; simp only [List.mem_append, List.mem_cons] at hz ⊢; rcases hz with h | h; exact .inl h; exact .inr (.inr h)) e
      have h2 : (bl1.take k ++ bl1.drop (k + 1)).length = 0 := by simp only [List.length_append, List.length_take, List.length_drop]; omega
      rw [List.eq_nil_of_length_eq_zero h2] at hz
      cases hz
    have hsz2 : w.heap.size ≤ w2.heap.size := by have := M1.out.size; have := M2.out.size; omega
    have m05 : Mod F w w5 := (M1.out.trans (M2.out.mono (fun _ _ e => e.elim))).transIn M5.out (fun b hb e => by
      rcases HXF.out b e with h | h
      · exact h
      · omega)
    have M05 := Lib.hid m05
    have HNA := Lib.hid hnA
    clear k5 m5 x2 xf2 hby hvu hy hnA m05
    by_cases hsm : x.c.length + m ≤ 128
    · have hd1 : decide (x.c.length + m ≤ 128) = true := by simpa using hsm
      have hd2 : decide (((x.c.length + m : Nat) : Int) ≤ 128) = true := by simp; omega
      have hd3 : decide ((x.c.length : Int) + (m : Int) ≤ 128) = true := by simp; omega
      have FIN : DinTo w D (.slice va bl.length vca) MB bl L (.returned (.tuple #[])) w5 := by
        refine ⟨rfl, by rw [← HF.out]; exact M05.out, .slice (some ⟨g, 0, none⟩) bl1.length vc1, bl1.take k ++ [y] ++ bl1.drop (k + 1), ?_, ?_, ?_, ?_⟩
        · rw [List.append_assoc]; exact HVU.out
        · rw [HL.out, ← HC1.out]
          conv => rhs; rw [HDEC.out]
          exact cells_ins (x := x) (i := i) (by rw [HY.out]; simp [cellsOf, HN.out]) HIX.out HPK.out
        · rw [← HF.out]
          refine foot_part (x := x) (v := .slice (some ⟨g, 0, none⟩) bl1.length vc1) (by rw [← HDEC.out]; exact HF1.out) (fun g hg => .inl hg) (fun z hz b hb => ?_)
          rw [List.mem_singleton.1 hz, HY.out] at hb
          rcases hb with hb | hb
          · exact .inl (.inl hb)
          · rcases HF3.out b hb with h | h
            · exact .inl (.inr h)
            · exact .inr (by omega)
        · intro z hz
          simp only [List.mem_append, List.mem_singleton] at hz
          rcases hz with (hz | rfl) | hz
          · exact HNA.out z (by simp [hz])
          · rw [HY.out]
            intro e
            have := HNL.out
            simp only at e
            rw [e] at this
            simp at this; omega
          · exact HNA.out z (by simp [hz])
      have FIN := Lib.hid FIN
      go_wp2_with fail
      exact ⟨_, results_none rfl _ _ _, FIN.out⟩
    · have hd1 : decide (x.c.length + m ≤ 128) = false := by simpa using hsm
      have hd2 : decide (((x.c.length + m : Nat) : Int) ≤ 128) = false := by simp; omega
      have hd3 : decide ((x.c.length : Int) + (m : Int) ≤ 128) = false := by simp; omega
      have b52a := ((Mod.refl none_ w5).alloc (.cells #[.slice none 0 0] 137)).cell (p := ⟨x.p, 2, none⟩) (fun e => e) b52
      have hxlt := block_lt_of_cell b52
      go_wp2_with fail
      refine (chunk_any a' (x.c.length + m) c' _).mono ?_
      rintro e w6 ⟨rfl, rfl⟩
      go_wp2_with fail
      obtain ⟨W0, hW0⟩ : ∃ W0, (((w5.alloc (.cells #[.slice none 0 0] 137)).alloc (.cells #[.slice a' (x.c.length + m) c'] 22)).alloc (.cells #[.int .i64 64] 3)) = W0 := ⟨_, rfl⟩
      obtain ⟨len, hlenE⟩ : ∃ len, len = x.c.length + m := ⟨_, rfl⟩
      obtain ⟨P9, hP9e⟩ : ∃ P9, P9 = w5.heap.size := ⟨_, rfl⟩
      have hP9 : w5.heap.size ≤ P9 := by omega
      have hz : W0.heap.size = w5.heap.size + 3 := by rw [← hW0]; simp
      have hO5 := O5.out
      have hNle := HNL.out
      rw [← hlenE] at hO5 hNle
      have HNL := Lib.hid hNle
      obtain ⟨ga, ca, hva', hca1, hca2, hga, _, _⟩ := own_form hO5 (by omega)
      cases hva'
      have hokN : ∀ c ∈ N, c.ok := by
        intro c hc
        rw [HN.out] at hc
        have hx : ∀ c ∈ x.c, c.ok := fun c hc => HOK.out c (by
          rw [← HC1.out, HDEC.out]
          simp only [cellsOf, List.mem_flatMap]
          exact ⟨x, by simp, hc⟩)
        simp only [List.mem_append] at hc
        rcases hc with (hc | hc) | hc
        · exact hx c (List.mem_of_mem_take hc)
        · exact HFOK.out c hc
        · exact hx c (List.mem_of_mem_drop hc)
      have HIC : RowKit.Hid (IsCells w5 (some ⟨ga, 0, none⟩) len c' N) := by
        rcases ownsRow_blk hO5 with ⟨e, _, _⟩ | ⟨g', cp', more, e, _, hb, _, _, _⟩
        · cases e
        · cases e
          exact Lib.hid (blkCells hb hNle hca1 hca2 hokN)
      have hI0 : PartI w5 (some ⟨ga, 0, none⟩) len c' N P9 (w5.heap.size + 1) (w5.heap.size + 1 + 1) 0 W0 := by
        have g := fun (v : World) (o : Obj) => (Mod.refl none_ v).alloc o
        have b0 := Blk.new (w := w5) (cs := [.slice none 0 0]) (t := 137)
        have b1 := Blk.new (w := w5.alloc (.cells #[.slice none 0 0] 137)) (cs := [.slice (some ⟨ga, 0, none⟩) (x.c.length + m) c']) (t := 22)
        have b2 := Blk.new (w := (w5.alloc (.cells #[.slice none 0 0] 137)).alloc (.cells #[.slice (some ⟨ga, 0, none⟩) (x.c.length + m) c'] 22)) (cs := [.int .i64 64]) (t := 3)
        simp only [World.size_alloc] at b0 b1 b2
        rw [← hW0, hP9e, hlenE]
        exact ⟨((g _ _).trans (g _ _)).trans (g _ _), b1.mod (g _ _) (fun e => e), b2, .slice none 0 0, [], (b0.mod (g _ _) (fun e => e)).mod (g _ _) (fun e => e), ⟨World.ownsRow_nil _ _ _ _, fun x hx => by simp at hx⟩, by simp, rfl, List.Pairwise.nil, by simp⟩
      rw [hW0, ← hlenE]
      rw [← hP9e] at hI0 ⊢
      clear hW0
      have hlb : len ≤ 1099511627776 := by omega
      have hl128 : 128 < len := by omega
      have hzle : w5.heap.size + 3 ≤ W0.heap.size := by omega
      have HP9E := Lib.hid hP9e
      have HLE := Lib.hid hlenE
      clear hz hP9e hlenE hNle hO5
      refine wpIn_wide.1 (?_ : Code.wpIn Fence.wide 5 _ _ _ _ _)
      refine rangeFunc_upd (fun t x => (t.setIfInBounds 64 (chunkV ga 0 len x)).setIfInBounds 10 (chunkV ga 0 len x)) rfl (by decide) (gf := 122) (lb := #[.pointer (some ⟨P9 + 1, 0, none⟩), .pointer (some ⟨P9 + 1 + 1, 0, none⟩)]) rfl trivial (enters_of Tryz.func122 (by kernel_rfl) rfl)
        (fun x : Nat => #[chunkV ga 0 len x]) (fun _ => rfl) (PartI w5 (some ⟨ga, 0, none⟩) len c' N P9 (P9 + 1) (P9 + 1 + 1)) (fun _ _ _ => False) (fun st _ => st + 64) (fun st x => x = st ∧ x < len) (fun st => len ≤ st ∧ st % 64 = 0 ∧ st < len + 64) 0 ?hI ?hIx hI0 ?hiter ?assign ?body ?done ?stop
      case hI => exact PartI.stable (by omega)
      case hIx => intro _ _ _ _ h _; exact h.elim
      case hiter =>
        intro l' J Jx W hJI hJ hY h0
        exact chunk1_any Fence.wide rfl (5 - 1) (some ⟨ga, 0, none⟩) ga 0 len c' _ _ (fun _ => rfl) hca1 (by unfold maxLen at hca2; omega) hlb _ (fun i W h => ⟨h.2.1, h.2.2.1⟩) (fun i W h => by
          obtain ⟨m0, k2, k3, v, bl, kd, ⟨ho, hb⟩, e, e2, hap⟩ := h
          exact ⟨m0.drew, k2, k3, v, bl, kd, ⟨ho, fun x hx => (hb x hx).grown (Mod.drew (Mod.refl none_ W))⟩, e, e2, hap⟩) l' J Jx W hJI hJ hY h0
      case assign =>
        intro l' x W K hK
        gi_wp2
        exact hK
      case stop =>
        rintro D c s W h
        exact h.elim
      case body =>
        rintro l' st q W hI ⟨rfl, hq⟩
        obtain ⟨m0, ks, kn, v, pl, kd, ⟨ho, hbl⟩, hfl, hbn, hap⟩ := hI
        rw [chunkV_eq]
        obtain ⟨n1, hn1⟩ : ∃ n1, n1 = min 64 (len - q) := ⟨_, rfl⟩
        rw [← hn1]
        have hm1 : 1 ≤ n1 ∧ n1 ≤ 64 ∧ q + n1 ≤ len := by omega
        have HM := Lib.hid hn1
        obtain ⟨vpa, vpc, rfl⟩ : ∃ va vc, v = .slice va pl.length vc := by
          rcases ownsRow_blk ho with ⟨rfl, h0, _⟩ | ⟨g, c', _, rfl, _⟩
          · exact ⟨none, 0, by rw [h0]⟩
          · exact ⟨_, c', rfl⟩
        have c1 : W.drew.cell? ⟨P9, 0, none⟩ = some (.slice vpa pl.length vpc) := by
          have := kd.cell 0
          exact this
        have f1 : W.drew.frozen? ⟨P9, 0, none⟩ = false := kd.frozen 0
        have HC := Lib.hid ((HIC.out.grown m0).sub q n1 hm1.2.2)
        have hnb : pl.length ≤ 1099511627776 := by omega
        have KD := Lib.hid kd
        have HO := Lib.hid ho
        have WM := Lib.hid m0
        have KS := Lib.hid ks
        have KN := Lib.hid kn
        have HBL := Lib.hid hbl
        have HFL := Lib.hid hfl
        have HAP := Lib.hid hap
        rw [Nat.zero_add] at HC ⊢
        clear hn1 kd ho m0 ks kn hbl hfl hap b52a b52 b50 hI0
        simp only [List.setIfInBounds_toArray, List.set_cons_zero, List.set_cons_succ]
        gi_wp2_with fail
        refine round_held (S := fun _ => True) (by kernel_rfl) (by kernel_rfl) (fun ⟨_, _, h⟩ => h) trivial (fun hS => ?_)
        refine wpAnyH_take (i := 1) (v := .slice (some ⟨ga, q * 5, none⟩) n1 n1) rfl (by kernel_rfl) (by kernel_rfl) (by kernel_rfl) (fun _ _ _ h => h) (Or.inl ⟨by rfl, ?_⟩) hS ?_
        · intro w' hw'; go_simp
        simp only [Act.put, List.setIfInBounds_toArray]
        refine wpAnyH_ready (rs := [0, 2]) (by kernel_rfl) (by simp) (AllReadyH.cons rfl (fun K hK => ?_) <| AllReadyH.cons rfl (fun K hK => ?_) <| AllReadyH.nil)
        · go_simp
          refine hK.out _ _ trivial (fun hS => ?_)
          clear hK K
          try simp only [Act.put, List.setIfInBounds_toArray, List.set_cons_zero, List.set_cons_succ]
          refine wpAnyH_ready (rs := [2]) (by kernel_rfl) (by simp) (AllReadyH.cons rfl (fun K hK => ?_) <| AllReadyH.nil)
          go_simp
          refine (newBlock_any _ ga (q * 5) n1 n1 _ (HC.out.grown (Mod.drew (Mod.refl none_ W))) (by omega)).mono ?_
          rintro e w3 ⟨pb, rfl, hB, m3⟩
          obtain ⟨va', vc', w4, hrun, hown, hmg, hd4⟩ := partArm (p := pb) HO.out hnb WM.out.size m3 KD.out
          have d0 := m3.cell (p := ⟨P9, 0, none⟩) (fun e => e) c1
          have d0a := ((Mod.refl none_ w3).alloc (.cells #[.pointer (some ⟨pb, 0, none⟩)] 141)).cell (p := ⟨P9, 0, none⟩) (fun e => e) d0
          have d1 : w4.cell? ⟨P9, 0, none⟩ = some (.slice vpa pl.length vpc) := hd4.cell 0
          have d2 := hd4.frozen 0
          have END := Lib.hid (partEnd hP9 HNL.out WM.out KS.out KN.out HO.out HBL.out HFL.out hbn HAP.out hq rfl m3 (by rw [← HM.out]; exact hB) hown hmg hd4)
          clear hB m3 hown hmg hd4
          dsimp only
          refine hK.out _ _ trivial (fun hS => ?_)
          clear hK K
          try simp only [Act.put, List.setIfInBounds_toArray, List.set_cons_zero, List.set_cons_succ]
          refine wpAnyH_ready (rs := [3]) (by kernel_rfl) (by simp) (AllReadyH.cons rfl (fun K hK => ?_) <| AllReadyH.nil)
          go_simp
          refine hK.out _ _ trivial (fun hS => ?_)
          clear hK K
          try simp only [Act.put, List.setIfInBounds_toArray, List.set_cons_zero, List.set_cons_succ]
          refine wpAnyH_ready (rs := [4]) (by kernel_rfl) (by simp) (AllReadyH.cons rfl (fun K hK => ?_) <| AllReadyH.nil)
          go_simp
          refine hK.out _ _ trivial (fun hS => ?_)
          clear hK K
          try simp only [Act.put, List.setIfInBounds_toArray, List.set_cons_zero, List.set_cons_succ]
          refine wpAnyH_ready (rs := [5]) (by kernel_rfl) (by simp) (AllReadyH.cons rfl (fun K hK => ?_) <| AllReadyH.nil)
          go_simp
          refine hK.out _ _ trivial (fun hS => ?_)
          clear hK K
          try simp only [Act.put, List.setIfInBounds_toArray, List.set_cons_zero, List.set_cons_succ]
          refine wpAnyH_done (by kernel_rfl) ?_ _
          exact END.out
        · go_simp
          refine (newBlock_any _ ga (q * 5) n1 n1 _ (HC.out.grown (Mod.drew (Mod.refl none_ W))) (by omega)).mono ?_
          rintro e w3 ⟨pb, rfl, hB, m3⟩
          obtain ⟨va', vc', w4, hrun, hown, hmg, hd4⟩ := partArm (p := pb) HO.out hnb WM.out.size m3 KD.out
          have d0 := m3.cell (p := ⟨P9, 0, none⟩) (fun e => e) c1
          have d0a := ((Mod.refl none_ w3).alloc (.cells #[.pointer (some ⟨pb, 0, none⟩)] 141)).cell (p := ⟨P9, 0, none⟩) (fun e => e) d0
          have d1 : w4.cell? ⟨P9, 0, none⟩ = some (.slice vpa pl.length vpc) := hd4.cell 0
          have d2 := hd4.frozen 0
          have END := Lib.hid (partEnd hP9 HNL.out WM.out KS.out KN.out HO.out HBL.out HFL.out hbn HAP.out hq rfl m3 (by rw [← HM.out]; exact hB) hown hmg hd4)
          clear hB m3 hown hmg hd4
          dsimp only
          refine hK.out _ _ trivial (fun hS => ?_)
          clear hK K
          try simp only [Act.put, List.setIfInBounds_toArray, List.set_cons_zero, List.set_cons_succ]
          refine wpAnyH_ready (rs := [0, 3]) (by kernel_rfl) (by simp) (AllReadyH.cons rfl (fun K hK => ?_) <| AllReadyH.cons rfl (fun K hK => ?_) <| AllReadyH.nil)
          · go_simp
            refine hK.out _ _ trivial (fun hS => ?_)
            clear hK K
            try simp only [Act.put, List.setIfInBounds_toArray, List.set_cons_zero, List.set_cons_succ]
            refine wpAnyH_ready (rs := [3]) (by kernel_rfl) (by simp) (AllReadyH.cons rfl (fun K hK => ?_) <| AllReadyH.nil)
            go_simp
            refine hK.out _ _ trivial (fun hS => ?_)
            clear hK K
            try simp only [Act.put, List.setIfInBounds_toArray, List.set_cons_zero, List.set_cons_succ]
            refine wpAnyH_ready (rs := [4]) (by kernel_rfl) (by simp) (AllReadyH.cons rfl (fun K hK => ?_) <| AllReadyH.nil)
            go_simp
            refine hK.out _ _ trivial (fun hS => ?_)
            clear hK K
            try simp only [Act.put, List.setIfInBounds_toArray, List.set_cons_zero, List.set_cons_succ]
            refine wpAnyH_ready (rs := [5]) (by kernel_rfl) (by simp) (AllReadyH.cons rfl (fun K hK => ?_) <| AllReadyH.nil)
            go_simp
            refine hK.out _ _ trivial (fun hS => ?_)
            clear hK K
            try simp only [Act.put, List.setIfInBounds_toArray, List.set_cons_zero, List.set_cons_succ]
            refine wpAnyH_done (by kernel_rfl) ?_ _
            exact END.out
          · go_simp
            refine hK.out _ _ trivial (fun hS => ?_)
            clear hK K
            try simp only [Act.put, List.setIfInBounds_toArray, List.set_cons_zero, List.set_cons_succ]
            refine wpAnyH_ready (rs := [0]) (by kernel_rfl) (by simp) (AllReadyH.cons rfl (fun K hK => ?_) <| AllReadyH.nil)
            go_simp
            refine hK.out _ _ trivial (fun hS => ?_)
            clear hK K
            try simp only [Act.put, List.setIfInBounds_toArray, List.set_cons_zero, List.set_cons_succ]
            refine wpAnyH_ready (rs := [4]) (by kernel_rfl) (by simp) (AllReadyH.cons rfl (fun K hK => ?_) <| AllReadyH.nil)
            go_simp
            refine hK.out _ _ trivial (fun hS => ?_)
            clear hK K
            try simp only [Act.put, List.setIfInBounds_toArray, List.set_cons_zero, List.set_cons_succ]
            refine wpAnyH_ready (rs := [5]) (by kernel_rfl) (by simp) (AllReadyH.cons rfl (fun K hK => ?_) <| AllReadyH.nil)
            go_simp
            refine hK.out _ _ trivial (fun hS => ?_)
            clear hK K
            try simp only [Act.put, List.setIfInBounds_toArray, List.set_cons_zero, List.set_cons_succ]
            refine wpAnyH_done (by kernel_rfl) ?_ _
            exact END.out
      case done =>
        rintro Df st W ⟨hs1, hs2, hs3⟩ ⟨m0, ks, kn, vp, pl, kd, hdb, hfl, hbn, hap⟩ hDf hlt
        have hflN : pl.flatMap Prod.snd = N := by rw [hfl]; exact List.take_of_length_le (by rw [HNL.out]; exact hs1)
        obtain ⟨bv, hbe, hbv, hbp⟩ := exists_bv pl hdb.2 hap.1
        have hpl : pl.length = bv.length := by rw [← hbe, List.length_map]
        have hvp : ∃ gp cp more, vp = .slice (some ⟨gp, 0, none⟩) pl.length cp ∧ Blk W gp (ptrsOf bv ++ more) 141 ∧ w5.heap.size ≤ gp := by
          have hh := hdb.1
          rw [← hbe, List.map_map] at hh
          rcases ownsRow_blk hh with ⟨_, h0, _⟩ | ⟨gp, cp, more, e, hg, hb, _⟩
          · rw [List.length_map] at h0; omega
          · exact ⟨gp, cp, more, by rw [e, hpl, List.length_map], hb, hg⟩
        obtain ⟨gp, cp, more, rfl, hbp2, hgp⟩ := hvp
        have hvW := HVU.out.grown m0
        have hgl : g < w5.heap.size := (HVU.out.ptrs.lt g rfl).2
        have hnb : bl1.length = (bl1.take k ++ y :: bl1.drop (k + 1)).length := by
          simp only [List.length_append, List.length_cons, List.length_take, List.length_drop]; omega
        obtain ⟨T, hT⟩ : ∃ T, T = k + pl.length + (bl1.length - (k + 1)) := ⟨_, rfl⟩
        have hpt : (ptrsOf (bl1.take k ++ y :: bl1.drop (k + 1))).take k ++ ptrsOf bv ++ (ptrsOf (bl1.take k ++ y :: bl1.drop (k + 1))).drop (k + 1) = ptrsOf (bl1.take k ++ bv ++ bl1.drop (k + 1)) := by
          have e1 : (bl1.take k).length = k := by rw [List.length_take]; omega
          unfold ptrsOf
          rw [← List.map_take, ← List.map_drop, ← List.map_append, ← List.map_append]
          congr 1
          rw [List.take_append_of_le_length (by omega), List.take_of_length_le (by omega)]
          rw [show bl1.take k ++ y :: bl1.drop (k + 1) = (bl1.take k ++ [y]) ++ bl1.drop (k + 1) by simp]
          have e2 : (bl1.take k ++ [y]).length = k + 1 := by simp; omega
          have e3 := List.drop_left (l₁ := bl1.take k ++ [y]) (l₂ := bl1.drop (k + 1))
          rw [e2] at e3
          rw [e3]
        have hrep := rep_any W.drew g vc1 bl1.length k pl.length gp cp T (ptrsOf (bl1.take k ++ y :: bl1.drop (k + 1))) (ptrsOf bv) more (by have := hvW.ptrs; rw [← hnb] at this; exact this) hkl hbp2.drew (by omega) (by rw [List.length_map, hpl]) (by omega) hT (by omega) (ptr_one _ _) (ptr_one _ _)
        rw [hpt] at hrep
        have hne2 : ∀ z ∈ bv, z.c ≠ [] := fun z hz => hap.2 (z.p, z.c) (by rw [← hbe]; exact List.mem_map.2 ⟨z, hz, rfl⟩)
        have hcb : cellsOf bv = N := by rw [← hflN, ← hbe, List.flatMap_map]
        have kdc : W.cell? ⟨P9, 0, none⟩ = some (.slice (some ⟨gp, 0, none⟩) pl.length cp) := kd.cell 0
        have dc : W.cell? ⟨D, 0, none⟩ = some (.slice (some ⟨g, 0, none⟩) bl1.length vc1) := hvW.doc.cell 0
        have hfin : Calls Tryz.prog 141 #[.slice (some ⟨g, 0, none⟩) bl1.length vc1, .int .i64 (k : Int), .int .i64 ((k : Int) + 1), .slice (some ⟨gp, 0, none⟩) pl.length cp] W.drew fun e w9 => ∃ a9 c9, e = .returned (.slice a9 T c9) ∧ w9.cell? ⟨D, 0, none⟩ = some (.slice (some ⟨g, 0, none⟩) bl1.length vc1) ∧ w9.frozen? ⟨D, 0, none⟩ = false ∧
            RowKit.Hid ((w9.setCell ⟨D, 0, none⟩ (.slice a9 T c9)).heap[Df]? = some (.deferred (some [])) ∧ DinTo w D (.slice va bl.length vca) MB bl L (.returned (.tuple #[])) ((w9.setCell ⟨D, 0, none⟩ (.slice a9 T c9)).putObj Df (.deferred none))) := by
          refine hrep.mono ?_
          rintro e w9 ⟨v9, rfl, ho9, m9, hf9⟩
          obtain ⟨a9, c9, rfl⟩ : ∃ a9 c9, v9 = .slice a9 T c9 := by
            rcases ownsRow_blk ho9 with ⟨_, e, _⟩ | ⟨_, _, _, e, _⟩
            · omega
            · exact ⟨_, _, e⟩
          have m9' : Mod (fun b => (Value.slice (some ⟨g, 0, none⟩) bl1.length vc1).ownBlock = some b) W w9 := ((Mod.refl _ W).drew).trans m9
          have hd9 := hvW.doc.mod m9' (fun e => by obtain ⟨cs, hc⟩ := ownsRow_type hvW.ptrs e; exact Blk.apart hvW.doc hc (by decide) rfl)
          obtain ⟨dv, md⟩ := DocV.rep HVU.out m0 hbv hbp m9' ho9
          have hsz5 : w.heap.size ≤ w5.heap.size := M05.out.size
          have hDfne : ∀ b, ((Value.slice (some ⟨g, 0, none⟩) bl1.length vc1).ownBlock = some b ∨ b = D) → b ≠ Df := by
            rintro b (e | rfl) rfl
            · obtain ⟨cs, hc⟩ := ownsRow_type hvW.ptrs e
              unfold Blk at hc
              rw [hDf] at hc; cases hc
            · have hc := hvW.doc
              unfold Blk at hc
              rw [hDf] at hc; cases hc
          have hdf10 : (w9.setCell ⟨D, 0, none⟩ (.slice a9 T c9)).heap[Df]? = some (.deferred (some [])) := md.blk (fun e => hDfne _ e rfl) hDf
          have mP := loopOwn_put (B := W0.heap.size) (.deferred none) hlt hdf10 rfl
          refine ⟨a9, c9, rfl, hd9.cell 0, hd9.frozen 0, Lib.hid ⟨hdf10, rfl, ?_, .slice a9 T c9, _, dv.own mP, ?_, ?_, ?_⟩⟩
          · rw [← HF.out]
            refine ((M05.out.trans (m0.mono (fun _ _ e => e.elim))).transIn md (fun b hb e => ?_)).transIn mP (fun b hb e => ?_)
            · rcases e with e | rfl
              · rcases HF1.out b (.inr (.inl e)) with h | h
                · exact h
                · omega
              · rcases HF1.out _ (.inl rfl) with h | h
                · exact h
                · omega
            · have := e.1
              omega
          · rw [HL.out, ← HC1.out]
            conv => rhs; rw [HDEC.out]
            exact cells_ins (x := x) (i := i) (by rw [hcb, HN.out]) HIX.out HPK.out
          · rw [← HF.out]
            refine foot_part (x := x) (v := .slice (some ⟨g, 0, none⟩) bl1.length vc1) (by rw [← HDEC.out]; exact HF1.out) (fun b hb => ?_) (fun z hz b hb => ?_)
            · rcases hf9 b hb with h | h
              · exact .inl h
              · have := m0.size
                have e : W.drew.heap.size = W.heap.size := rfl
                exact .inr (by omega)
            · obtain ⟨_, h1, h2⟩ := hbv z hz
              rcases hb with rfl | hb
              · exact .inr (by omega)
              · have := h2 b hb
                exact .inr (by omega)
          · intro z hz
            simp only [List.mem_append] at hz
            rcases hz with (hz | hz) | hz
            · exact HNA.out z (by simp [hz])
            · exact hne2 z hz
            · exact HNA.out z (by simp [hz])
        have HREP := Lib.hid hfin
        have hPk : IntKind.i64.wrap ((k : Int) + 1) = (k : Int) + 1 := by rw [IntKind.wrap_i64]; omega
        have HPL := Lib.hid hpl
        clear hfin hpl hflN hbe hbv hbp hvW hbp2 hnb hT hpt hrep hne2 hcb m0 ks kn kd hdb hfl hap hDf hI0 b50 b52 b52a hd1 hd2 hd3
        go_wp2_with fail
        go_region_law (go_simp; go_at_call 141; refine HREP.out.mono ?_; rintro e w9 ⟨a9, c9, rfl, z0, z1, RES⟩)
        all_goals go_wp2_with fail
        all_goals refine ⟨by simp, .inl ⟨_, _, rfl, run_takeDeferred RES.out.1, ?_⟩⟩
        all_goals exact ⟨_, results_none rfl _ _ _, RES.out.2⟩
end Go.Proofs.YtlidmajcdjlcnaaGreatDoor

namespace Go.Proofs.YtlidmajcdjlcnaaGreatDoor
open Go.RowKit Go.Mine Go.Maps
open Classical

theorem cnt_replicate (q : Nat) (x y : Value) : cnt (List.replicate q x) y = if x = y then q else 0 := by
  induction q with
  | zero => simp [cnt]
  | succ q ih =>
    rw [List.replicate_succ', cnt_append, ih, cnt_one]
    by_cases h : x = y <;> simp [h]
variable {P : Program} {k t e : TypeId} {w : World} {b : Nat} {ks : List Value}
/-- 'm[x]', of a name. -/
theorem Names.at_ (h : Names P k w b ks) (K : Keyed P k) (ht : P.underlying t = some (.map k e)) (hz : ∀ w, (zeroValue e).run P w = .ok (.int .i64 0) w) {x : Value} (hx : isKey P k x) :
    (Instr.lookup t (.map (some b)) x false).run P w = .ok (.int .i64 (cnt ks x : Int)) w := by
  obtain ⟨m, n, hm, hmem, hval⟩ := h
  have h1 := hm.lookup K ht (hz w) hx false
  rw [if_neg (by simp)] at h1
  rw [h1]
  cases hmx : m x with
  | none => rw [cnt_zero.2 (fun h => (hmem x).2 h hmx)]; rfl
  | some v => rw [hval x v hmx]; rfl
/-- 'm[x] = q', x new. -/
theorem Names.many (h : Names P k w b ks) (K : Keyed P k) (ht : P.underlying t = some (.map k e)) {x : Value} (hx : isKey P k x) (hn : x ∉ ks) (q : Nat) (hq : 0 < q) :
    ∃ w', (Instr.mapUpdate t (.map (some b)) x (.int .i64 (q : Int))).run P w = .ok () w' ∧ Mod (one b) w w' ∧ Names P k w' b (ks ++ List.replicate q x) := by
  obtain ⟨m, n, hm, hmem, hval⟩ := h
  obtain ⟨w', h1, h2, M⟩ := hm.update (v := .int .i64 (q : Int)) K ht hx
  refine ⟨w', h1, M, _, _, h2, fun y => ?_, fun y v hy => ?_⟩
  · by_cases hyx : y = x
    · subst hyx
      rw [putM_same, List.mem_append]
      simp; omega
    · rw [putM_other hyx, hmem y, List.mem_append]
      exact ⟨.inl, fun h => h.elim id (fun e => absurd (List.eq_of_mem_replicate e) hyx)⟩
  · rw [cnt_append, cnt_replicate]
    by_cases hyx : y = x
    · subst hyx
      rw [putM_same] at hy
      cases hy
      rw [if_pos rfl, cnt_zero.2 hn, Nat.zero_add]
    · rw [putM_other hyx] at hy
      rw [if_neg (fun e => hyx e.symm), Nat.add_zero]
      exact hval y v hy
end Go.Proofs.YtlidmajcdjlcnaaGreatDoor

namespace Go.Proofs.YtlidmajcdjlcnaaGreatDoor
open Go.RowKit Go.Shelf Go.Mine Go.Maps
open Classical

theorem DocV.flt {w : World} {D MB : Nat} {v : Value} {bl : List BV} (hv : DocV w D v MB bl) {k : Nat} (hk : foot D v bl k) : k < w.heap.size := by
  rcases hk with rfl | hk | ⟨x, hx, rfl | hk⟩
  · exact hv.doc.lt
  · exact (hv.ptrs.lt k hk).2
  · exact (hv.blk x hx).b.lt
  · exact ((hv.blk x hx).o.lt k hk).2
/-- The name of an operation. -/
abbrev OpV.name (o : OpV) : Value := .agg #[.int .i64 o.site, .int .i64 o.seq]
/-- The cells that an insertion brings. -/
def freshC (o : OpV) (rs : List Nat) : List CellV := rs.mapIdx fun (i r : Nat) => ⟨o.site, o.seq, (i : Int), (r : Int), false⟩
def runesD (s : ByteArray) : List Nat := (runesOf s).getD []
theorem runes_le : ∀ (n : Nat) (t : ByteArray), t.size ≤ n → ∀ rs, runesOf t = some rs → ∀ r ∈ rs, r ≤ 1114111
  | 0, t, h, rs, hr, r, hm => by
    rw [runesOf_nil (by omega)] at hr
    cases hr; cases hm
  | n + 1, t, h, rs, hr, r, hm => by
    by_cases h0 : t.size = 0
    · rw [runesOf_nil h0] at hr
      cases hr; cases hm
    · by_cases hb : bad1 t
      · rw [runesOf_bad h0 hb] at hr; cases hr
      · rw [runesOf_step h0 hb] at hr
        obtain ⟨rest, hr1, rfl⟩ := Option.map_eq_some_iff.1 hr
        have hp := decodeGo_pos h0
        have ht0 : tl t 0 = t := by unfold tl; simp
        have hd : Lib.decodeGo t = Utf8.decode t 0 := by
          have := decodeGo_tl t 0 (by omega)
          rwa [ht0] at this
        rcases List.mem_cons.1 hm with rfl | hm
        · rw [hd]; exact Lib.rune_le t 0
        · exact runes_le n _ (by rw [tl_size]; omega) rest hr1 r hm
theorem cell_lt {w : World} {b j : Nat} {v : Value} (h : w.cell? ⟨b, j, none⟩ = some v) : b < w.heap.size := by
  unfold World.cell? at h
  by_cases hb : b < w.heap.size
  · exact hb
  · rw [Array.getElem?_eq_none (by show w.heap.size ≤ b; omega)] at h
    simp at h
theorem freshC_len (o : OpV) (rs : List Nat) : (freshC o rs).length = rs.length := by unfold freshC; simp
theorem freshC_get (o : OpV) (rs : List Nat) (k : Nat) (r : Nat) (h : rs[k]? = some r) : (freshC o rs)[k]? = some ⟨o.site, o.seq, (k : Int), (r : Int), false⟩ := by
  unfold freshC
  rw [List.getElem?_mapIdx, h]; rfl
theorem freshC_ok (o : OpV) (rs : List Nat) (hs : -9223372036854775808 ≤ o.site ∧ o.site ≤ 9223372036854775807) (hq : -9223372036854775808 ≤ o.seq ∧ o.seq ≤ 9223372036854775807) (hl : rs.length ≤ 200) (hr : ∀ r ∈ rs, r ≤ 1114111) : ∀ c ∈ freshC o rs, c.ok := by
  intro c hc
  obtain ⟨i, hi⟩ := List.getElem?_of_mem hc
  have hlt := (List.getElem?_eq_some_iff.1 hi).1
  rw [freshC_len] at hlt
  rw [freshC_get o rs i rs[i] (List.getElem?_eq_getElem hlt)] at hi
  obtain rfl := Option.some.inj hi
  have := hr rs[i] (List.getElem_mem hlt)
  exact ⟨hs, hq, ⟨by simp only; omega, by simp only; omega⟩, ⟨by simp only; omega, by simp only; omega⟩⟩
theorem freshC_names (o : OpV) (rs : List Nat) : (freshC o rs).map CellV.name = List.replicate rs.length o.name := by
  apply List.ext_getElem (by simp [freshC_len])
  intro i h1 h2
  simp [freshC]
def zeroC : CellV := ⟨0, 0, 0, 0, false⟩
/-- The row while it is filled. -/
def halfC (o : OpV) (rs : List Nat) (k : Nat) : List CellV := (freshC o rs).take k ++ List.replicate (rs.length - k) zeroC
theorem halfC_len (o : OpV) (rs : List Nat) (k : Nat) (h : k ≤ rs.length) : (halfC o rs k).length = rs.length := by unfold halfC; simp [freshC_len]; omega
theorem halfC_all (o : OpV) (rs : List Nat) : halfC o rs rs.length = freshC o rs := by
  unfold halfC
  rw [Nat.sub_self, List.take_of_length_le (by rw [freshC_len]; omega)]; simp
theorem halfC_succ (o : OpV) (rs : List Nat) (k r : Nat) (h : rs[k]? = some r) : (halfC o rs k).set k ⟨o.site, o.seq, (k : Int), (r : Int), false⟩ = halfC o rs (k + 1) := by
  have hlt := (List.getElem?_eq_some_iff.1 h).1
  unfold halfC
  rw [List.set_append_right _ _ (by rw [List.length_take]; omega), List.length_take, freshC_len, show k - min k rs.length = 0 by omega]
  obtain ⟨m, hm⟩ : ∃ m, rs.length - k = m + 1 := ⟨rs.length - k - 1, by omega⟩
  rw [hm, List.replicate_succ, List.set_cons_zero, show rs.length - (k + 1) = m by omega, List.take_add_one, freshC_get o rs k r h]
  simp
theorem made_flat (n : Nat) : (madeCells (Value.agg #[.int .i64 0, .int .i64 0, .int .i64 0, .int .i32 0, .bool false]).cells (n * 5)).toList = flat CellV.cs (List.replicate n zeroC) := by
  apply List.ext_getElem?
  intro j
  by_cases hj : j < n * 5
  · have h1 : j = j / 5 * 5 + j % 5 := by omega
    have h2 : (List.replicate n zeroC)[j / 5]? = some zeroC := by rw [List.getElem?_replicate, if_pos (by omega)]
    have h3 := flat_get CellV.len (List.replicate n zeroC) (j / 5) (j % 5) zeroC h2 (by omega)
    rw [← h1] at h3
    rw [h3]
    have hm : j % 5 < 5 := by omega
    simp only [madeCells, Value.cells, Array.toList_map, Array.toList_range, List.getElem?_map, List.getElem?_range hj, Option.map_some, List.size_toArray, List.length_cons, List.length_nil, Nat.zero_add, Nat.reduceAdd, zeroC]
    have : j % 5 = 0 ∨ j % 5 = 1 ∨ j % 5 = 2 ∨ j % 5 = 3 ∨ j % 5 = 4 := by omega
    rcases this with e | e | e | e | e <;> rw [e] <;> rfl
  · rw [List.getElem?_eq_none (by simp [madeCells]; omega), List.getElem?_eq_none (by rw [flat_length CellV.len, List.length_replicate]; omega)]
theorem st_cellW (ρ : Operand → Value) (dst : Option Tmp) (x y : Operand) (ty : TypeId) (pos : String) (after : Array Edge) (guard : Option (Nat × Bool)) :
    execOp ρ { dst, op := .store 47 x y, type := ty, pos, after, guard } = (do stRow 47 (ρ x) (ρ y); pure .skip) := rfl
theorem cellSize : (Tryz.prog.info? 47).map (·.size) = some 5 := by kernel_rfl
theorem run_st_cellW (w : World) (g o : Nat) (a b c d : Int) (e : Bool) (h : w.there g o 5) : (stRow 47 (.pointer (some ⟨g, o, none⟩)) (.agg #[.int .i64 a, .int .i64 b, .int .i64 c, .int .i32 d, .bool e])).run Tryz.prog w = .ok () (w.setCells g o [.int .i64 a, .int .i64 b, .int .i64 c, .int .i32 d, .bool e]) :=
  run_stRow cellSize w g o _ rfl (CellV.ones ⟨a, b, c, d, e⟩) h
attribute [local go_sem ↓] st_cellW
attribute [local go_sem] run_st_cellW World.there_drew setCells_drew
/-- Do's answer, and what it leaves. -/
noncomputable def doE (o : OpV) (sp : List (Int × Int)) (l : List CellV) : Int := if opMay o sp l.length = true then (if o.kind = 2 then 0 else if o.name ∈ l.map CellV.name then 15 else 0) else 1
noncomputable def doL (o : OpV) (sp : List (Int × Int)) (l : List CellV) : List CellV := if opMay o sp l.length = true then (if o.kind = 2 then markS sp 0 l else if o.name ∈ l.map CellV.name then l else l.take o.at_.toNat ++ freshC o (runesD o.text) ++ l.drop o.at_.toNat) else l
def DoTo (w : World) (S : Nat → Prop) (D : Nat) (l : List CellV) (er : Int) (e : Ending) (w' : World) : Prop := e = .returned (.int .i64 er) ∧ Mod S w w' ∧ DocS w' (grew S w w') D l

theorem markBl_ne (l : List (Int × Int)) : ∀ (bl : List BV) (p : Nat), (∀ x ∈ bl, x.c ≠ []) → ∀ x ∈ markBl l p bl, x.c ≠ []
  | [], _, _, x, hx => by cases hx
  | y :: r, p, h, x, hx => by
    rw [markBl] at hx
    rcases List.mem_cons.1 hx with rfl | hx
    · intro e
      have := markS_len l p y.c
      have h2 := h y (by simp)
      simp only at e
      rw [e] at this
      exact h2 (List.eq_nil_of_length_eq_zero this.symm)
    · exact markBl_ne l r _ (fun z hz => h z (List.mem_cons_of_mem _ hz)) x hx
/-- A document that was marked. -/
theorem DocS.marked {w w1 w2 : World} {S : Nat → Prop} {D MB : Nat} {v : Value} {bl : List BV} {sp : List (Int × Int)} {l : List CellV} (m1 : Mod none_ w w1) (hv : DocV w1 D v MB bl) (hn : Names Tryz.prog 28 w1 MB (l.map CellV.name)) (hl : cellsOf bl = l) (hf : ∀ k, foot D v bl k → S k) (hmb : S MB) (hne : ∀ x ∈ bl, x.c ≠ [])
    (m2 : Mod (foot D v bl) w1 w2) (hv2 : DocV w2 D v MB (markBl sp 0 bl)) : DoTo w S D (markS sp 0 l) 0 (.returned (.int .i64 0)) w2 := by
  refine ⟨rfl, (m1.mono (fun _ _ e => e.elim)).trans (m2.mono (fun k _ hk => hf k hk)), v, MB, markBl sp 0 bl, hv2, ?_, by rw [markBl_cells, hl], fun k hk => .inl (hf k ((foot_congr (markBl_foot sp bl 0) k).1 hk)), .inl hmb, markBl_ne sp bl 0 hne⟩
  have := hn.mod m2 (foot_names hv hn)
  unfold markS
  rw [markP_names]; exact this

theorem do_put {w wr w7 w8 : World} {S : Nat → Prop} {D MB p k : Nat} {v v' : Value} {bl bl' : List BV} {l : List CellV} {o : OpV} {rs : List Nat} (mw : Mod none_ w wr) (hf : ∀ k, foot D v bl k → S k) (hmb : S MB) (hl : cellsOf bl = l)
    (m7 : Mod (foot D v bl) wr w7) (hv7 : DocV w7 D v' MB bl') (hn7 : Names Tryz.prog 28 w7 MB (l.map CellV.name)) (hl7 : cellsOf bl' = (cellsOf bl).take p ++ freshC o rs ++ (cellsOf bl).drop p) (hf7 : ∀ k, foot D v' bl' k → foot D v bl k ∨ wr.heap.size ≤ k) (hne7 : ∀ x ∈ bl', x.c ≠ [])
    (m8 : Mod (one MB) w7.drew w8) (hn8 : Names Tryz.prog 28 w8 MB (l.map CellV.name ++ List.replicate k o.name)) (hk : k = rs.length) : DoTo w S D (l.take p ++ freshC o rs ++ l.drop p) 0 (.returned (.int .i64 0)) w8 := by
  have m8' : Mod (one MB) w7 w8 := ((Mod.refl (one MB) w7).drew).trans m8
  have hv8 := hv7.mod m8' (fun k hk e => by
    have e' : k = MB := e
    subst e'
    exact foot_names hv7 hn7 hk)
  refine ⟨rfl, ((mw.mono (fun _ _ e => e.elim)).trans (m7.mono (fun k _ hk => hf k hk))).trans (m8'.mono (fun k _ e => by have e' : k = MB := e; rw [e']; exact hmb)), v', MB, bl', hv8, ?_, by rw [hl7, hl], fun k hk => ?_, .inl hmb, hne7⟩
  · refine hn8.perm ?_
    rw [List.map_append, List.map_append, freshC_names, ← hk]
    conv => lhs; rw [← List.take_append_drop p l, List.map_append]
    rw [List.append_assoc, List.append_assoc]
    exact (List.perm_append_comm).append_left _
  · rcases hf7 k hk with h | h
    · exact .inl (hf k h)
    · exact .inr ⟨Nat.le_trans mw.size h, hv8.flt hk⟩

set_option maxHeartbeats 4000000 in
set_option maxRecDepth 1000000 in
theorem do_any (w : World) (S : Nat → Prop) (D : Nat) (l : List CellV) (o : OpV) (sp : List (Int × Int)) (h : DocS w S D l) (hlen : l.length ≤ 20000) (hok : ∀ c ∈ l, c.ok) (ho : o.ok w sp) (hsz : o.text.size ≤ 1099511627776) (hfar : ∀ b off, o.sa = some ⟨b, off, none⟩ → 0 < o.slen → ¬ S b) :
    Calls Tryz.prog 97 #[.pointer (some ⟨D, 0, none⟩), o.v] w (DoTo w S D (doL o sp l) (doE o sp l)) := by
  obtain ⟨E, hE⟩ : ∃ E, E = doE o sp l := ⟨_, rfl⟩
  obtain ⟨L, hL⟩ : ∃ L, L = doL o sp l := ⟨_, rfl⟩
  rw [← hE, ← hL]
  have HE := Lib.hid hE
  have HL := Lib.hid hL
  obtain ⟨W0, hW0⟩ : ∃ W0, w.alloc (.cells o.cs.toArray 31) = W0 := ⟨_, rfl⟩
  obtain ⟨m0, kB⟩ := opBox1 hW0
  have HO := Lib.hid (ho.grown m0)
  have HD := Lib.hid (h.grown m0)
  have HI := Lib.hid h
  have M0 := Lib.hid m0
  have KB := Lib.hid kB
  have c0 : W0.cell? ⟨w.heap.size, 0, none⟩ = some (.int .i64 o.site) := by rw [kB.cell]; rfl
  have c1 : W0.cell? ⟨w.heap.size, 1, none⟩ = some (.int .i64 o.seq) := by rw [kB.cell]; rfl
  have c2 : W0.cell? ⟨w.heap.size, 2, none⟩ = some (.int .i64 o.num) := by rw [kB.cell]; rfl
  have c3 : W0.cell? ⟨w.heap.size, 3, none⟩ = some (.int .i64 o.kind) := by rw [kB.cell]; rfl
  have c4 : W0.cell? ⟨w.heap.size, 4, none⟩ = some (.int .i64 o.at_) := by rw [kB.cell]; rfl
  have c5 : W0.cell? ⟨w.heap.size, 5, none⟩ = some (.string o.text) := by rw [kB.cell]; rfl
  have c6 : W0.cell? ⟨w.heap.size, 6, none⟩ = some (.slice o.sa o.slen o.scap) := by rw [kB.cell]; rfl
  have HOK := Lib.hid hok
  have HFAR := Lib.hid hfar
  have hin : inB (l.length : Int) 0 20000 = true := by simp [inB]; omega
  have HSI := Lib.hid (fun W (m : Mod none_ W0 W) => size_any W 0 D l (HD.out.grown m).is (by omega))
  have HMA := Lib.hid (fun W (m : Mod none_ W0 W) => may_any o (l.length : Int) W sp (HO.out.grown m) hin)
  clear h ho hE hL m0 kB hok hfar hin
  go_enter Tryz.func97, Tryz.ntmps97
  go_upto_region 1 with fail
  clear hW0
  obtain ⟨X, hX⟩ : ∃ X, X = w.heap.size := ⟨_, rfl⟩
  rw [← hX] at KB c0 c1 c2 c3 c4 c5 c6 ⊢
  have HX := Lib.hid hX
  clear hX
  obtain ⟨M, hM⟩ : ∃ M, M = opMay o sp l.length := ⟨_, rfl⟩
  rw [← hM] at HMA
  have HM := Lib.hid hM
  clear hM
  cases M with
  | false =>
    have HE1 := Lib.hid (show E = 1 by rw [HE.out]; unfold doE; rw [if_neg (by rw [← HM.out]; simp)])
    have HL1 := Lib.hid (show L = l by rw [HL.out]; unfold doL; rw [if_neg (by rw [← HM.out]; simp)])
    go_region_held3 (fun w' => Mod none_ W0 w' ∧ w'.cell? ⟨X, 0, none⟩ = some (.int .i64 o.site) ∧ w'.cell? ⟨X, 1, none⟩ = some (.int .i64 o.seq) ∧ w'.cell? ⟨X, 2, none⟩ = some (.int .i64 o.num) ∧ w'.cell? ⟨X, 3, none⟩ = some (.int .i64 o.kind) ∧ w'.cell? ⟨X, 4, none⟩ = some (.int .i64 o.at_) ∧ w'.cell? ⟨X, 5, none⟩ = some (.string o.text) ∧ w'.cell? ⟨X, 6, none⟩ = some (.slice o.sa o.slen o.scap))
      (first
        | exact ⟨Mod.drew (Mod.refl none_ W0), c0, c1, c2, c3, c4, c5, c6⟩
        | assumption
        | (obtain ⟨q, q0, q1, q2, q3, q4, q5, q6⟩ := ‹Mod none_ W0 _ ∧ _›; exact ⟨q.trans m1, m1.cell (fun e => e) q0, m1.cell (fun e => e) q1, m1.cell (fun e => e) q2, m1.cell (fun e => e) q3, m1.cell (fun e => e) q4, m1.cell (fun e => e) q5, m1.cell (fun e => e) q6⟩))
      (first
        | (go_at_call 117; refine (HSI.out _ (And.left (by assumption))).mono ?_; rintro e w1 ⟨rfl, m1⟩)
        | (go_at_call 109; refine (HMA.out _ (And.left (by assumption))).mono ?_; rintro e w1 ⟨rfl, m1⟩))
    go_wp2_with fail
    go_ret
    refine ⟨by rw [HE1.out]; rfl, (M0.out.trans (And.left (by assumption))).mono (fun _ _ e => e.elim), ?_⟩
    rw [HL1.out]
    exact (HI.out.grown (M0.out.trans (And.left (by assumption)))).mono (fun k _ hk => .inl hk)
  | true =>
    go_region_held3 (fun w' => Mod none_ W0 w' ∧ w'.cell? ⟨X, 0, none⟩ = some (.int .i64 o.site) ∧ w'.cell? ⟨X, 1, none⟩ = some (.int .i64 o.seq) ∧ w'.cell? ⟨X, 2, none⟩ = some (.int .i64 o.num) ∧ w'.cell? ⟨X, 3, none⟩ = some (.int .i64 o.kind) ∧ w'.cell? ⟨X, 4, none⟩ = some (.int .i64 o.at_) ∧ w'.cell? ⟨X, 5, none⟩ = some (.string o.text) ∧ w'.cell? ⟨X, 6, none⟩ = some (.slice o.sa o.slen o.scap))
      (first
        | exact ⟨Mod.drew (Mod.refl none_ W0), c0, c1, c2, c3, c4, c5, c6⟩
        | assumption
        | (obtain ⟨q, q0, q1, q2, q3, q4, q5, q6⟩ := ‹Mod none_ W0 _ ∧ _›; exact ⟨q.trans m1, m1.cell (fun e => e) q0, m1.cell (fun e => e) q1, m1.cell (fun e => e) q2, m1.cell (fun e => e) q3, m1.cell (fun e => e) q4, m1.cell (fun e => e) q5, m1.cell (fun e => e) q6⟩))
      (first
        | (go_at_call 117; refine (HSI.out _ (And.left (by assumption))).mono ?_; rintro e w1 ⟨rfl, m1⟩)
        | (go_at_call 109; refine (HMA.out _ (And.left (by assumption))).mono ?_; rintro e w1 ⟨rfl, m1⟩))
    obtain ⟨q, q0, q1, q2, q3, q4, q5, q6⟩ := ‹Mod none_ W0 _ ∧ _›
    have hDS := HD.out.grown q
    have hOS := HO.out.grown q
    have M1 := Lib.hid (M0.out.trans q)
    by_cases hk : o.kind = 2
    · have hkd : (o.kind == 2) = true := by simp [hk]
      have hsp : spansOk sp = true := by
        have := HM.out
        unfold opMay at this
        rw [if_neg (by omega), if_pos hk] at this
        simp [delOk] at this
        exact this.2.1.2
      have HE1 := Lib.hid (show E = 0 by rw [HE.out]; unfold doE; rw [if_pos HM.out.symm, if_pos hk])
      have HL1 := Lib.hid (show L = markS sp 0 l by rw [HL.out]; unfold doL; rw [if_pos HM.out.symm, if_pos hk])
      obtain ⟨v, MB, bl, hv, hn, hl, hf, hmb, hne⟩ := hDS.ex
      have HMK := Lib.hid (mark_any _ D MB v bl o.sa o.slen o.scap sp hv (by rw [hl]; omega) ⟨hOS.sp, fun b off e h0 hk => HFAR.out b off e h0 (hf _ hk)⟩ hsp)
      have FIN := Lib.hid (fun w2 (m2 : Mod (foot D v bl) _ w2) (hv2 : DocV w2 D v MB (markBl sp 0 bl)) => DocS.marked (sp := sp) M1.out hv hn hl hf hmb hne m2 hv2)
      clear hv hn hl hf hmb hne hsp hk hDS hOS q
      go_wp2_with fail
      refine HMK.out.mono ?_
      rintro e w2 ⟨rfl, m2, hv2⟩
      have FIN := Lib.hid (FIN.out w2 m2 hv2)
      clear m2 hv2
      go_wp2_with fail
      go_ret
      rw [HE1.out, HL1.out]
      exact FIN.out
    · have hkd : (o.kind == 2) = false := by simp [hk]
      have hop := HM.out
      unfold opMay at hop
      have hk1 : o.kind = 1 := by
        apply Classical.byContradiction
        intro hh
        rw [if_neg hh, if_neg hk] at hop
        simp at hop
      rw [if_pos hk1] at hop
      have hins : insOk o (l.length : Int) = true := by
        simp only [Bool.and_eq_true, Bool.true_eq] at hop
        exact hop.2
      have hnm := key_name hOS.i1 hOS.i2
      obtain ⟨v, MB, bl, hv0, hn0, hl, hf, hmb, hne⟩ := HI.out.ex
      have hv := hv0.grown M1.out
      have hn := hn0.mod M1.out (fun e => e)
      have HXF := Lib.hid (show ¬ foot D v bl X from fun hh => by have := hv0.flt hh; have := HX.out; omega)
      have HXM := Lib.hid (show X ≠ MB from fun e => by have := hn0.lt; have := HX.out; omega)
      have HV0 := Lib.hid hv0
      have HN0 := Lib.hid hn0
      clear hv0 hn0
      have d1 := hv.doc.cell 1
      simp only [List.getElem?_cons_zero, List.getElem?_cons_succ] at d1
      have hlk := (hn.mod (Mod.drew (Mod.refl none_ _)) (fun e => e)).at_ kName Tryz.underlying138 zInt hnm
      by_cases hmem : o.name ∈ l.map CellV.name
      · have HE1 := Lib.hid (show E = 15 by rw [HE.out]; unfold doE; rw [if_pos HM.out.symm, if_neg hk, if_pos hmem])
        have HL1 := Lib.hid (show L = l by rw [HL.out]; unfold doL; rw [if_pos HM.out.symm, if_neg hk, if_pos hmem])
        have hc0 : 0 < cnt (l.map CellV.name) o.name := Nat.pos_of_ne_zero (fun e => cnt_zero.1 e hmem)
        obtain ⟨C, hC⟩ : ∃ C, C = cnt (l.map CellV.name) o.name := ⟨_, rfl⟩
        rw [← hC] at hlk hc0
        have hcd : decide ((0 : Int) < (C : Int)) = true := by simp; omega
        have FIN := Lib.hid (HI.out.grown M1.out)
        clear hC hv hn hl hf hmb hne hop hk hk1 hins hDS hOS hmem hnm
        go_wp2_with fail
        go_region_law (fail)
        all_goals go_wp2_with fail
        all_goals go_ret
        all_goals rw [HE1.out, HL1.out]
        all_goals exact ⟨rfl, (M1.out.drew).mono (fun _ _ e => e.elim), (FIN.out.grown (Mod.drew (Mod.refl none_ _))).mono (fun k _ hk => .inl hk)⟩
      · have hcz := cnt_zero.2 hmem
        rw [hcz] at hlk
        simp only [Int.ofNat_zero] at hlk
        have HINS := Lib.hid hins
        obtain ⟨rs, hrs, hr0, hr1, hr2, hp0, hp1⟩ : ∃ rs, runesOf o.text = some rs ∧ 0 < rs.length ∧ rs.length ≤ 200 ∧ l.length + rs.length ≤ 20000 ∧ 0 ≤ o.at_ ∧ o.at_ ≤ l.length := by
          have hi := hins
          unfold insOk textOk inB at hi
          simp only [Bool.and_eq_true, decide_eq_true_eq] at hi
          cases hrr : runesOf o.text with
          | none => rw [ulen_none hrr] at hi; omega
          | some rs => rw [ulen_some hrr] at hi; exact ⟨rs, rfl, by omega, by omega, by omega, by omega, by omega⟩
        have HRL := Lib.hid (show ∀ r ∈ rs, r ≤ 1114111 from runes_le _ o.text (Nat.le_refl _) rs hrs)
        have HRS := Lib.hid hrs
        obtain ⟨p, hp⟩ : ∃ p : Nat, o.at_ = (p : Int) := ⟨o.at_.toNat, by omega⟩
        have hpl : p ≤ l.length := by omega
        rw [hp] at q4
        have HP := Lib.hid hp
        obtain ⟨n, hnr⟩ : ∃ n, n = rs.length := ⟨_, rfl⟩
        rw [← hnr] at hr0 hr1 hr2
        have HNR := Lib.hid hnr
        obtain ⟨i0, hi0, hz0, hz1, hz2⟩ := info_parts infoCell
        have HMK := Lib.hid (fun (W : World) => run_make_full (P := Tryz.prog) W W.heap.size 22 47 i0 _ 5 Tryz.underlying22 hi0 hz0 hz1 .i64 .i64 n (by rw [hz2]; omega) (by unfold maxLen; omega) (Nat.le_refl _))
        have HE1 := Lib.hid (show E = 0 by rw [HE.out]; unfold doE; rw [if_pos HM.out.symm, if_neg hk, if_neg hmem])
        have HL1 := Lib.hid (show L = l.take p ++ freshC o rs ++ l.drop p by rw [HL.out]; unfold doL runesD; rw [if_pos HM.out.symm, if_neg hk, if_neg hmem, hrs, hp]; rfl)
        clear hrs hp hnr hp0 hp1 hi0 hz0 hz1 hz2
        have HMEM := Lib.hid hmem
        have HHV := Lib.hid hv
        have HHN := Lib.hid hn
        have HHL := Lib.hid hl
        have HHF := Lib.hid hf
        have HHM := Lib.hid hmb
        have HHNE := Lib.hid hne
        have HOS := Lib.hid hOS
        have HKN := Lib.hid hnm
        have HK := Lib.hid hk
        clear hv hn hl hf hmb hne hop hk hk1 hins hDS hOS hmem hnm hcz
        go_wp2_with fail
        go_region_law (fail)
        all_goals go_wp2_with fail
        all_goals (
          refine (split_any o.text _ (by exact (HOS.out.grown ((Mod.refl none_ _).drew)).tx) (by omega)).mono ?_
          rintro e w4 ⟨m4, -, h4⟩
          obtain ⟨v4, rfl, own4⟩ := h4 rs HRS.out
          have M4 := Lib.hid ((M1.out.drew).trans m4)
          have r0 := (((Mod.refl none_ _).drew).trans m4).cell (fun e => e) q0
          have r1 := (((Mod.refl none_ _).drew).trans m4).cell (fun e => e) q1
          have r4 := (((Mod.refl none_ _).drew).trans m4).cell (fun e => e) q4
          have r5 := (((Mod.refl none_ _).drew).trans m4).cell (fun e => e) d1
          rcases ownsRow_blk own4 with ⟨-, hz, -⟩ | ⟨g4, cc4, more, hv4, hg4, k4, hnc, hcm, -⟩
          · exfalso; have := HNR.out; omega
          subst hv4
          rw [← HNR.out] at hnc ⊢
          obtain ⟨w5, hrun, own5, hgr5⟩ := HMK.out w4
          obtain ⟨G, hG⟩ : ∃ G, G = w4.heap.size := ⟨_, rfl⟩
          rw [made_flat, ← hG] at own5
          rw [← hG] at hrun
          have hXG : X < G := by rw [hG]; exact cell_lt r0
          have hDG : D < G := by rw [hG]; exact cell_lt r5
          have hgG : g4 < G := by rw [hG]; exact k4.lt
          have hwG : w.heap.size ≤ G := by rw [hG]; exact M4.out.size
          have m5 : Mod none_ w4 w5 := (Mod.refl none_ w4).grown hgr5 (fun k e => by cases e)
          rcases ownsRow_blk own5 with ⟨hh, -⟩ | ⟨G', c5, more5, he, -, k5, -, -, hl5⟩
          · cases hh
          have e1 : G' = G := by cases he; rfl
          have e2 : c5 = n := by cases he; rfl
          rw [e1] at k5
          rw [e2] at hl5
          have hm5 : more5 = [] := by
            rw [flat_length CellV.len, List.length_replicate] at hl5
            exact List.eq_nil_of_length_eq_zero (by omega)
          subst hm5
          have KR := Lib.hid (k4.mod m5 (fun e => e))
          have M5 := Lib.hid (M4.out.trans m5)
          have s0 := m5.cell (fun e => e) r0
          have s1 := m5.cell (fun e => e) r1
          have s4 := m5.cell (fun e => e) r4
          have s5 := m5.cell (fun e => e) r5
          have hi0 : halfC o rs 0 = List.replicate n zeroC := by unfold halfC; rw [← HNR.out]; simp
          have hst : Blk w5 G (flat CellV.cs (halfC o rs 0)) 47 := by rw [hi0]; simpa using k5
          have HST := Lib.hid hst
          have HWG := Lib.hid hwG
          clear m4 m5 own4 own5 k4 k5 hgr5 r0 r1 r4 r5 hi0 hst hG hwG hl5 he h4 e1 e2
          go_wp2_with fail
          go_loopg [8, 9, 45] n (fun g s8 s9 s45 wx => ∃ k : Nat, g = n - k ∧ s45 = .int .i64 k ∧ k ≤ n ∧ Mod (one G) w5 wx ∧ RowKit.Hid (Blk wx G (flat CellV.cs (halfC o rs k)) 47))
          case atStart => exact ⟨0, rfl, rfl, Nat.zero_le _, Mod.refl _ _, HST⟩
          case round =>
            obtain ⟨k, rfl, rfl, hkn, mx, hb⟩ := hrel
            by_cases hlt : k < n
            · have hd : decide ((k : Int) < (n : Int)) = true := by simp; omega
              obtain ⟨r, hr⟩ : ∃ r, rs[k]? = some r := ⟨_, List.getElem?_eq_getElem (by have := HNR.out; omega)⟩
              have t0 := mx.cell (show ¬ one G X from fun e => by have : X = G := e; omega) s0
              have t1 := mx.cell (show ¬ one G X from fun e => by have : X = G := e; omega) s1
              have hrow := (KR.out.mod mx (show ¬ one G g4 from fun e => by have : g4 = G := e; omega)).cell k
              rw [List.getElem?_append_left (by simp; have := HNR.out; omega), List.getElem?_map, hr, Option.map_some] at hrow
              have hll : (halfC o rs k).length = n := by rw [halfC_len o rs k (by have := HNR.out; omega)]; exact HNR.out.symm
              have hth := hb.out.there (k * 5) 5 (by rw [flat_length CellV.len, hll]; omega)
              obtain ⟨kp, mp⟩ := Blk.put CellV.len (more := []) (by simpa using hb.out) k (by omega) ⟨o.site, o.seq, (k : Int), (r : Int), false⟩
              rw [halfC_succ o rs k r hr, List.append_nil] at kp
              have MP := Lib.hid (mx.trans mp)
              have KP := Lib.hid kp
              clear mx hb hr hll kp mp
              go_wp2_with fail
              go_roundg (n - (k + 1))
              case measure => omega
              case rel => exact ⟨k + 1, rfl, by simp, by omega, MP.out, KP⟩
            · obtain rfl : k = n := by omega
              have hd : decide ((k : Int) < (k : Int)) = false := by simp
              have t0 := mx.cell (show ¬ one G X from fun e => by have : X = G := e; omega) s0
              have t1 := mx.cell (show ¬ one G X from fun e => by have : X = G := e; omega) s1
              have t4 := mx.cell (show ¬ one G X from fun e => by have : X = G := e; omega) s4
              have hfr : Blk wr G (flat CellV.cs (freshC o rs)) 47 := by
                have := hb.out
                rw [HNR.out, halfC_all] at this; exact this
              have mw : Mod none_ w wr := M5.out.transIn mx (fun x hx e => by have : x = G := e; have := HWG.out; omega)
              have INS := Lib.hid (insert_any wr D MB p G k k v bl (freshC o rs) (HV0.out.grown mw) HHNE.out (by rw [HHL.out]; omega) (by rw [HHL.out]; omega) hfr (fun hh => by have := HV0.out.flt hh; have := HWG.out; omega) (by rw [freshC_len]; exact HNR.out.symm) hr0 (by rw [HHL.out]; exact HOK.out) (freshC_ok o rs HOS.out.i1 HOS.out.i2 (by have := HNR.out; omega) HRL.out))
              have MW := Lib.hid mw
              clear mx hb hfr mw
              go_wp2_with fail
              refine INS.out.mono ?_
              rintro e w7 ⟨rfl, m7, v', bl', hv7, hl7, hf7, hne7⟩
              have u0 := m7.cell HXF.out t0
              have u1 := m7.cell HXF.out t1
              have u5 := hv7.doc.cell 1
              simp only [List.getElem?_cons_zero, List.getElem?_cons_succ] at u5
              have hn7 : Names Tryz.prog 28 w7 MB (l.map CellV.name) := (HN0.out.mod MW.out (fun e => e)).mod m7 (foot_names HV0.out HN0.out)
              obtain ⟨w8, hup, m8, hn8⟩ := (hn7.mod (Mod.drew (Mod.refl none_ _)) (fun e => e)).many kName Tryz.underlying138 HKN.out HMEM.out k hr0
              have FIN := Lib.hid (do_put (p := p) MW.out HHF.out HHM.out HHL.out m7 hv7 hn7 hl7 hf7 hne7 m8 hn8 HNR.out)
              clear m7 hv7 hn7 hl7 hf7 hne7 m8 hn8 t0 t1 t4
              go_wp2_with fail
              go_region_law (fail)
              all_goals go_wp2_with fail
              all_goals go_ret
              all_goals (rw [HE1.out, HL1.out]; exact FIN.out))
end Go.Proofs.YtlidmajcdjlcnaaGreatDoor

namespace Go.Proofs.YtlidmajcdjlcnaaGreatDoor
open Go.RowKit Go.Mine


end Go.Proofs.YtlidmajcdjlcnaaGreatDoor

namespace Go.Proofs.YtlidmajcdjlcnaaGreatDoor
open Go.RowKit Go.Mine

/-- Where a place is behind n cells inserted. -/
def pointOf (p at_ n : Int) (stays : Bool) : Int := if at_ < p ∨ (p = at_ ∧ stays = false) then p + n else p

end Go.Proofs.YtlidmajcdjlcnaaGreatDoor

namespace Go.Proofs.YtlidmajcdjlcnaaGreatDoor
open Go.RowKit Go.Mine

end Go.Proofs.YtlidmajcdjlcnaaGreatDoor

namespace Go.Proofs.YtlidmajcdjlcnaaGreatDoor
open Go.RowKit Go.Mine

end Go.Proofs.YtlidmajcdjlcnaaGreatDoor

namespace Go.Proofs.YtlidmajcdjlcnaaGreatDoor
open Go.RowKit Go.Mine

/-- Where a place is behind an operation. -/
def movP (o : OpV) (p : Int) (stays : Bool) : Int := if o.kind = 1 then pointOf p o.at_ (addsOf o) stays else p

end Go.Proofs.YtlidmajcdjlcnaaGreatDoor

namespace Go.Proofs.YtlidmajcdjlcnaaGreatDoor
open Go.RowKit Go.Mine

end Go.Proofs.YtlidmajcdjlcnaaGreatDoor

namespace Go.Proofs.YtlidmajcdjlcnaaGreatDoor
open Go.RowKit Go.Mine

end Go.Proofs.YtlidmajcdjlcnaaGreatDoor

namespace Go.Proofs.YtlidmajcdjlcnaaGreatDoor
open Go.RowKit Go.Shelf Go.Mine Go.Maps
open Classical

/-- Cells that a document may have. -/
structure Cl (l : List CellV) : Prop where
  ids : (l.map CellV.id).Nodup
  ok : ∀ c ∈ l, c.ok
  big : l.length ≤ 20000

theorem ins_runes {o : OpV} {n : Int} (h : insOk o n = true) : ∃ rs, runesOf o.text = some rs ∧ runesD o.text = rs ∧ ulen o.text = rs.length ∧ 1 ≤ rs.length ∧ rs.length ≤ 200 ∧ (rs.length : Int) ≤ 20000 - n ∧ 0 ≤ o.at_ ∧ o.at_ ≤ n ∧ ∀ r ∈ rs, r ≤ 1114111 := by
  simp only [insOk, Bool.and_eq_true, decide_eq_true_eq, inB, textOk] at h
  obtain ⟨⟨⟨h1, h2, h3⟩, h4⟩, h5⟩ := h
  cases hr : runesOf o.text with
  | none => rw [ulen_none hr] at h3; omega
  | some rs =>
    have hu := ulen_some hr
    exact ⟨rs, rfl, by unfold runesD; rw [hr]; rfl, hu, by omega, by omega, by omega, h1.1, h1.2, runes_le _ o.text (Nat.le_refl _) rs hr⟩

theorem markS_ids (sp : List (Int × Int)) (l : List CellV) : (markS sp 0 l).map CellV.id = l.map CellV.id := by
  unfold markS
  apply List.ext_getElem?
  intro i
  rw [List.getElem?_map, List.getElem?_map, markP_get]
  cases l[i]? with
  | none => rfl
  | some c => simp only [Option.map_some]; split <;> rfl

theorem fresh_ids (o : OpV) (rs : List Nat) : ((freshC o rs).map CellV.id).Nodup := by
  unfold List.Nodup
  rw [List.pairwise_iff_getElem]
  intro i j hi hj hij e
  simp [freshC, CellV.id] at e
  omega
theorem fresh_name {o : OpV} {rs : List Nat} {c : CellV} (h : c ∈ freshC o rs) : c.site = o.site ∧ c.seq = o.seq := by
  unfold freshC at h
  rw [List.mem_mapIdx] at h
  obtain ⟨i, hi, rfl⟩ := h
  exact ⟨rfl, rfl⟩

/-- An operation that may be and is carried out: what it is. -/
theorem doE_zero {o : OpV} {sp : List (Int × Int)} {l : List CellV} (h : doE o sp l = 0) : opMay o sp l.length = true ∧ ((¬ o.kind = 1 ∧ doL o sp l = markS sp 0 l) ∨ (o.kind = 1 ∧ insOk o l.length = true ∧ o.name ∉ l.map CellV.name ∧ doL o sp l = l.take o.at_.toNat ++ freshC o (runesD o.text) ++ l.drop o.at_.toNat)) := by
  unfold doE at h
  by_cases hm : opMay o sp l.length = true
  · rw [if_pos hm] at h
    refine ⟨hm, ?_⟩
    unfold doL
    rw [if_pos hm]
    have hm' := hm
    unfold opMay at hm'
    simp only [Bool.and_eq_true] at hm'
    by_cases hk : o.kind = 2
    · rw [if_pos hk]
      exact .inl ⟨by omega, rfl⟩
    · rw [if_neg hk] at h ⊢
      by_cases hn : o.name ∈ l.map CellV.name
      · rw [if_pos hn] at h; omega
      · rw [if_neg hn]
        have h3 := hm'.2
        by_cases hk1 : o.kind = 1
        · rw [if_pos hk1] at h3
          exact .inr ⟨hk1, h3, hn, rfl⟩
        · rw [if_neg hk1, if_neg hk] at h3; cases h3
  · rw [if_neg hm] at h; omega

/-- An operation that is refused leaves the cells. -/
theorem doL_same {o : OpV} {sp : List (Int × Int)} {l : List CellV} (h : ¬ doE o sp l = 0) : doL o sp l = l := by
  unfold doE at h
  unfold doL
  by_cases hm : opMay o sp l.length = true
  · rw [if_pos hm] at h ⊢
    by_cases hk : o.kind = 2
    · rw [if_pos hk] at h; exact absurd rfl h
    · rw [if_neg hk] at h ⊢
      by_cases hn : o.name ∈ l.map CellV.name
      · rw [if_pos hn]
      · rw [if_neg hn] at h; exact absurd rfl h
  · rw [if_neg hm]

theorem Cl.doL {o : OpV} {sp : List (Int × Int)} {l : List CellV} (h : Cl l) (hs : -9223372036854775808 ≤ o.site ∧ o.site ≤ 9223372036854775807) (hq : -9223372036854775808 ≤ o.seq ∧ o.seq ≤ 9223372036854775807) : Cl (doL o sp l) := by
  by_cases he : doE o sp l = 0
  · rcases (doE_zero he).2 with ⟨_, e⟩ | ⟨_, hi, hn, e⟩
    · rw [e]
      exact ⟨by rw [markS_ids]; exact h.ids, fun c hc => markP_ok h.ok c hc, by rw [markS_len]; exact h.big⟩
    · rw [e]
      obtain ⟨rs, hr, hd, hu, h1, h2, h3, h4, h5, h6⟩ := ins_runes hi
      rw [hd]
      refine ⟨?_, ?_, ?_⟩
      · have hp : ((l.take o.at_.toNat ++ freshC o rs ++ l.drop o.at_.toNat).map CellV.id).Perm ((l ++ freshC o rs).map CellV.id) := by
          refine List.Perm.map _ ?_
          conv => rhs; rw [← List.take_append_drop o.at_.toNat l]
          rw [List.append_assoc, List.append_assoc]
          exact (List.perm_append_comm).append_left _
        rw [hp.nodup_iff, List.map_append, List.nodup_append]
        refine ⟨h.ids, fresh_ids o rs, ?_⟩
        intro a ha b hb hab
        subst hab
        obtain ⟨c, hc, rfl⟩ := List.mem_map.1 ha
        obtain ⟨d, hd', e2⟩ := List.mem_map.1 hb
        obtain ⟨e3, e4⟩ := fresh_name hd'
        simp [CellV.id] at e2
        exact hn (List.mem_map.2 ⟨c, hc, by simp [CellV.name, OpV.name, ← e2.1, ← e2.2.1, e3, e4]⟩)
      · intro c hc
        simp only [List.mem_append] at hc
        rcases hc with (hc | hc) | hc
        · exact h.ok c (List.mem_of_mem_take hc)
        · exact freshC_ok o rs hs hq h2 h6 c hc
        · exact h.ok c (List.mem_of_mem_drop hc)
      · simp only [List.length_append, List.length_take, List.length_drop, freshC_len]
        have := h.big
        omega
  · rw [doL_same he]; exact h

/-- A place right behind the cell of a name. -/
def behind (s q f : Int) (l : List CellV) (p : Int) : Prop := ∃ (i : Nat) (c : CellV), l[i]? = some c ∧ c.site = s ∧ c.seq = q ∧ c.off = f ∧ p = (i : Int) + 1
theorem behind.doL {s q f p : Int} {o : OpV} {sp : List (Int × Int)} {l : List CellV} (h : behind s q f l p) (he : doE o sp l = 0) : behind s q f (doL o sp l) (movP o p true) := by
  obtain ⟨i, c, hc, h1, h2, h3, hp⟩ := h
  have hlt := (List.getElem?_eq_some_iff.1 hc).1
  rcases (doE_zero he).2 with ⟨hk, e⟩ | ⟨hk, hi, hn, e⟩
  · rw [e]
    unfold movP
    rw [if_neg hk]
    refine ⟨i, _, by unfold markS; rw [markP_get, hc]; rfl, ?_, ?_, ?_, hp⟩
    all_goals split <;> assumption
  · rw [e]
    obtain ⟨rs, hr, hd, hu, g1, g2, g3, g4, g5, g6⟩ := ins_runes hi
    rw [hd]
    have hadd : addsOf o = rs.length := by unfold addsOf; rw [if_pos hk, hu]; omega
    unfold movP pointOf
    rw [if_pos hk, hadd]
    obtain ⟨at_, hat⟩ : ∃ n : Nat, o.at_ = n := ⟨o.at_.toNat, by omega⟩
    rw [hat] at g5 ⊢
    have hat2 : at_ ≤ l.length := by omega
    simp only [Int.toNat_natCast]
    by_cases hia : at_ ≤ i
    · rw [if_pos (.inl (by omega))]
      refine ⟨i + rs.length, c, ?_, h1, h2, h3, by rw [hp]; omega⟩
      rw [List.append_assoc, List.getElem?_append_right (by rw [List.length_take]; omega), List.length_take, Nat.min_eq_left hat2, List.getElem?_append_right (by rw [freshC_len]; omega), freshC_len, List.getElem?_drop, ← hc]
      congr 1; omega
    · rw [if_neg (by rintro (h | ⟨_, h⟩); omega; cases h)]
      refine ⟨i, c, ?_, h1, h2, h3, hp⟩
      rw [List.append_assoc, List.getElem?_append_left (by rw [List.length_take]; omega), List.getElem?_take, if_pos (by omega)]
      exact hc
end Go.Proofs.YtlidmajcdjlcnaaGreatDoor

namespace Go.Proofs.YtlidmajcdjlcnaaGreatDoor
open Go.RowKit Go.Shelf Go.Mine Go.Deep
open Classical

theorem src_zero {P : Program} {size : Nat} {tx e' : TypeId} (w : World) (hk : P.underlying tx = some (.slice e')) (a : Option Addr) (c : Nat) : Src P size tx (.slice a 0 c) 0 [] w := by
  cases a with
  | none => exact Src.ofNil w hk c
  | some a => exact Src.ofSlice w hk a 0 c [] (by simp) (fun j u h => by simp at h) (fun u h => by cases h)
theorem step_append_runI {P : Program} {ops : Array Oper} {o : Oper} {a : Act} {w w' : World} {K : Act → World → Prop} {Q : Exit → Act → World → Prop} {E : Prop} (hgd : o.guard = none) (s x : Operand) (t : TypeId)
    (hop : o.op = Op.call { callee := Callee.builtin Builtin.append, args := #[s, x], argTypes := #[t, t] }) (v u v' : Value) (hs : a.eval s = v) (hx : a.eval x = u)
    (hrun : (Builtin.append_ #[t, t] o.type #[v, u]).run P w = .ok v' w') (hK : K (a.put o.dst v') w') :
    if Region.wanted o (yielded ops a.tmps) = true then Oper.wp P o a w K Q else E := by
  have hw : Region.wanted o (yielded ops a.tmps) = true := by simp [Region.wanted, hgd]
  rw [if_pos hw]
  unfold Oper.wp
  simp [execOp, hop, resolve, invoke, builtin, hs, hx, hrun, Result.andThen]
  exact hK
/-- Cells behind others: append. -/
theorem app_cells {W : World} {B n vc len cap : Nat} {va a : Option Addr} {xs l : List CellV} (ho : W.ownsRow B 47 5 (.slice va n vc) n (flat CellV.cs xs)) (h : IsCells W a len cap l) (hb : n + len ≤ 1099511627776) (hB : B ≤ W.heap.size) :
    ∃ va' vc' w', (Builtin.append_ #[22, 22] 22 #[.slice va n vc, .slice a len cap]).run Tryz.prog W = .ok (.slice va' (n + len) vc') w' ∧
      w'.ownsRow B 47 5 (.slice va' (n + len) vc') (n + len) (flat CellV.cs (xs ++ l)) ∧ Mine.Mod (fun k => (Value.slice va n vc).ownBlock = some k) W w' := by
  obtain ⟨i0, hi0, hz0, hz1, hz2⟩ := info_parts infoCell
  by_cases hl0 : len = 0
  · subst hl0
    have hl : l = [] := List.eq_nil_of_length_eq_zero h.n
    subst hl
    have hle : n ≤ vc := by
      rcases ownsRow_blk ho with ⟨h1, h2, _⟩ | ⟨g, cap, more, h1, _, _, h2, _⟩
      · omega
      · cases h1; exact h2
    refine ⟨va, vc, W, ?_, by simpa using ho, Mine.Mod.refl _ _⟩
    have hs := src_zero (P := Tryz.prog) (size := i0.size) W Tryz.underlying22 a cap
    have := run_append_nothing (P := Tryz.prog) W 22 22 22 47 i0 Tryz.underlying22 hi0 va n vc hle _ hs
    simpa using this
  · obtain ⟨c, hc⟩ : ∃ x, l[0]? = some x := ⟨l[0]'(by rw [h.n]; omega), by simp⟩
    obtain ⟨b, off, rfl, _⟩ := h.cells 0 c hc
    have hr := h.row
    obtain ⟨v', w', hrun, hown, hgrow, _⟩ := run_append_own (P := Tryz.prog) W B 22 22 47 i0 _ 5 32 Tryz.underlying22 hi0 hz0 hz1 hz2 rfl (by decide) (.slice va n vc) n _ ho ⟨b, off, none⟩ len cap (flat CellV.cs l) (by rw [flat_length CellV.len, h.n]) (fun j u hj => by rw [Addr.add_lit]; exact hr j u hj) (flat_ones l) (by unfold maxLen; omega) (by omega) hB
    obtain ⟨va', vc', rfl⟩ : ∃ va' vc', v' = .slice va' (n + len) vc' := by
      rcases ownsRow_blk hown with ⟨_, h0, _⟩ | ⟨g', c', _, rfl, _⟩
      · omega
      · exact ⟨_, c', rfl⟩
    refine ⟨va', vc', w', hrun, ?_, (Mine.Mod.refl _ _).grown hgrow (fun k e _ => e)⟩
    rw [flat_append]; exact hown
theorem own_cells {w : World} {B n vc : Nat} {va : Option Addr} {xs : List CellV} (h : w.ownsRow B 47 5 (.slice va n vc) n (flat CellV.cs xs)) (ok : ∀ c ∈ xs, c.ok) : IsCells w va n vc xs := by
  have hl := h.1
  rw [flat_length CellV.len] at hl
  rcases ownsRow_blk h with ⟨h1, h2, h3⟩ | ⟨g, cap, more, h1, _, hb, hc, hm, _⟩
  · cases h1
    have : xs = [] := List.eq_nil_of_length_eq_zero (by omega)
    subst this
    exact ⟨rfl, Nat.le_refl _, Nat.zero_le _, ok, fun i x hx => by simp at hx⟩
  · cases h1
    refine ⟨by omega, hc, hm, ok, fun i x hx => ⟨g, 0, rfl, ?_⟩⟩
    intro j v hj
    rw [Nat.zero_add]
    have hj5 : j < 5 := by have := (List.getElem?_eq_some_iff.1 hj).1; exact this
    rw [Blk.elem CellV.len hb i j x hx hj5]
    exact hj
theorem IsCells.take {w : World} {a : Option Addr} {len cap : Nat} {l : List CellV} (h : IsCells w a len cap l) (k : Nat) (hk : k ≤ len) : IsCells w a k cap (l.take k) :=
  ⟨by rw [List.length_take, h.n]; omega, Nat.le_trans hk h.le, h.big, fun c hc => h.ok c (List.mem_of_mem_take hc), fun i c hc => h.cells i c (by
    rw [List.getElem?_take] at hc
    split at hc
    · exact hc
    · cases hc)⟩

theorem IsCells.drop {w : World} {b off len cap : Nat} {l : List CellV} (h : IsCells w (some ⟨b, off, none⟩) len cap l) (k : Nat) (hk : k ≤ len) : IsCells w (some ⟨b, off + k * 5, none⟩) (len - k) (cap - k) (l.drop k) :=
  ⟨by rw [List.length_drop, h.n], Nat.sub_le_sub_right h.le _, Nat.le_trans (Nat.sub_le _ _) h.big, fun c hc => h.ok c (List.mem_of_mem_drop hc), fun i c hc => by
    rw [List.getElem?_drop] at hc
    obtain ⟨b2, off2, e, hr⟩ := h.cells (k + i) c hc
    cases e
    refine ⟨b, off + k * 5, rfl, ?_⟩
    rw [show off + k * 5 + i * 5 = off + (k + i) * 5 by omega]
    exact hr⟩
theorem IsCells.one {W : World} {X : Nat} {c : CellV} (k : Blk W X c.cs 47) (hc : c.ok) : IsCells W (some ⟨X, 0, none⟩) 1 1 [c] :=
  ⟨rfl, Nat.le_refl _, by unfold maxLen; omega, fun x hx => by rw [List.mem_singleton.1 hx]; exact hc, fun i x hx => by
    obtain ⟨hi, e⟩ := List.getElem?_eq_some_iff.1 hx
    have hi0 : i = 0 := by simpa using hi
    subst hi0
    refine ⟨X, 0, rfl, fun j v hj => ?_⟩
    have e2 : c = x := by simpa using e
    subst e2
    have e3 : 0 + 0 * 5 + j = j := by omega
    rw [e3, k.cell]
    exact hj⟩
theorem take_snoc {α : Type} {l : List α} {k : Nat} {x : α} (h : l[k]? = some x) : l.take (k + 1) = l.take k ++ [x] := by
  obtain ⟨hk, e⟩ := List.getElem?_eq_some_iff.1 h
  rw [List.take_succ_eq_append_getElem hk, e]

/-- What the document's Run leaves. -/
noncomputable def runL9 (o : OpV) (sp : List (Int × Int)) (l : List CellV) : List CellV := if o.kind = 2 then markS sp 0 l else l.take o.at_.toNat ++ freshC o (runesD o.text) ++ l.drop o.at_.toNat
def Run9To (w : World) (o : OpV) (sp : List (Int × Int)) (l : List CellV) (e : Ending) (w' : World) : Prop :=
  (∃ va n vc, e = .returned (.slice va n vc) ∧ w'.ownsRow w.heap.size 47 5 (.slice va n vc) n (flat CellV.cs (runL9 o sp l)) ∧ ∀ c ∈ runL9 o sp l, c.ok) ∧ Mine.Mod none_ w w'

set_option maxHeartbeats 8000000 in
set_option maxRecDepth 1000000 in
theorem rrun9_any (w : World) (a : Option Addr) (len cap : Nat) (l : List CellV) (h : IsCells w a len cap l) (o : OpV) (sp : List (Int × Int)) (ho : o.ok w sp) (hm : opMay o sp len = true) (hlen : len ≤ 20000) (htx : o.text.size ≤ 1099511627776) :
    Calls Tryz.prog 62 #[.slice a len cap, o.v] w (Run9To w o sp l) := by
  have hle := h.le
  have hcap := h.big
  unfold maxLen at hcap
  obtain ⟨W0, hW0⟩ : ∃ W0, w.alloc (.cells o.cs.toArray 31) = W0 := ⟨_, rfl⟩
  obtain ⟨m0, kB⟩ := opBox1 hW0
  obtain ⟨K, hK⟩ : ∃ K, w.heap.size = K := ⟨_, rfl⟩
  rw [hK] at kB
  have HA := Lib.hid h
  have HO0 := Lib.hid ho
  have H := Lib.hid (h.grown m0)
  have H0 := Lib.hid (ho.grown m0)
  have M0 := Lib.hid m0
  have K0 := Lib.hid kB
  have HN := Lib.hid h.n
  have c3 : W0.cell? ⟨K, 3, none⟩ = some (.int .i64 o.kind) := by rw [kB.cell]; rfl
  have c4 : W0.cell? ⟨K, 4, none⟩ = some (.int .i64 o.at_) := by rw [kB.cell]; rfl
  have hKw : w.heap.size ≤ K := by omega
  clear h ho m0 kB
  by_cases hk : o.kind = 2
  · have hdel : spansOk sp = true ∧ (sp.all fun x => decide (x.1 + x.2 ≤ (len : Int))) = true := by
      unfold opMay at hm
      rw [if_neg (by omega), if_pos hk] at hm
      simp only [Bool.and_eq_true] at hm
      have h2 := hm.2
      unfold delOk at h2
      simp only [Bool.and_eq_true] at h2
      exact ⟨h2.1.2, by rw [← lastLe_all h2.1.2]; exact h2.2⟩
    have hkb : (o.kind == 1) = false := by rw [hk]; rfl
    have HD := Lib.hid hdel
    have HEQ := Lib.hid (show runL9 o sp l = markP (hasPl sp) l by
      unfold runL9
      rw [if_pos hk]
      unfold markS
      simp only [Nat.zero_add])
    have HSN := Lib.hid HO0.out.sp.n
    obtain ⟨va1, vc1, w1, hrun1, hown1, hmod1⟩ := app_cells (W := W0) (B := K) (va := none) (n := 0) (vc := 0) (xs := []) ⟨rfl, .inl ⟨rfl, rfl⟩⟩ H.out (by omega) (by rw [← hK]; exact M0.out.size)
    rw [Nat.zero_add] at hrun1 hown1
    have HRUN1 := Lib.hid hrun1
    have M1 := Lib.hid (M0.out.trans (hmod1.mono (fun k _ e => by cases e)))
    have K1 := Lib.hid (K0.out.mod hmod1 (fun e => by cases e))
    have O1 := Lib.hid (show w1.ownsRow K 47 5 (.slice va1 len vc1) len (flat CellV.cs (markP (hasPl (sp.take 0)) l)) by
      have e : markP (hasPl (sp.take 0)) l = l := markP_none (fun i _ => by simp [hasPl])
      rw [e]
      simpa using hown1)
    have hle5 := HO0.out.sp.le
    have hbig5 := HO0.out.sp.big
    unfold maxLen at hbig5
    clear hrun1 hk hm hown1 hmod1 c4 hdel
    go_enter Tryz.func62, Tryz.ntmps62
    go_upto_region 2 with fail
    clear hW0 hK
    go_wp2_with (at_builtin; refine Lib.wpList_append_run _ rfl (.tmp 49) (.tmp 50) 22 22 rfl _ _ rfl rfl _ _ HRUN1.out ?_)
    clear HRUN1 M0 K0 H H0 c3
    go_loopg [9] o.slen (fun g s9 wx => ∃ (i : Nat), g = o.slen - i ∧ s9 = .int .i64 i ∧ i ≤ o.slen ∧ Mine.Mod none_ w wx ∧ RowKit.Hid (Blk wx K o.cs 31 ∧ wx.ownsRow K 47 5 (.slice va1 len vc1) len (flat CellV.cs (markP (hasPl (sp.take i)) l))))
    case atStart => exact ⟨0, rfl, rfl, Nat.zero_le _, M1.out, Lib.hid ⟨K1.out, O1.out⟩⟩
    case round =>
      obtain ⟨i, rfl, rfl, hi, mx, hst⟩ := hrel
      obtain ⟨wx, rfl⟩ : ∃ wx, wx = wr := ⟨_, rfl⟩
      have MX := Lib.hid mx
      have c6 : wx.cell? ⟨K, 6, none⟩ = some (.slice o.sa o.slen o.scap) := by rw [hst.out.1.cell]; rfl
      by_cases hli : i < o.slen
      · obtain ⟨⟨f, n⟩, hx⟩ : ∃ x, sp[i]? = some x := ⟨sp[i]'(by rw [HSN.out]; exact hli), by simp⟩
        obtain ⟨sb, so, hsa, _, _⟩ := HO0.out.sp.cells i _ hx
        obtain ⟨f1, f2, f3, f4⟩ := spansFrom_ok sp _ HD.out.1 _ (List.mem_of_getElem? hx)
        have f5 := List.all_eq_true.1 HD.out.2 _ (List.mem_of_getElem? hx)
        simp only [decide_eq_true_eq] at f5
        dsimp only at f1 f2 f3 f4
        obtain ⟨F, rfl⟩ : ∃ F : Nat, f = F := ⟨f.toNat, by omega⟩
        obtain ⟨N, rfl⟩ : ∃ N : Nat, n = N := ⟨n.toNat, by omega⟩
        have hFN : F + N ≤ len := by omega
        have hN1 : 1 ≤ N := by omega
        obtain ⟨G, hvc, hG⟩ : ∃ G, va1 = some ⟨G, 0, none⟩ ∧ K ≤ G := by
          rcases ownsRow_blk hst.out.2 with ⟨_, h0, _⟩ | ⟨g, cap2, more, h1, hg, _⟩
          · omega
          · cases h1; exact ⟨g, rfl, hg⟩
        have HX := Lib.hid hx
        have HSA := Lib.hid hsa
        subst hvc
        rw [hsa] at c6
        clear f1 f2 f3 f4 f5 hx hsa
        go_wp2_with fail
        go_loopg [10] N (fun g s10 wy => ∃ (j : Nat), g = N - j ∧ s10 = .int .i64 j ∧ j ≤ N ∧ Mine.Mod none_ w wy ∧ RowKit.Hid (Blk wy K o.cs 31 ∧ wy.ownsRow K 47 5 (.slice (some ⟨G, 0, none⟩) len vc1) len (flat CellV.cs (markP (fun p => hasPl (sp.take i) p || decide (F ≤ p ∧ p < F + j)) l))))
        case atStart => exact ⟨0, rfl, rfl, Nat.zero_le _, MX.out, by
          have e : (fun p => hasPl (sp.take i) p || decide (F ≤ p ∧ p < F + 0)) = hasPl (sp.take i) := by
            funext p
            have : decide (F ≤ p ∧ p < F + 0) = false := decide_eq_false (by omega)
            rw [this, Bool.or_false]
          rw [e]
          exact hst⟩
        case round =>
          obtain ⟨j, rfl, rfl, hj, my, hst2⟩ := hrel
          have MY := Lib.hid my
          obtain ⟨b2, o2, hsa2, e0, e1⟩ := (HO0.out.sp.grown my).cells i _ HX.out
          rw [HSA.out] at hsa2
          obtain ⟨rfl, rfl⟩ : sb = b2 ∧ so = o2 := by simpa using hsa2
          dsimp only at e0 e1
          have c7 : wr.cell? ⟨K, 6, none⟩ = some (.slice o.sa o.slen o.scap) := by rw [hst2.out.1.cell]; rfl
          rw [HSA.out] at c7
          by_cases hlj : j < N
          · obtain ⟨c, hc⟩ : ∃ c, l[F + j]? = some c := ⟨l[F + j]'(by rw [HN.out]; omega), by simp⟩
            obtain ⟨kx, ox⟩ := hst2.out
            rcases ownsRow_blk ox with ⟨_, h0, _⟩ | ⟨g, cap2, more, h1, hg, hb, hcap2, hcm, hll⟩
            · omega
            obtain ⟨rfl, rfl⟩ : G = g ∧ vc1 = cap2 := by simpa using h1
            have hmg : (markP (fun p => hasPl (sp.take i) p || decide (F ≤ p ∧ p < F + j)) l)[F + j]? = some (if (hasPl (sp.take i) (F + j) || decide (F ≤ F + j ∧ F + j < F + j)) then goneC c else c) := by rw [markP_get, hc]; rfl
            have d4 : wr.cell? ⟨G, (F + j) * 5 + 4, none⟩ = (CellV.cs (if (hasPl (sp.take i) (F + j) || decide (F ≤ F + j ∧ F + j < F + j)) then goneC c else c))[4]? := Blk.elem CellV.len hb (F + j) 4 _ hmg (by decide)
            have d4' : wr.cell? ⟨G, (F + j) * 5 + 4, none⟩ = some (.bool (if (hasPl (sp.take i) (F + j) || decide (F ≤ F + j ∧ F + j < F + j)) then goneC c else c).gone) := d4
            have fz := hb.frozen ((F + j) * 5 + 4)
            have kb := hb.set ((F + j) * 5 + 4) (.bool true)
            have hmk : (markP (fun p => hasPl (sp.take i) p || decide (F ≤ p ∧ p < F + j)) l).set (F + j) (goneC (if (hasPl (sp.take i) (F + j) || decide (F ≤ F + j ∧ F + j < F + j)) then goneC c else c)) = markP (fun p => hasPl (sp.take i) p || decide (F ≤ p ∧ p < F + (j + 1))) l := by
              have eg : ∀ b : Bool, goneC (if b then goneC c else c) = goneC c := fun b => by cases b <;> rfl
              have h2 := markP_set (fun p => hasPl (sp.take i) p || decide (F ≤ p ∧ p < F + j)) l (F + j) c hc
              rw [eg, ← h2]
              refine markP_congr (fun p _ => ?_)
              have e3 : decide (F ≤ p ∧ p < F + (j + 1)) = (decide (F ≤ p ∧ p < F + j) || decide (p = F + j)) := by
                rw [Bool.eq_iff_iff]
                simp only [decide_eq_true_eq, Bool.or_eq_true]
                omega
              rw [e3, Bool.or_assoc]
            rw [flat_gone _ _ _ hmg, hmk] at kb
            have mG : Mine.Mod (one G) wr (wr.setCell ⟨G, (F + j) * 5 + 4, none⟩ (.bool true)) := (Mine.Mod.refl (one G) wr).setCell ⟨G, (F + j) * 5 + 4, none⟩ (fun _ => rfl) _
            have hKG : ¬ K = G := fun e => by
              subst e
              have e2 := Option.some.inj (kx.symm.trans hb)
              injection e2 with _ h2 _
              exact absurd h2 (by decide)
            have FIN := Lib.hid (show Mine.Mod none_ w (wr.setCell ⟨G, (F + j) * 5 + 4, none⟩ (.bool true)) ∧ Blk (wr.setCell ⟨G, (F + j) * 5 + 4, none⟩ (.bool true)) K o.cs 31 ∧ (wr.setCell ⟨G, (F + j) * 5 + 4, none⟩ (.bool true)).ownsRow K 47 5 (.slice (some ⟨G, 0, none⟩) len vc1) len (flat CellV.cs (markP (fun p => hasPl (sp.take i) p || decide (F ≤ p ∧ p < F + (j + 1))) l)) from
              ⟨my.transIn mG (fun b hb e => by have e' : b = G := e; omega), kx.mod mG (fun e => hKG e), blk_ownsRow hG kb (by rw [flat_length CellV.len, markP_len, HN.out]) hcap2 hcm (by rw [flat_length CellV.len, markP_len]; rw [flat_length CellV.len, markP_len] at hll; exact hll)⟩)
            generalize (if (hasPl (sp.take i) (F + j) || decide (F ≤ F + j ∧ F + j < F + j)) then goneC c else c).gone = bv at d4'
            clear hst2 kx ox h1 hb hll hmg d4 kb hmk mG hKG my hc hsa2
            obtain ⟨p, hp⟩ : ∃ p, p = F + j := ⟨_, rfl⟩
            have hwi : (F : Int) + (j : Int) = (p : Int) := by omega
            have hpl : p < len := by omega
            rw [← hp] at d4' fz FIN
            clear hp
            go_wp2_with fail
            go_roundg (N - (j + 1))
            all_goals first
              | omega
              | exact ⟨j + 1, rfl, by go_num, by omega, FIN.out.1, Lib.hid FIN.out.2⟩
          · obtain rfl : j = N := by omega
            have HPL := Lib.hid (show (fun p => hasPl (sp.take i) p || decide (F ≤ p ∧ p < F + j)) = hasPl (sp.take (i + 1)) from by
              funext p
              rw [hasPl_take sp i F j HX.out])
            have hx2 := hst2.out
            rw [HPL.out] at hx2
            have HS := Lib.hid hx2
            clear hst2 my hx2 hsa2
            go_wp2_with fail
            go_roundg (o.slen - (i + 1))
            all_goals first
              | omega
              | exact ⟨i + 1, rfl, by go_num, by omega, MY.out, HS⟩
      · obtain hik : i = o.slen := by omega
        have htk : sp.take i = sp := List.take_of_length_le (by rw [HSN.out]; omega)
        have HF := Lib.hid (show Run9To w o sp l (.returned (.slice va1 len vc1)) wx from by
          have h2 := hst.out.2
          rw [htk] at h2
          refine ⟨⟨_, _, _, rfl, ?_, ?_⟩, MX.out⟩
          · rw [HEQ.out]; exact ownsRow_base h2 hKw
          · rw [HEQ.out]; exact markP_ok HA.out.ok)
        clear hst mx htk
        go_wp2_with fail
        go_ret
        exact HF.out
  · have hk1 : o.kind = 1 ∧ insOk o len = true := by
      unfold opMay at hm
      by_cases h1 : o.kind = 1
      · rw [if_pos h1] at hm
        simp only [Bool.and_eq_true] at hm
        exact ⟨h1, hm.2⟩
      · rw [if_neg h1, if_neg hk] at hm
        simp at hm
    have hin : (0 ≤ o.at_ ∧ o.at_ ≤ (len : Int)) ∧ textOk o.text = true := by
      have := hk1.2
      unfold insOk inB at this
      simp only [Bool.and_eq_true, decide_eq_true_eq] at this
      exact ⟨this.1.1.1, this.1.1.2⟩
    obtain ⟨at', hat⟩ : ∃ at' : Nat, o.at_ = at' := ⟨o.at_.toNat, by omega⟩
    have hkb : (o.kind == 1) = true := by simpa using hk1.1
    have hatl : at' ≤ len := by omega
    rw [hat] at c4
    have HIN := Lib.hid hin
    have HAT := Lib.hid hat
    have HATE := Lib.hid hat
    obtain ⟨va1, vc1, w1, hrun1, hown1, hmod1⟩ := app_cells (W := W0) (B := K) (va := none) (n := 0) (vc := 0) (xs := []) ⟨rfl, .inl ⟨rfl, rfl⟩⟩ (H.out.take at' hatl) (by omega) (by rw [← hK]; exact M0.out.size)
    have HRUN1 := Lib.hid hrun1
    have M1 := Lib.hid (M0.out.trans (hmod1.mono (fun k _ e => by cases e)))
    have K1 := Lib.hid (K0.out.mod hmod1 (fun e => by cases e))
    have H1 := Lib.hid (H.out.grown (hmod1.mono (fun k _ e => by cases e)))
    have O1 := Lib.hid hown1
    obtain ⟨rs, hr1, hr2, hr3, hr4, hr5, hr6, hr7, hr8, hr9⟩ := ins_runes hk1.2
    have HRS := Lib.hid hr1
    have HR9 := Lib.hid hr9
    have hrl : rs.length ≤ 200 := hr5
    have hrl1 : 1 ≤ rs.length := hr4
    have HEQ := Lib.hid (show runL9 o sp l = l.take at' ++ freshC o rs ++ l.drop at' by
      unfold runL9
      rw [if_neg hk, hr2, hat, Int.toNat_natCast])
    have HOI := Lib.hid (And.intro H0.out.i1 H0.out.i2)
    have HFL := Lib.hid (show (freshC o rs).length = rs.length by unfold freshC; rw [List.length_mapIdx])
    have c5 : w1.cell? ⟨K, 5, none⟩ = some (.string o.text) := by rw [K1.out.cell]; rfl
    clear hrun1 hk hk1 hm hin hat hown1 hmod1 hr1 hr2 hr3 hr4 hr5 hr6 hr7 hr8 hr9 HAT HIN
    go_enter Tryz.func62, Tryz.ntmps62
    go_upto_region 2 with fail
    clear hW0
    go_wp2_with (at_builtin; refine Lib.wpList_append_run _ rfl (.tmp 14) (.tmp 18) 22 22 rfl _ _ rfl rfl _ _ HRUN1.out ?_)
    refine (rsplit_any o.text w1 htx).mono ?_
    rintro e w2 ⟨m2, _, hsp⟩
    obtain ⟨rv, rfl, hro⟩ := hsp rs HRS.out
    obtain ⟨rg, rc, rfl⟩ : ∃ rg rc, rv = .slice (some ⟨rg, 0, none⟩) rs.length rc := by
      rcases ownsRow_blk hro with ⟨h1, h2, _⟩ | ⟨g, cap, more, h1, _⟩
      · omega
      · exact ⟨_, _, h1⟩
    have RO := Lib.hid hro
    have M2 := Lib.hid (M1.out.trans m2)
    have K2 := Lib.hid (K1.out.mod m2 (fun e => e))
    have H2 := Lib.hid (H1.out.grown m2)
    have O2 := Lib.hid (ownsRow_mod O1.out m2 (fun _ _ e => e))
    obtain ⟨B2, hB2⟩ : ∃ B2, B2 = w1.heap.size := ⟨_, rfl⟩
    rw [← hB2] at RO
    obtain ⟨L, hL⟩ : ∃ L, L = rs.length := ⟨_, rfl⟩
    have HL := Lib.hid hL
    rw [← hL] at RO hrl ⊢
    clear m2 hsp hro c3 c4 c5 hB2 hL hK M0 K0 H0 HRUN1 M1 K1 H1 O1 H
    go_wp2_with fail
    go_loopg [5, 8] L (fun g s5 s8 wx => ∃ (k : Nat) (va : Option Addr) (vc : Nat), g = L - k ∧ s5 = .slice va (at' + k) vc ∧ s8 = .int .i64 k ∧ k ≤ L ∧ Mine.Mod none_ w wx ∧ RowKit.Hid (Blk wx K o.cs 31 ∧ IsCells wx a len cap l ∧ wx.ownsRow B2 21 1 (.slice (some ⟨rg, 0, none⟩) L rc) L (runeCs rs) ∧ wx.ownsRow K 47 5 (.slice va (at' + k) vc) (at' + k) (flat CellV.cs (l.take at' ++ (freshC o rs).take k))))
    case atStart => exact ⟨0, va1, vc1, rfl, by simp, rfl, Nat.zero_le _, M2.out, Lib.hid ⟨K2.out, H2.out, RO.out, by simpa using O2.out⟩⟩
    case round =>
      obtain ⟨k, va, vc, rfl, rfl, rfl, hk, mx, hst⟩ := hrel
      have MX := Lib.hid mx
      obtain ⟨kx, hx, rx, ox⟩ := hst.out
      by_cases hlk : k < L
      · obtain ⟨r, hr⟩ : ∃ r, rs[k]? = some r := ⟨rs[k]'(by rw [← HL.out]; exact hlk), by simp⟩
        have rblk : wr.cell? ⟨rg, k, none⟩ = some (.int .i32 (r : Int)) := by
          rcases ownsRow_blk rx with ⟨h1, h2, _⟩ | ⟨g, cap2, more, h1, _, hb, _⟩
          · omega
          · cases h1
            rw [hb.cell, List.getElem?_append_left (by rw [List.length_map]; exact (List.getElem?_eq_some_iff.1 hr).1), List.getElem?_map, hr]
            rfl
        have hrb := HR9.out r (List.mem_of_getElem? hr)
        obtain ⟨c, hcdef⟩ : ∃ c : CellV, c = ⟨o.site, o.seq, (k : Int), (r : Int), false⟩ := ⟨_, rfl⟩
        have hcok : c.ok := by
          rw [hcdef]
          exact ⟨HOI.out.1, HOI.out.2, by simp only; omega, by simp only; omega⟩
        have hfr : (freshC o rs).take (k + 1) = (freshC o rs).take k ++ [c] := by
          refine take_snoc ?_
          unfold freshC
          rw [List.getElem?_mapIdx, hr, hcdef]
          rfl
        have mY : Mine.Mod none_ wr (wr.drew.alloc (.cells c.cs.toArray 47)) := ((Mine.Mod.refl none_ wr).drew).alloc _
        have kY := Blk.new (w := wr.drew) (cs := c.cs) (t := 47)
        have hBw : K ≤ wr.heap.size := Nat.le_of_lt kx.lt
        obtain ⟨va', vc', w4, hrun, hown, hmod⟩ := app_cells (W := wr.drew.alloc (.cells c.cs.toArray 47)) (B := K) (ownsRow_mod ox mY (fun _ _ e => e)) (IsCells.one kY hcok) (by omega) (Nat.le_trans hBw mY.size)
        have mW : Mine.Mod (fun j => (Value.slice va (at' + k) vc).ownBlock = some j) wr w4 := (mY.mono (fun _ _ e => e.elim)).trans hmod
        have hne : ∀ j, (Value.slice va (at' + k) vc).ownBlock = some j → ∀ cs t, Blk wr j cs t → t = 47 := fun j hj cs t hb => by
          obtain ⟨cs2, hb2⟩ := ownsRow_type ox hj
          unfold Blk at hb hb2
          rw [hb] at hb2
          cases hb2; rfl
        have hlo : ∀ j, (Value.slice va (at' + k) vc).ownBlock = some j → w.heap.size ≤ j := fun j hj => Nat.le_trans hKw (ox.lt j hj).1
        have k4 : Blk w4 K o.cs 31 := kx.mod mW (fun e => absurd (hne K e _ _ kx) (by decide))
        have FIN := Lib.hid (show Mine.Mod none_ w w4 ∧ Blk w4 K o.cs 31 ∧ IsCells w4 a len cap l ∧ w4.ownsRow B2 21 1 (.slice (some ⟨rg, 0, none⟩) L rc) L (runeCs rs) ∧ w4.ownsRow K 47 5 (.slice va' (at' + (k + 1)) vc') (at' + (k + 1)) (flat CellV.cs (l.take at' ++ (freshC o rs).take (k + 1))) from by
          refine ⟨mx.transIn mW (fun b hb e => by have := hlo b e; omega), k4, HA.out.grown (mx.transIn mW (fun b hb e => by have := hlo b e; omega)), ?_, ?_⟩
          · exact ownsRow_mod rx mW (fun j hj e => by
              obtain ⟨cs2, hb2⟩ := ownsRow_type rx hj
              exact absurd (hne j e _ _ hb2) (by decide))
          · rw [hfr, ← List.append_assoc, ← Nat.add_assoc]
            exact hown)
        have r4 : w4.cell? ⟨rg, k, none⟩ = some (.int .i32 (r : Int)) := by
          refine mW.cell (fun e => ?_) rblk
          obtain ⟨cs2, hb2⟩ := ownsRow_type rx (k := rg) rfl
          exact absurd (hne rg e _ _ hb2) (by decide)
        have e0 : wr.cell? ⟨K, 0, none⟩ = some (.int .i64 o.site) := by rw [kx.cell]; rfl
        have e1 : wr.cell? ⟨K, 1, none⟩ = some (.int .i64 o.seq) := by rw [kx.cell]; rfl
        have e04 : w4.cell? ⟨K, 0, none⟩ = some (.int .i64 o.site) := by rw [k4.cell]; rfl
        have e14 : w4.cell? ⟨K, 1, none⟩ = some (.int .i64 o.seq) := by rw [k4.cell]; rfl
        rw [hcdef] at hrun
        have HRUN := Lib.hid hrun
        have mA := ((Mine.Mod.refl none_ wr).drew).alloc (.cells #[.int .i64 o.site, .int .i64 o.seq, .int .i64 (k : Int), .int .i32 (r : Int), .bool false] 47)
        have SA := Lib.hid (And.intro (mA.cell (fun e => e) e0) (And.intro (mA.cell (fun e => e) e1) (mA.cell (fun e => e) rblk)))
        have S4 := Lib.hid (And.intro e04 (And.intro e14 r4))
        clear hst kx hx rx ox hr hrb hfr mY kY hown hmod hne hcok hcdef hrun mA e04 e14 r4 mW hlo k4 mx
        go_upto_region 8 with fail
        refine wp_region_held_drew (S := fun w' => w'.cell? ⟨K, 0, none⟩ = some (.int .i64 o.site) ∧ w'.cell? ⟨K, 1, none⟩ = some (.int .i64 o.seq) ∧ w'.cell? ⟨rg, k, none⟩ = some (.int .i32 (r : Int))) (by kernel_rfl) ⟨e0, e1, rblk⟩ (fun hS => ?_)
        refine wpAnyH_take (i := 0) (v := .slice va (at' + k) vc) rfl (by kernel_rfl) (by kernel_rfl) (by kernel_rfl) (fun _ _ _ h => h) (Or.inl ⟨by kernel_rfl, ?_⟩) hS ?_
        · rintro w' ⟨q0, q1, q2⟩; go_simp
        try simp only [Act.put, List.setIfInBounds_toArray]
        refine wpAnyH_take (i := 1) (v := .pointer (some ⟨K, 0, none⟩)) rfl (by kernel_rfl) (by kernel_rfl) (by kernel_rfl) (fun _ _ _ h => h) (Or.inl ⟨by kernel_rfl, ?_⟩) hS ?_
        · rintro w' ⟨q0, q1, q2⟩; go_simp
        try simp only [Act.put]
        refine wpAnyH_take (i := 2) (v := .agg #[.int .i64 o.site, .int .i64 o.seq]) rfl (by kernel_rfl) (by kernel_rfl) (by kernel_rfl) (fun _ _ _ h => h) (Or.inl ⟨by kernel_rfl, ?_⟩) hS ?_
        · rintro w' ⟨q0, q1, q2⟩; go_simp
        try simp only [Act.put]
        refine wpAnyH_take (i := 3) (v := .int .i64 (k : Int)) rfl (by kernel_rfl) (by kernel_rfl) (by kernel_rfl) (fun _ _ _ h => h) (Or.inl ⟨by kernel_rfl, ?_⟩) hS ?_
        · rintro w' ⟨q0, q1, q2⟩; go_simp
        try simp only [Act.put]
        refine wpAnyH_take (i := 4) (v := .slice (some ⟨rg, 0, none⟩) L rc) rfl (by kernel_rfl) (by kernel_rfl) (by kernel_rfl) (fun _ _ _ h => h) (Or.inl ⟨by kernel_rfl, ?_⟩) hS ?_
        · rintro w' ⟨q0, q1, q2⟩; go_simp
        try simp only [Act.put]
        refine wpAnyH_take (i := 5) (v := .int .i64 (k : Int)) rfl (by kernel_rfl) (by kernel_rfl) (by kernel_rfl) (fun _ _ _ h => h) (Or.inl ⟨by kernel_rfl, ?_⟩) hS ?_
        · rintro w' ⟨q0, q1, q2⟩; go_simp
        try simp only [Act.put]
        refine wpAnyH_take (i := 6) (v := .pointer (some ⟨rg, k, none⟩)) rfl (by kernel_rfl) (by kernel_rfl) (by kernel_rfl) (fun _ _ _ h => h) (Or.inl ⟨by kernel_rfl, ?_⟩) hS ?_
        · rintro w' ⟨q0, q1, q2⟩; go_simp
        try simp only [Act.put]
        refine wpAnyH_take (i := 7) (v := .int .i32 (r : Int)) rfl (by kernel_rfl) (by kernel_rfl) (by kernel_rfl) (fun _ _ _ h => h) (Or.inl ⟨by kernel_rfl, ?_⟩) hS ?_
        · rintro w' ⟨q0, q1, q2⟩; go_simp
        try simp only [Act.put]
        refine wpAnyH_take (i := 8) (v := .agg #[.int .i64 o.site, .int .i64 o.seq, .int .i64 (k : Int), .int .i32 (r : Int), .bool false]) rfl (by kernel_rfl) (by kernel_rfl) (by kernel_rfl) (fun _ _ _ h => h) (Or.inl ⟨by kernel_rfl, ?_⟩) hS ?_
        · rintro w' ⟨q0, q1, q2⟩; go_simp
        try simp only [Act.put]
        refine wpAnyH_ready (rs := [9]) (by kernel_rfl) (by simp) (AllReadyH.cons rfl (fun K2 hK2 => ?_) <| AllReadyH.nil)
        go_simp
        refine hK2.out _ _ SA.out (fun hS => ?_)
        clear hK2 K2
        try simp only [Act.put, List.setIfInBounds_toArray, List.set_cons_zero, List.set_cons_succ]
        refine wpAnyH_ready (rs := [10]) (by kernel_rfl) (by simp) (AllReadyH.cons rfl (fun K2 hK2 => ?_) <| AllReadyH.nil)
        refine step_append_runI rfl (.tmp 32) (.tmp 41) 22 rfl _ _ _ rfl rfl HRUN.out ?_
        refine hK2.out _ _ S4.out (fun hS => ?_)
        clear hK2 K2
        try simp only [Act.put, List.setIfInBounds_toArray]
        refine wpAnyH_take (i := 11) (v := .slice va' (at' + k + 1) vc') rfl (by kernel_rfl) (by kernel_rfl) (by kernel_rfl) (fun _ _ _ h => h) (Or.inl ⟨by kernel_rfl, ?_⟩) hS ?_
        · rintro w' ⟨q0, q1, q2⟩; go_simp
        try simp only [Act.put]
        refine wpAnyH_done (by kernel_rfl) ?_ _
        try simp only [List.getElem_toArray, List.getElem_cons_succ, List.getElem_cons_zero]
        try simp only [List.setIfInBounds_toArray, List.set_cons_zero, List.set_cons_succ]
        clear hS e0 e1 rblk
        go_wp2_with fail
        go_roundg (L - (k + 1))
        all_goals first
          | omega
          | exact ⟨k + 1, va', vc', rfl, rfl, by go_num, by omega, FIN.out.1, Lib.hid FIN.out.2⟩
      · obtain rfl : k = L := by omega
        have hfl : (freshC o rs).take k = freshC o rs := List.take_of_length_le (by rw [HFL.out, ← HL.out]; exact Nat.le_refl _)
        rw [hfl] at ox
        have HO := Lib.hid ox
        have HX := Lib.hid hx
        have HKL := Lib.hid (Nat.le_of_lt kx.lt)
        have e4 : wr.cell? ⟨K, 4, none⟩ = some (.int .i64 o.at_) := by rw [kx.cell]; rfl
        rw [HATE.out] at e4
        clear hst kx hx rx ox hfl mx
        go_upto_region 9 with fail
        have hB9 : K ≤ wr.heap.size := HKL.out
        have hend : ∀ (a2 : Option Addr) (c2 : Nat), IsCells wr a2 (len - at') c2 (l.drop at') → ∃ va' vc' w', (Builtin.append_ #[22, 22] 22 #[.slice va (at' + k) vc, .slice a2 (len - at') c2]).run Tryz.prog wr = .ok (.slice va' (at' + k + (len - at')) vc') w' ∧ Run9To w o sp l (.returned (.slice va' (at' + k + (len - at')) vc')) w' := fun a2 c2 h2 => by
          obtain ⟨va', vc', w', hrun, hown, hmod⟩ := app_cells HO.out h2 (by omega) hB9
          refine ⟨va', vc', w', hrun, ⟨_, _, _, rfl, ?_, ?_⟩, MX.out.transIn hmod (fun b hb e => by have := (HO.out.lt b e).1; omega)⟩
          · rw [HEQ.out]; exact ownsRow_base hown hKw
          · rw [HEQ.out]
            intro c hc
            rcases List.mem_append.1 hc with hc | hc
            · rcases List.mem_append.1 hc with hc | hc
              · exact HX.out.ok c (List.mem_of_mem_take hc)
              · obtain ⟨i, hi, rfl⟩ := List.mem_mapIdx.1 hc
                have := HR9.out _ (List.getElem_mem hi)
                have hLL := HL.out
                exact ⟨HOI.out.1, HOI.out.2, by simp only; omega, by simp only; omega⟩
            · exact HX.out.ok c (List.mem_of_mem_drop hc)
        have HE := Lib.hid hend
        clear hend
        by_cases hce : cap = at'
        · subst hce
          obtain rfl : len = cap := by omega
          obtain ⟨va', vc', w5, hrun, hfin⟩ := HE.out a 0 (by
            have hd : l.drop len = [] := List.drop_eq_nil_of_le (by rw [HN.out]; exact Nat.le_refl _)
            rw [hd, Nat.sub_self]
            exact ⟨rfl, Nat.le_refl _, Nat.zero_le _, (fun c hc => by cases hc), (fun i c hc => by simp at hc)⟩)
          rw [Nat.sub_self] at hrun hfin
          have HF := Lib.hid hfin
          have HRUN := Lib.hid hrun
          clear hrun hfin
          go_wp2_with (at_builtin; refine Lib.wpList_append_run _ rfl (.tmp 43) (.tmp 47) 22 22 rfl _ _ rfl rfl _ _ HRUN.out ?_)
          go_ret
          exact HF.out
        · by_cases hl0 : len = 0
          · have hln : l = [] := List.eq_nil_of_length_eq_zero (by rw [HN.out]; exact hl0)
            have hz : len - at' = 0 := by omega
            have hce3 : ¬ at' = cap := fun e => hce e.symm
            cases a with
            | none =>
              obtain ⟨va', vc', w5, hrun, hfin⟩ := HE.out none (cap - at') (by
                rw [hln, hz, List.drop_nil]
                exact ⟨rfl, Nat.zero_le _, by unfold maxLen; omega, (fun c hc => by cases hc), (fun i c hc => by simp at hc)⟩)
              have HF := Lib.hid hfin
              have HRUN := Lib.hid hrun
              clear hrun hfin hln hz hl0
              go_wp2_with (at_builtin; refine Lib.wpList_append_run _ rfl (.tmp 43) (.tmp 47) 22 22 rfl _ _ rfl rfl _ _ HRUN.out ?_)
              go_ret
              exact HF.out
            | some x =>
              obtain rfl : at' = 0 := by omega
              subst hl0
              obtain ⟨va', vc', w5, hrun, hfin⟩ := HE.out (some (x.add 0)) (cap - 0) (by
                rw [hln]
                exact ⟨rfl, Nat.zero_le _, by unfold maxLen; omega, (fun c hc => by cases hc), (fun i c hc => by simp at hc)⟩)
              simp only [Nat.zero_add, Nat.sub_self, Nat.add_zero] at hfin
              have HF := Lib.hid hfin
              have HRUN := Lib.hid hrun
              clear hrun hfin hln
              go_wp2_with (at_builtin; refine Lib.wpList_append_run _ rfl (.tmp 43) (.tmp 47) 22 22 rfl _ _ rfl rfl _ _ HRUN.out ?_)
              go_ret
              exact HF.out
          · obtain ⟨b, off, rfl⟩ : ∃ b off, a = some ⟨b, off, none⟩ := by
              obtain ⟨c, hc⟩ : ∃ x, l[0]? = some x := ⟨l[0]'(by rw [HN.out]; omega), by simp⟩
              obtain ⟨b, off, e, _⟩ := HX.out.cells 0 c hc
              exact ⟨b, off, e⟩
            obtain ⟨va', vc', w5, hrun, hfin⟩ := HE.out _ _ (HX.out.drop at' hatl)
            have HF := Lib.hid hfin
            have HRUN := Lib.hid hrun
            clear hrun hfin
            have hce2 : ¬ cap - at' = 0 := by omega
            have hce3 : ¬ at' = cap := fun e => hce e.symm
            go_wp2_with (at_builtin; refine Lib.wpList_append_run _ rfl (.tmp 43) (.tmp 47) 22 22 rfl _ _ rfl rfl _ _ HRUN.out ?_)
            go_ret
            exact HF.out
end Go.Proofs.YtlidmajcdjlcnaaGreatDoor
