/-
  Layer 21 (hold): the document's queue (foolscapref21): Take, Drop, Pass.
-/
import Derived.Test.YtpdfakfokegcnaaHold13
namespace Go.Proofs.Ytpdfakfokegcnaa
open Go.RowKit Go.Mine

theorem Try.rqSize : (Try.prog.info? 58).map (·.size) = some 2 := by kernel_rfl
theorem Try.riSize : (Try.prog.info? 72).map (·.size) = some 12 := by kernel_rfl
theorem ld_rq (ρ : Operand → Value) (dst : Option Tmp) (x : Operand) (ty : TypeId) (pos : String) (after : Array Edge) (guard : Option (Nat × Bool)) :
    execOp ρ { dst, op := .load 58 x, type := ty, pos, after, guard } = (do pure (.value (← ldRow 58 (ρ x)))) := rfl
theorem st_rq (ρ : Operand → Value) (dst : Option Tmp) (x y : Operand) (ty : TypeId) (pos : String) (after : Array Edge) (guard : Option (Nat × Bool)) :
    execOp ρ { dst, op := .store 58 x y, type := ty, pos, after, guard } = (do stRow 58 (ρ x) (ρ y); pure .skip) := rfl
theorem ld_ri (ρ : Operand → Value) (dst : Option Tmp) (x : Operand) (ty : TypeId) (pos : String) (after : Array Edge) (guard : Option (Nat × Bool)) :
    execOp ρ { dst, op := .load 72 x, type := ty, pos, after, guard } = (do pure (.value (← ldRow 72 (ρ x)))) := rfl
theorem run_ld_rq (w : World) (g o : Nat) (h : w.there g o 2) : (ldRow 58 (.pointer (some ⟨g, o, none⟩))).run Try.prog w = .ok (.agg (cut w g o 2).toArray) w :=
  run_ldRow Try.underlying58 Try.rqSize w g o h
theorem run_ld_ri (w : World) (g o : Nat) (h : w.there g o 12) : (ldRow 72 (.pointer (some ⟨g, o, none⟩))).run Try.prog w = .ok (.agg (cut w g o 12).toArray) w :=
  run_ldRow Try.underlying72 Try.riSize w g o h
theorem run_st_rq (w : World) (g o : Nat) (n : Int) (a : Option Addr) (len cap : Nat) (h : w.there g o 2) : (stRow 58 (.pointer (some ⟨g, o, none⟩)) (.agg #[.int .i64 n, .slice a len cap])).run Try.prog w = .ok () (w.setCells g o [.int .i64 n, .slice a len cap]) :=
  run_stRow (cs := [.int .i64 n, .slice a len cap]) Try.rqSize w g o rfl (by intro v hv; simp at hv; rcases hv with rfl | rfl <;> rfl) h

/-- A list of the document's, read only. -/
structure RRow (w : World) (a : Option Addr) (len cap : Nat) (L : List Itm) : Prop where
  n : L.length = len
  le : len ≤ cap
  big : cap ≤ maxLen
  some_ : 0 < len → ∃ g off, a = some ⟨g, off, none⟩ ∧ ∀ (i : Nat) (x : Itm), L[i]? = some x → w.rangeAt g (off + i * 12) x.cells ∧ w.there g (off + i * 12) 12

/-- What is in b lies where a lay, or is new. -/
def newer (a b : Option Addr) (n : Nat) : Prop := ∀ B, b = some B → (∃ A, a = some A ∧ A.block = B.block) ∨ n ≤ B.block

theorem there_mod {S : Nat → Prop} {w w' : World} (m : Mod S w w') {g o k : Nat} (hs : ¬ S g) (h : w.there g o k) : w'.there g o k := fun j hj => by
  obtain ⟨h1, h2⟩ := h j hj
  obtain ⟨v, hv⟩ := Option.isSome_iff_exists.1 h1
  have hg := World.block_lt_of_cell? w _ hv
  have hb := m.block g hg hs
  refine ⟨?_, ?_⟩
  · rw [World.cell?_of_block (w := w) hb]; exact h1
  · rw [World.frozen?_of_block (w := w) hb]; exact h2

theorem there_sub {w : World} {g o k : Nat} (h : w.there g o k) (d k' : Nat) (hd : d + k' ≤ k) : w.there g (o + d) k' := fun j hj => by
  rw [Nat.add_assoc]; exact h (d + j) (by omega)
theorem range_sub {w : World} {g o : Nat} {v : Value} {cs : List Value} (h : w.rangeAt g o (v :: cs)) : w.rangeAt g (o + 1) cs := fun j u hu => by
  rw [Nat.add_assoc, Nat.add_comm 1 j]; exact h (j + 1) u hu

theorem RRow.mod {S : Nat → Prop} {w w' : World} {a : Option Addr} {len cap : Nat} {L : List Itm} (h : RRow w a len cap L) (m : Mod S w w') (hs : ∀ A, a = some A → ¬ S A.block) : RRow w' a len cap L :=
  ⟨h.n, h.le, h.big, fun h0 => by
    obtain ⟨g, off, rfl, hc⟩ := h.some_ h0
    exact ⟨g, off, rfl, fun i x hx => ⟨fun j v hv => m.cell (p := ⟨g, off + i * 12 + j, none⟩) (hs ⟨g, off, none⟩ rfl) ((hc i x hx).1 j v hv), there_mod m (hs ⟨g, off, none⟩ rfl) (hc i x hx).2⟩⟩⟩
theorem RRow.grown {w w' : World} {a : Option Addr} {len cap : Nat} {L : List Itm} (h : RRow w a len cap L) (m : Mod none_ w w') : RRow w' a len cap L := h.mod m (fun _ _ e => e)

attribute [local go_sem ↓] ld_msg st_msg ld_rq st_rq ld_ri
attribute [local go_sem] run_ld_msg run_st_msg run_ld_rq run_st_rq run_ld_ri cut_drew setCells_drew World.there_drew setCells_alloc_at there_alloc_at cut_alloc_at there_alloc_old cut_alloc_old fold_set_whole fold_set_at there_drewN cut_drewN setCells_drewN

theorem RRow.at_ {w : World} {a : Option Addr} {len cap : Nat} {L : List Itm} (h : RRow w a len cap L) (i : Nat) (hi : i < len) : ∃ g off x, a = some ⟨g, off, none⟩ ∧ L[i]? = some x ∧ w.rangeAt g (off + i * 12) x.cells ∧ w.there g (off + i * 12) 12 := by
  obtain ⟨g, off, ha, hc⟩ := h.some_ (by omega)
  have hL : L[i]? = some (L[i]'(by have := h.n; omega)) := List.getElem?_eq_getElem _
  exact ⟨g, off, _, ha, hL, hc i _ hL⟩

theorem rq_ones (n : Int) (a : Option Addr) (len cap : Nat) : ∀ v ∈ [Value.int .i64 n, .slice a len cap], v.oneCell' = true := by intro v hv; simp at hv; rcases hv with rfl | rfl <;> rfl

theorem results_rq {fn : Func} {p u : Tmp} (h : fn.results = #[.cell p 58, .tmp u]) (tmps : Array Value) (w : World) (g : Nat) (cs : List Value) (hp : tmps.getD p undef = .pointer (some ⟨g, 0, none⟩)) (hl : cs.length = 2) (hr : w.rangeAt g 0 cs) :
    (results fn tmps).run Try.prog w = .ok (.tuple #[.agg cs.toArray, tmps.getD u undef]) w := by
  rw [results_cell_tmp h, hp]
  have := run_loadVar_mid (P := Try.prog) w g 0 58 cs _ hr Try.underlying58 rfl (by rw [hl]; exact Try.rqSize)
  simp [asAddr, this, Result.andThen]
theorem results_rq1 {fn : Func} {p : Tmp} (h : fn.results = #[.cell p 58]) (tmps : Array Value) (w : World) (g : Nat) (cs : List Value) (hp : tmps.getD p undef = .pointer (some ⟨g, 0, none⟩)) (hl : cs.length = 2) (hr : w.rangeAt g 0 cs) :
    (results fn tmps).run Try.prog w = .ok (.agg cs.toArray) w := by
  have := run_loadVar_mid (P := Try.prog) w g 0 58 cs _ hr Try.underlying58 rfl (by rw [hl]; exact Try.rqSize)
  have hp' : tmps[p]?.getD undef = .pointer (some ⟨g, 0, none⟩) := by simpa using hp
  simp [results, h, hp', asAddr, this, Result.andThen]
theorem results_rqm {fn : Func} {p q u : Tmp} (h : fn.results = #[.cell p 58, .cell q 51, .tmp u]) (tmps : Array Value) (w : World) (g k : Nat) (cs ms : List Value) (hp : tmps.getD p undef = .pointer (some ⟨g, 0, none⟩)) (hq : tmps.getD q undef = .pointer (some ⟨k, 0, none⟩)) (hl : cs.length = 2) (hm : ms.length = 11) (hr : w.rangeAt g 0 cs) (hs : w.rangeAt k 0 ms) :
    (results fn tmps).run Try.prog w = .ok (.tuple #[.agg cs.toArray, .agg ms.toArray, tmps.getD u undef]) w := by
  have h1 := run_loadVar_mid (P := Try.prog) w g 0 58 cs _ hr Try.underlying58 rfl (by rw [hl]; exact Try.rqSize)
  have h2 := run_loadVar_mid (P := Try.prog) w k 0 51 ms _ hs Try.underlying51 rfl (by rw [hm]; exact Try.msgSize)
  have hp' : tmps[p]?.getD undef = .pointer (some ⟨g, 0, none⟩) := by simpa using hp
  have hq' : tmps[q]?.getD undef = .pointer (some ⟨k, 0, none⟩) := by simpa using hq
  simp [results, h, hp', hq', asAddr, h1, h2, Result.andThen]

structure TW (w T : World) (qs ms : List Value) : Prop where
  b0 : Blk T w.heap.size qs 58
  b1 : Blk T (w.heap.size + 1) [.int .i64 0, .slice none 0 0] 58
  b2 : Blk T (w.heap.size + 1 + 1) zm 51
  b3 : Blk T (w.heap.size + 1 + 1 + 1) ms 51
  m : Mod none_ w T

theorem TW.mk_ (w : World) (u0 u1 v0 v1 : Value) (zs ms : List Value) (n : Nat) (hzs : zs = zm) :
    TW w ((((((((w.alloc (.cells #[u0, u1] 58)).alloc (.cells #[.int .i64 0, .slice none 0 0] 58)).alloc (.cells zs.toArray 51)).drewN n).setCell ⟨w.heap.size, 1, none⟩ v1).setCell ⟨w.heap.size, 0, none⟩ v0)).alloc (.cells ms.toArray 51)) [v0, v1] ms := by
  have hzs2 := hzs
  have k0 := Blk.new (w := w) (cs := [u0, u1]) (t := 58)
  obtain ⟨W1, hW1⟩ : ∃ W1, W1 = w.alloc (.cells [u0, u1].toArray 58) := ⟨_, rfl⟩
  have s1 : W1.heap.size = w.heap.size + 1 := by rw [hW1]; simp
  have m1 : Mod none_ w W1 := by rw [hW1]; exact (Mod.refl _ _).alloc _
  rw [← hW1] at k0
  have k1 := Blk.new (w := W1) (cs := [.int .i64 0, .slice none 0 0]) (t := 58)
  obtain ⟨W2, hW2⟩ : ∃ W2, W2 = W1.alloc (.cells [.int .i64 0, .slice none 0 0].toArray 58) := ⟨_, rfl⟩
  have s2 : W2.heap.size = w.heap.size + 1 + 1 := by rw [hW2]; simp [s1]
  have m2 : Mod none_ W1 W2 := by rw [hW2]; exact (Mod.refl _ _).alloc _
  rw [← hW2, s1] at k1
  have k2 := Blk.new (w := W2) (cs := zs) (t := 51)
  obtain ⟨W3, hW3⟩ : ∃ W3, W3 = W2.alloc (.cells zs.toArray 51) := ⟨_, rfl⟩
  have s3 : W3.heap.size = w.heap.size + 1 + 1 + 1 := by rw [hW3]; simp [s2]
  have m3 : Mod none_ W2 W3 := by rw [hW3]; exact (Mod.refl _ _).alloc _
  rw [← hW3, s2] at k2
  have j0 := ((k0.mod m2 (fun e => e)).mod m3 (fun e => e)).mod ((Mod.refl none_ W3).drewN n) (fun e => e)
  have j1 := (k1.mod m3 (fun e => e)).mod ((Mod.refl none_ W3).drewN n) (fun e => e)
  have j2 := k2.mod ((Mod.refl none_ W3).drewN n) (fun e => e)
  obtain ⟨W4, hW4⟩ : ∃ W4, W4 = ((W3.drewN n).setCell ⟨w.heap.size, 1, none⟩ v1).setCell ⟨w.heap.size, 0, none⟩ v0 := ⟨_, rfl⟩
  have s4 : W4.heap.size = w.heap.size + 1 + 1 + 1 := by rw [hW4]; simp [World.setCell, s3]
  have m4 : Mod (one w.heap.size) (W3.drewN n) W4 := by rw [hW4]; exact ((Mod.refl (one w.heap.size) _).setCell ⟨w.heap.size, 1, none⟩ (fun _ => rfl) _).setCell ⟨w.heap.size, 0, none⟩ (fun _ => rfl) _
  have i0 : Blk W4 w.heap.size [v0, v1] 58 := by
    rw [hW4]; exact (j0.set 1 v1).set 0 v0
  have i1 := j1.mod m4 (fun e => by have : w.heap.size + 1 = w.heap.size := e; omega)
  have i2 := j2.mod m4 (fun e => by have : w.heap.size + 1 + 1 = w.heap.size := e; omega)
  have k3 := Blk.new (w := W4) (cs := ms) (t := 51)
  rw [s4] at k3
  have m5 := (Mod.refl none_ W4).alloc (.cells ms.toArray 51)
  have mm : Mod none_ w (W3.drewN n) := ((m1.trans m2).trans m3).drewN n
  rw [← hW1, ← hW2, ← hW3, ← hW4]
  exact ⟨i0.mod m5 (fun e => e), i1.mod m5 (fun e => e), by rw [← hzs]; exact i2.mod m5 (fun e => e), k3, (mm.transIn m4 (fun x hx e => by have : x = w.heap.size := e; omega)).trans m5⟩

/-- Two whole stores behind each other, into blocks of their own. -/
theorem TW.end_ {w T : World} {qs ms : List Value} (h : TW w T qs ms) (hq : qs.length = 2) (hm : ms.length = 11) :
    Blk ((T.setCells (w.heap.size + 1) 0 qs).setCells (w.heap.size + 1 + 1) 0 ms) (w.heap.size + 1) qs 58 ∧ Blk ((T.setCells (w.heap.size + 1) 0 qs).setCells (w.heap.size + 1 + 1) 0 ms) (w.heap.size + 1 + 1) ms 51 ∧ Mod none_ w ((T.setCells (w.heap.size + 1) 0 qs).setCells (w.heap.size + 1 + 1) 0 ms) := by
  obtain ⟨c1, m1⟩ := blk_over h.b1 (show [Value.int .i64 0, .slice none 0 0].length = qs.length by rw [hq]; rfl)
  have d2 := h.b2.mod m1 (fun e => by have : w.heap.size + 1 + 1 = w.heap.size + 1 := e; omega)
  obtain ⟨c2, m2⟩ := blk_over d2 (show zm.length = ms.length by rw [hm]; rfl)
  refine ⟨c1.mod m2 (fun e => by have : w.heap.size + 1 = w.heap.size + 1 + 1 := e; omega), c2, ?_⟩
  exact (h.m.transIn m1 (fun x hx e => by have : x = w.heap.size + 1 := e; omega)).transIn m2 (fun x hx e => by have : x = w.heap.size + 1 + 1 := e; omega)

def RTakePost (next : Int) (a : Option Addr) (L : List Itm) (m : List Value) (w : World) (e : Ending) (w' : World) : Prop :=
  ∃ a' len' cap', e = .returned (.tuple #[.agg #[.int .i64 (next + 1), .slice a' len' cap'], .agg m.toArray, .bool true]) ∧ RRow w' a' len' cap' L ∧ newer a a' w.heap.size ∧ Mod none_ w w'

theorem rtake_rest {w : World} {g off len cap : Nat} {x : Itm} {L : List Itm} (h : RRow w (some ⟨g, off, none⟩) len cap (x :: L)) : RRow w (some ⟨g, off + 12, none⟩) (len - 1) (cap - 1) L := by
  have hn := h.n
  have hle := h.le
  have hbig := h.big
  simp at hn
  refine ⟨by omega, by omega, by omega, fun h0 => ?_⟩
  obtain ⟨g', off', e, hc⟩ := h.some_ (by omega)
  cases e
  refine ⟨g, off + 12, rfl, fun i y hy => ?_⟩
  have := hc (i + 1) y (by simpa using hy)
  have e : off + (i + 1) * 12 = off + 12 + i * 12 := by omega
  rw [e] at this; exact this
theorem rtake_rest1 {w : World} {g off len cap o : Nat} {x : Itm} {L : List Itm} (hc : cap = 1) (h : RRow w (some ⟨g, off, none⟩) len cap (x :: L)) : RRow w (some ⟨g, o, none⟩) (len - 1) 0 L := by
  subst hc
  have hn := h.n
  have hle := h.le
  simp at hn
  exact ⟨by omega, by omega, by unfold maxLen; omega, fun h0 => by omega⟩

set_option maxHeartbeats 400000 in
set_option maxRecDepth 1000000 in
theorem rtake_some (next : Int) (a : Option Addr) (len cap : Nat) (x : Itm) (L : List Itm) (w : World) (h : RRow w a len cap (x :: L)) (hn : x.num = next) (hb : 1 ≤ next ∧ next ≤ 1099511627776) :
    Calls Try.prog 25 #[.agg #[.int .i64 next, .slice a len cap]] w (RTakePost next a L x.m w) := by
  have h0 : 0 < len := by have := h.n; simp at this; omega
  obtain ⟨g, off, y, rfl, hy, hr, ht⟩ := h.at_ 0 h0
  have hz : zm.length = 11 := rfl
  have oz : Ones zm := zm_ones
  have hle := h.le
  have hbig := h.big
  unfold maxLen at hbig
  cases hy
  have c0 : w.cell? ⟨g, off, none⟩ = some (.int .i64 next) := by have := hr 0 (.int .i64 x.num) rfl; simpa [hn] using this
  have hg0 : g < w.heap.size := block_lt_of_cell c0
  have hg1 : g < w.heap.size + 1 := by omega
  have hg2 : g < w.heap.size + 1 + 1 := by omega
  have hg3 : g < w.heap.size + 1 + 1 + 1 := by omega
  have t1 : w.there g (off + 1) 11 := there_sub ht 1 11 (by omega)
  have k1 : cut w g (off + 1) 11 = x.m := cut_of_range (by have := range_sub hr; simpa using this) x.hm
  have TX : ∀ o1 o2 o3, (((w.alloc o1).alloc o2).alloc o3).there g (off + 1) 11 := fun o1 o2 o3 => there_alloc_old _ _ _ _ _ (there_alloc_old _ _ _ _ _ (there_alloc_old _ _ _ _ _ t1))
  have KX : ∀ o1 o2 o3, cut (((w.alloc o1).alloc o2).alloc o3) g (off + 1) 11 = x.m := fun o1 o2 o3 => by
    rw [cut_alloc_old _ _ _ _ _ (by simp; omega), cut_alloc_old _ _ _ _ _ (by simp; omega), cut_alloc_old _ _ _ _ _ hg0, k1]
  have H := Lib.hid h
  have xm := x.hm
  have xo : Ones x.m := x.one
  clear h hr
  go_enter Try.func25, Try.ntmps25
  go_wp2_with fail
  have hd0 : ((len : Int) == 0) = false := by rw [beq_eq_false_iff_ne]; omega
  go_quiet (fail)
  go_wp2_with fail
  all_goals
    generalize hT : (World.alloc _ (Obj.cells x.m.toArray _)) = T
    obtain ⟨qs, tw, hqs⟩ : ∃ qs, TW w T qs x.m ∧ ∃ a' c', qs = [.int .i64 (next + 1), .slice a' (len - 1) c'] ∧ RRow w a' (len - 1) c' L ∧ newer (some ⟨g, off, none⟩) a' w.heap.size := by
      rw [← hT]
      exact ⟨_, TW.mk_ w _ _ _ _ _ _ nq rfl, _, _, rfl, (by first | exact rtake_rest H.out | exact rtake_rest1 ‹cap = 1› H.out), fun B hB => by cases hB; exact .inl ⟨_, rfl, rfl⟩⟩
    obtain ⟨a', c', rfl, hR, hN⟩ := hqs
    have r0 := cut_of_range (blk_range tw.b0) (k := 2) rfl
    have r3 := cut_of_range (blk_range tw.b3) (k := 11) xm
    have f0 := tw.b0.there 0 2 (by simp)
    have f1 := tw.b1.there 0 2 (by simp)
    have f2 := tw.b2.there 0 11 (by simp [hz])
    have f3 := tw.b3.there 0 11 (by simp [xm])
    have f4 : (T.setCells (w.heap.size + 1) 0 [.int .i64 (next + 1), .slice a' (len - 1) c']).there (w.heap.size + 1 + 1) 0 11 := World.there_setCells f2 _ _ _
    obtain ⟨q1, m1⟩ := blk_over tw.b1 (mc := [.int .i64 (next + 1), .slice a' (len - 1) c']) rfl
    have q3 := tw.b3.mod m1 (fun e => by have : w.heap.size + 1 + 1 + 1 = w.heap.size + 1 := e; omega)
    have f5 := q3.there 0 11 (by simp [xm])
    have r5 := cut_of_range (blk_range q3) (k := 11) xm
    have TT := Lib.hid tw
    clear tw hT q1 m1 q3
    go_region
    all_goals
      go_wp2
      obtain ⟨z1, z2, z3⟩ := TT.out.end_ rfl xm
      refine bodyPost_ret (results_rqm rfl _ _ (w.heap.size + 1) (w.heap.size + 1 + 1) _ x.m rfl rfl rfl xm (blk_range (z1.mod ((Mod.refl none_ _).drewN _) (fun e => e))) (blk_range (z2.mod ((Mod.refl none_ _).drewN _) (fun e => e)))) rfl ?_
      exact ⟨a', _, c', rfl, (hR.grown z3).grown ((Mod.refl none_ _).drewN _), hN, z3.drewN _⟩

/-- Three blocks made anew, and read. -/
theorem three_new (w : World) (c0 c1 c2 : List Value) (t0 t1 t2 : TypeId) (n : Nat) :
    ∀ T, T = (((w.alloc (.cells c0.toArray t0)).alloc (.cells c1.toArray t1)).alloc (.cells c2.toArray t2)).drewN n → Blk T w.heap.size c0 t0 ∧ Blk T (w.heap.size + 1) c1 t1 ∧ Blk T (w.heap.size + 1 + 1) c2 t2 ∧ Mod none_ w T := by
  rintro T rfl
  have k0 := Blk.new (w := w) (cs := c0) (t := t0)
  obtain ⟨W1, hW1⟩ : ∃ W1, W1 = w.alloc (.cells c0.toArray t0) := ⟨_, rfl⟩
  have s1 : W1.heap.size = w.heap.size + 1 := by rw [hW1]; simp
  have m1 : Mod none_ w W1 := by rw [hW1]; exact (Mod.refl _ _).alloc _
  rw [← hW1] at k0 ⊢
  have k1 := Blk.new (w := W1) (cs := c1) (t := t1)
  obtain ⟨W2, hW2⟩ : ∃ W2, W2 = W1.alloc (.cells c1.toArray t1) := ⟨_, rfl⟩
  have s2 : W2.heap.size = w.heap.size + 1 + 1 := by rw [hW2]; simp [s1]
  have m2 : Mod none_ W1 W2 := by rw [hW2]; exact (Mod.refl _ _).alloc _
  rw [← hW2] at k1 ⊢
  rw [s1] at k1
  have k2 := Blk.new (w := W2) (cs := c2) (t := t2)
  rw [s2] at k2
  have m3 := (Mod.refl none_ W2).alloc (.cells c2.toArray t2)
  have md := (Mod.refl none_ (W2.alloc (.cells c2.toArray t2))).drewN n
  exact ⟨((k0.mod m2 (fun e => e)).mod m3 (fun e => e)).mod md (fun e => e), (k1.mod m3 (fun e => e)).mod md (fun e => e), k2.mod md (fun e => e), ((m1.trans m2).trans m3).trans md⟩

def RNonePost (next : Int) (a : Option Addr) (len cap : Nat) (w : World) (e : Ending) (w' : World) : Prop :=
  e = .returned (.tuple #[.agg #[.int .i64 next, .slice a len cap], .agg zm.toArray, .bool false]) ∧ Mod none_ w w'

theorem rnone_end {w T : World} {next : Int} {a : Option Addr} {len cap : Nat} {c0 : List Value} {t0 : TypeId} (zs : List Value) (hzs : zs = zm) (h : Blk T w.heap.size c0 t0 ∧ Blk T (w.heap.size + 1) [.int .i64 0, .slice none 0 0] 58 ∧ Blk T (w.heap.size + 1 + 1) zm 51 ∧ Mod none_ w T) :
    Blk ((T.setCells (w.heap.size + 1) 0 [.int .i64 next, .slice a len cap]).setCells (w.heap.size + 1 + 1) 0 zs) (w.heap.size + 1) [.int .i64 next, .slice a len cap] 58 ∧ Blk ((T.setCells (w.heap.size + 1) 0 [.int .i64 next, .slice a len cap]).setCells (w.heap.size + 1 + 1) 0 zs) (w.heap.size + 1 + 1) zm 51 ∧ Mod none_ w ((T.setCells (w.heap.size + 1) 0 [.int .i64 next, .slice a len cap]).setCells (w.heap.size + 1 + 1) 0 zs) := by
  obtain ⟨_, b1, b2, m⟩ := h
  obtain ⟨c1, m1⟩ := blk_over b1 (mc := [.int .i64 next, .slice a len cap]) rfl
  obtain ⟨c2, m2⟩ := blk_over (b2.mod m1 (fun e => by have : w.heap.size + 1 + 1 = w.heap.size + 1 := e; omega)) (mc := zs) (by rw [hzs])
  have c3 := c1.mod m2 (fun e => by have : w.heap.size + 1 = w.heap.size + 1 + 1 := e; omega)
  refine ⟨c3, by rw [← hzs]; rw [hzs] at c2 ⊢; exact c2, ((m.transIn m1 (fun x hx e => by have : x = w.heap.size + 1 := e; omega)).transIn m2 (fun x hx e => by have : x = w.heap.size + 1 + 1 := e; omega))⟩

set_option maxHeartbeats 400000 in
set_option maxRecDepth 1000000 in
theorem rtake_none (next : Int) (a : Option Addr) (len cap : Nat) (L : List Itm) (w : World) (h : RRow w a len cap L) (hno : ∀ x, L[0]? = some x → x.num ≠ next) :
    Calls Try.prog 25 #[.agg #[.int .i64 next, .slice a len cap]] w (RNonePost next a len cap w) := by
  have hz : zm.length = 11 := rfl
  have oz := zm_ones
  have hle := h.le
  have hbig := h.big
  unfold maxLen at hbig
  by_cases h0 : len = 0
  · subst h0
    clear h hno
    go_enter Try.func25, Try.ntmps25
    go_wp2_with fail
    go_quiet (fail)
    generalize hT : World.drewN _ _ = T
    have tn := three_new w [.int .i64 next, .slice a 0 cap] [.int .i64 0, .slice none 0 0] zm _ _ _ _ T hT.symm
    have r0 := cut_of_range (blk_range tn.1) (k := 2) rfl
    have f0 := tn.1.there 0 2 (by simp)
    have f1 := tn.2.1.there 0 2 (by simp)
    have f2 := tn.2.2.1.there 0 11 (by simp [hz])
    have f4 : (T.setCells (w.heap.size + 1) 0 [.int .i64 next, .slice a 0 cap]).there (w.heap.size + 1 + 1) 0 11 := World.there_setCells f2 _ _ _
    have TT := Lib.hid tn
    clear tn hT
    go_wp2_with fail
    exact bodyPost_ret (results_rqm rfl _ _ (w.heap.size + 1) (w.heap.size + 1 + 1) _ zm rfl rfl rfl rfl (blk_range (rnone_end _ rfl TT.out).1) (blk_range (rnone_end _ rfl TT.out).2.1)) rfl ⟨rfl, (rnone_end _ rfl TT.out).2.2⟩
  · obtain ⟨g, off, y, rfl, hy, hr, ht⟩ := h.at_ 0 (by omega)
    have c0 : w.cell? ⟨g, off, none⟩ = some (.int .i64 y.num) := by have := hr 0 (.int .i64 y.num) rfl; simpa using this
    have hd : (y.num != next) = true := by rw [bne_iff_ne]; exact hno y hy
    have hg0 : g < w.heap.size := block_lt_of_cell c0
    have hg1 : g < w.heap.size + 1 := by omega
    have hg2 : g < w.heap.size + 1 + 1 := by omega
    have hg3 : g < w.heap.size + 1 + 1 + 1 := by omega
    have hd0 : ((len : Int) == 0) = false := by rw [beq_eq_false_iff_ne]; omega
    clear h hno hr ht hy
    go_enter Try.func25, Try.ntmps25
    go_wp2_with fail
    go_quiet (fail)
    generalize hT : World.drewN _ _ = T
    have tn := three_new w [.int .i64 next, .slice (some ⟨g, off, none⟩) len cap] [.int .i64 0, .slice none 0 0] zm _ _ _ _ T hT.symm
    have r0 := cut_of_range (blk_range tn.1) (k := 2) rfl
    have f0 := tn.1.there 0 2 (by simp)
    have f1 := tn.2.1.there 0 2 (by simp)
    have f2 := tn.2.2.1.there 0 11 (by simp [hz])
    have f4 : (T.setCells (w.heap.size + 1) 0 [.int .i64 next, .slice (some ⟨g, off, none⟩) len cap]).there (w.heap.size + 1 + 1) 0 11 := World.there_setCells f2 _ _ _
    have TT := Lib.hid tn
    clear tn hT
    go_wp2_with fail
    exact bodyPost_ret (results_rqm rfl _ _ (w.heap.size + 1) (w.heap.size + 1 + 1) _ zm rfl rfl rfl rfl (blk_range (rnone_end _ rfl TT.out).1) (blk_range (rnone_end _ rfl TT.out).2.1)) rfl ⟨rfl, (rnone_end _ rfl TT.out).2.2⟩

end Go.Proofs.Ytpdfakfokegcnaa
