/-
  Texts on which the claim rests, one behind the other: His1 Lst2 Rls1 His2 His3 His8 His9 Sam2 His13 Apt1 His10 His4 His5 His7 Add0.
-/
import Derived.Test.YtlidmajcdjlcnaaGreatDoorRp3

set_option linter.unusedSimpArgs false
set_option linter.unusedVariables false

namespace Go.Proofs.YtlidmajcdjlcnaaGreatDoor
open Go.RowKit Go.Shelf Go.Mine

/-- An entry. -/
structure EntV where
  o : OpV
  sp : List (Int × Int)
  ed : EditV
abbrev EntV.cs (x : EntV) : List Value := [.int .i64 x.o.site, .int .i64 x.o.seq, .int .i64 x.o.num, .int .i64 x.o.kind, .int .i64 x.o.at_, .string x.o.text, .slice x.o.sa x.o.slen x.o.scap, .int .i64 x.ed.site, .int .i64 x.ed.seq, .int .i64 x.ed.ctx, .int .i64 x.ed.kind, .int .i64 x.ed.at_, .int .i64 x.ed.len, .string x.ed.text]
abbrev EntV.v (x : EntV) : Value := .agg #[.int .i64 x.o.site, .int .i64 x.o.seq, .int .i64 x.o.num, .int .i64 x.o.kind, .int .i64 x.o.at_, .string x.o.text, .slice x.o.sa x.o.slen x.o.scap, .int .i64 x.ed.site, .int .i64 x.ed.seq, .int .i64 x.ed.ctx, .int .i64 x.ed.kind, .int .i64 x.ed.at_, .int .i64 x.ed.len, .string x.ed.text]
/-- Entries in memory. -/
structure IsEnts (w : World) (a : Option Addr) (len cap : Nat) (l : List EntV) : Prop where
  n : l.length = len
  le : len ≤ cap
  big : cap ≤ maxLen
  ok : ∀ x ∈ l, x.o.ok w x.sp ∧ x.ed.ok w
  ents : ∀ (i : Nat) (x : EntV), l[i]? = some x → ∃ b off, a = some ⟨b, off, none⟩ ∧ w.rangeAt b (off + i * 14) x.cs
theorem IsEnts.grown {w w' : World} {a : Option Addr} {len cap : Nat} {l : List EntV} (h : IsEnts w a len cap l) (m : Mine.Mod none_ w w') : IsEnts w' a len cap l :=
  ⟨h.n, h.le, h.big, fun x hx => ⟨(h.ok x hx).1.grown m, (h.ok x hx).2.grown m⟩, fun i c hc => by
    obtain ⟨b, off, e, hr⟩ := h.ents i c hc
    exact ⟨b, off, e, fun j v hv => m.cell (fun e => e) (hr j v hv)⟩⟩
/-- A history: where its parts lie. -/
structure HistV where
  ba : Option Addr
  bl : Nat
  bc : Nat
  va : Option Addr
  vl : Nat
  vc : Nat
  from_ : Int
  num : Int
  la : Option Addr
  ll : Nat
  lc : Nat
abbrev HistV.cs (h : HistV) : List Value := [.slice h.ba h.bl h.bc, .slice h.va h.vl h.vc, .int .i64 h.from_, .int .i64 h.num, .slice h.la h.ll h.lc]
abbrev HistV.v (h : HistV) : Value := .agg #[.slice h.ba h.bl h.bc, .slice h.va h.vl h.vc, .int .i64 h.from_, .int .i64 h.num, .slice h.la h.ll h.lc]
structure HistIs (w : World) (h : HistV) (B : List CellV) (V : List Int) (E : List EntV) : Prop where
  b : IsCells w h.ba h.bl h.bc B
  v : IsVec w h.va h.vl h.vc V
  e : IsEnts w h.la h.ll h.lc E
  i1 : -9223372036854775808 ≤ h.from_ ∧ h.from_ ≤ 9223372036854775807
  i2 : -9223372036854775808 ≤ h.num ∧ h.num ≤ 9223372036854775807
theorem HistIs.grown {w w' : World} {h : HistV} {B : List CellV} {V : List Int} {E : List EntV} (k : HistIs w h B V E) (m : Mine.Mod none_ w w') : HistIs w' h B V E := ⟨k.b.grown m, k.v.grown m, k.e.grown m, k.i1, k.i2⟩
abbrev opsOf (E : List EntV) : List OpS := E.map fun x => ⟨x.o, x.sp⟩
abbrev OpS.cs (x : OpS) : List Value := x.o.cs
theorem OpS.len (x : OpS) : x.cs.length = 7 := rfl
theorem OpS.ones (x : OpS) : ∀ v ∈ x.cs, v.oneCell' = true := by
  intro v hv
  simp only [OpS.cs, OpV.cs, List.mem_cons, List.not_mem_nil, or_false] at hv
  rcases hv with rfl | rfl | rfl | rfl | rfl | rfl | rfl <;> rfl
theorem infoOp : (Tryz.prog.info? 31).map (fun i => (i.zero, i.size, i.bytes)) = some (some (.agg #[.int .i64 0, .int .i64 0, .int .i64 0, .int .i64 0, .int .i64 0, .string ⟨#[]⟩, .slice none 0 0]), 7, 80) := by kernel_rfl
/-- Operations in new memory. -/
theorem own_ops {w : World} {B n vc : Nat} {va : Option Addr} {xs : List OpS} (h : w.ownsRow B 31 7 (.slice va n vc) n (flat OpS.cs xs)) (ok : ∀ x ∈ xs, x.o.ok w x.sp) : IsOps w va n vc xs := by
  have hl := h.1
  rw [flat_length OpS.len] at hl
  rcases ownsRow_blk h with ⟨h1, h2, h3⟩ | ⟨g, cap, more, h1, _, hb, hc, hm, _⟩
  · cases h1
    have : xs = [] := List.eq_nil_of_length_eq_zero (by omega)
    subst this
    exact ⟨rfl, Nat.le_refl _, Nat.zero_le _, ok, fun i x hx => by simp at hx⟩
  · cases h1
    refine ⟨by omega, hc, hm, ok, fun i x hx => ⟨g, 0, rfl, ?_⟩⟩
    intro j v hj
    rw [Nat.zero_add]
    have hj7 : j < 7 := by have := (List.getElem?_eq_some_iff.1 hj).1; exact this
    rw [Blk.elem OpS.len hb i j x hx hj7]
    exact hj
theorem ents_snoc {α : Type} {l : List α} {k : Nat} {x : α} (h : l[k]? = some x) : l.take (k + 1) = l.take k ++ [x] := by
  obtain ⟨hk, e⟩ := List.getElem?_eq_some_iff.1 h
  rw [List.take_succ_eq_append_getElem hk, e]
/-- One operation more. -/
theorem app_op {W : World} {B n vc X : Nat} {va : Option Addr} {xs : List OpS} {x : OpS} (ho : W.ownsRow B 31 7 (.slice va n vc) n (flat OpS.cs xs)) (k : Blk W X x.cs 31) (hb : n ≤ 1000000) (hB : B ≤ W.heap.size) :
    ∃ va' vc' w', (Builtin.append_ #[60, 60] 60 #[.slice va n vc, .slice (some ⟨X, 0, none⟩) 1 1]).run Tryz.prog W = .ok (.slice va' (n + 1) vc') w' ∧
      w'.ownsRow B 31 7 (.slice va' (n + 1) vc') (n + 1) (flat OpS.cs (xs ++ [x])) ∧ Mine.Mod (fun k => (Value.slice va n vc).ownBlock = some k) W w' := by
  obtain ⟨i0, hi0, hz0, hz1, hz2⟩ := info_parts infoOp
  obtain ⟨v', w', hrun, hown, hgrow, _⟩ := run_append_own (P := Tryz.prog) W B 60 60 31 i0 _ 7 80 Tryz.underlying60 hi0 hz0 hz1 hz2 rfl (by decide) (.slice va n vc) n _ ho ⟨X, 0, none⟩ 1 1 x.cs rfl (World.news_of_block k) (OpS.ones x) (by unfold maxLen; omega) (by omega) hB
  obtain ⟨va', vc', rfl⟩ : ∃ va' vc', v' = .slice va' (n + 1) vc' := by
    rcases ownsRow_blk hown with ⟨_, h0, _⟩ | ⟨g', c', _, rfl, _⟩
    · omega
    · exact ⟨_, c', rfl⟩
  refine ⟨va', vc', w', hrun, ?_, (Mine.Mod.refl _ _).grown hgrow (fun k e _ => e)⟩
  rw [flat_append]
  simpa using hown
/-- What a list of operations leaves. -/
def AllTo (w : World) (E : List EntV) (e : Ending) (w' : World) : Prop :=
  (∃ va n vc, e = .returned (.slice va n vc) ∧ w'.ownsRow w.heap.size 31 7 (.slice va n vc) n (flat OpS.cs (opsOf E))) ∧ Mine.Mod none_ w w'

set_option maxHeartbeats 4000000 in
set_option maxRecDepth 1000000 in
theorem hall_any (w : World) (h : HistV) (E : List EntV) (he : IsEnts w h.la h.ll h.lc E) (hl : h.ll ≤ 100000) :
    Calls Tryz.prog 58 #[h.v] w (AllTo w E) := by
  obtain ⟨xba, xbl, xbc, xva, xvl, xvc, xfr, xnum, xla, xll, xlc⟩ := h
  have hle := he.le
  have hcap := he.big
  unfold maxLen at hcap
  dsimp only at hle hcap hl he
  obtain ⟨W0, hW0⟩ : ∃ W0, w.alloc (.cells #[.slice xba xbl xbc, .slice xva xvl xvc, .int .i64 xfr, .int .i64 xnum, .slice xla xll xlc] 39) = W0 := ⟨_, rfl⟩
  obtain ⟨K, hK⟩ : ∃ K, w.heap.size = K := ⟨_, rfl⟩
  have m0 : Mine.Mod none_ w W0 := by rw [← hW0]; exact (Mine.Mod.refl none_ w).alloc _
  have k0 : Blk W0 K [.slice xba xbl xbc, .slice xva xvl xvc, .int .i64 xfr, .int .i64 xnum, .slice xla xll xlc] 39 := by rw [← hW0, ← hK]; exact Blk.new (w := w) (cs := [.slice xba xbl xbc, .slice xva xvl xvc, .int .i64 xfr, .int .i64 xnum, .slice xla xll xlc])
  obtain ⟨cs0, hcs0⟩ : ∃ cs0 : List Value, cs0 = [.slice xba xbl xbc, .slice xva xvl xvc, .int .i64 xfr, .int .i64 xnum, .slice xla xll xlc] := ⟨_, rfl⟩
  rw [← hcs0] at k0
  have HCS := Lib.hid (show ∀ W, Blk W K cs0 39 → W.cell? ⟨K, 4, none⟩ = some (.slice xla xll xlc) from fun W k => by rw [k.cell, hcs0]; rfl)
  have M0 := Lib.hid m0
  have K0 := Lib.hid k0
  have H := Lib.hid he
  have HN := Lib.hid he.n
  have hKw : w.heap.size ≤ K := by omega
  have c4 : W0.cell? ⟨K, 4, none⟩ = some (.slice xla xll xlc) := HCS.out W0 k0
  clear he m0 k0 hcs0
  go_enter Tryz.func58, Tryz.ntmps58
  go_upto_region 1 with fail
  clear hW0 hK
  go_wp2_with fail
  clear c4
  go_loopg [3, 9] xll (fun g s3 s9 wx => ∃ (k : Nat) (va : Option Addr) (vc : Nat), g = xll - k ∧ s3 = .slice va k vc ∧ s9 = .int .i64 k ∧ k ≤ xll ∧ Mine.Mod none_ w wx ∧ RowKit.Hid (Blk wx K cs0 39 ∧ wx.ownsRow w.heap.size 31 7 (.slice va k vc) k (flat OpS.cs (opsOf (E.take k)))))
  case atStart => exact ⟨0, none, 0, rfl, rfl, rfl, Nat.zero_le _, M0.out, Lib.hid ⟨K0.out, ⟨by simp, .inl ⟨rfl, rfl⟩⟩⟩⟩
  case round =>
    obtain ⟨k, va, vc, rfl, rfl, rfl, hk, mx, hst⟩ := hrel
    have MX := Lib.hid mx
    obtain ⟨kx, ox⟩ := hst.out
    have d4 : wr.cell? ⟨K, 4, none⟩ = some (.slice xla xll xlc) := HCS.out wr kx
    by_cases hlk : k < xll
    · obtain ⟨x, hx⟩ : ∃ x, E[k]? = some x := ⟨E[k]'(by rw [HN.out]; exact hlk), by simp⟩
      obtain ⟨b, off, rfl, hr⟩ := (H.out.grown mx).ents k x hx
      have c0 := hr 0 _ rfl
      have c1 := hr 1 _ rfl
      have c2 := hr 2 _ rfl
      have c3 := hr 3 _ rfl
      have c4 := hr 4 _ rfl
      have c5 := hr 5 _ rfl
      have c6 := hr 6 _ rfl
      have c7 := hr 7 _ rfl
      have c8 := hr 8 _ rfl
      have c9 := hr 9 _ rfl
      have c10 := hr 10 _ rfl
      have c11 := hr 11 _ rfl
      have c12 := hr 12 _ rfl
      have c13 := hr 13 _ rfl
      rw [Nat.add_zero] at c0
      have mY : Mine.Mod none_ wr ((wr.alloc (.cells x.cs.toArray 35)).alloc (.cells x.o.cs.toArray 31)) := ((Mine.Mod.refl none_ wr).alloc (.cells x.cs.toArray 35)).alloc _
      have kY := Blk.new (w := (wr.alloc (.cells x.cs.toArray 35))) (cs := x.o.cs) (t := 31)
      rw [World.size_alloc] at kY
      obtain ⟨va', vc', w4, hrun, hown, hmod⟩ := app_op (x := ⟨x.o, x.sp⟩) (ownsRow_mod ox mY (fun _ _ e => e)) kY (by omega) (Nat.le_trans mx.size mY.size)
      have mW : Mine.Mod (fun j => (Value.slice va k vc).ownBlock = some j) wr w4 := (mY.mono (fun _ _ e => e.elim)).trans hmod
      have FIN := Lib.hid (show Mine.Mod none_ w w4 ∧ Blk w4 K cs0 39 ∧ w4.ownsRow w.heap.size 31 7 (.slice va' (k + 1) vc') (k + 1) (flat OpS.cs (opsOf (E.take (k + 1)))) from by
        refine ⟨mx.transIn mW (fun j hb e => by have := (ox.lt j e).1; omega), kx.mod mW (fun e => ?_), ?_⟩
        · obtain ⟨cs2, hb2⟩ := ownsRow_type ox e
          have e2 := Option.some.inj (kx.symm.trans hb2)
          injection e2 with _ h2 _
          exact absurd h2 (by decide)
        · rw [ents_snoc hx]; unfold opsOf; rw [List.map_append]
          exact hown)
      dsimp only [EntV.cs, OpV.cs] at hrun
      have HRUN := Lib.hid hrun
      clear mx kx ox hst hx hr hrun hown hmod mW mY kY
      go_wp2_with (at_builtin; refine Lib.wpList_append_run _ rfl (.tmp 13) (.tmp 16) 60 60 rfl _ _ rfl rfl _ _ HRUN.out ?_)
      go_roundg (xll - (k + 1))
      all_goals first
        | omega
        | exact ⟨k + 1, va', vc', rfl, rfl, by go_num, by omega, FIN.out.1, Lib.hid FIN.out.2⟩
    · have hkl : k = xll := by omega
      have HF := Lib.hid (show AllTo w E (.returned (.slice va k vc)) wr from by
        refine ⟨⟨va, k, vc, rfl, ?_⟩, mx⟩
        have := ox
        rwa [List.take_of_length_le (by rw [HN.out]; omega)] at this)
      clear mx kx ox hst
      go_wp2_with fail
      go_ret
      exact HF.out
set_option maxHeartbeats 4000000 in
set_option maxRecDepth 1000000 in
theorem rops_any (w : World) (h : HistV) (E : List EntV) (he : IsEnts w h.la h.ll h.lc E) (hl : h.ll ≤ 100000) :
    Calls Tryz.prog 26 #[h.v] w (AllTo w E) := by
  obtain ⟨xba, xbl, xbc, xva, xvl, xvc, xfr, xnum, xla, xll, xlc⟩ := h
  have hle := he.le
  have hcap := he.big
  unfold maxLen at hcap
  dsimp only at hle hcap hl he
  obtain ⟨W0, hW0⟩ : ∃ W0, w.alloc (.cells #[.slice xba xbl xbc, .slice xva xvl xvc, .int .i64 xfr, .int .i64 xnum, .slice xla xll xlc] 26) = W0 := ⟨_, rfl⟩
  obtain ⟨K, hK⟩ : ∃ K, w.heap.size = K := ⟨_, rfl⟩
  have m0 : Mine.Mod none_ w W0 := by rw [← hW0]; exact (Mine.Mod.refl none_ w).alloc _
  have k0 : Blk W0 K [.slice xba xbl xbc, .slice xva xvl xvc, .int .i64 xfr, .int .i64 xnum, .slice xla xll xlc] 26 := by rw [← hW0, ← hK]; exact Blk.new (w := w) (cs := [.slice xba xbl xbc, .slice xva xvl xvc, .int .i64 xfr, .int .i64 xnum, .slice xla xll xlc])
  obtain ⟨cs0, hcs0⟩ : ∃ cs0 : List Value, cs0 = [.slice xba xbl xbc, .slice xva xvl xvc, .int .i64 xfr, .int .i64 xnum, .slice xla xll xlc] := ⟨_, rfl⟩
  rw [← hcs0] at k0
  have HCS := Lib.hid (show ∀ W, Blk W K cs0 26 → W.cell? ⟨K, 4, none⟩ = some (.slice xla xll xlc) from fun W k => by rw [k.cell, hcs0]; rfl)
  have M0 := Lib.hid m0
  have K0 := Lib.hid k0
  have H := Lib.hid he
  have HN := Lib.hid he.n
  have hKw : w.heap.size ≤ K := by omega
  have c4 : W0.cell? ⟨K, 4, none⟩ = some (.slice xla xll xlc) := HCS.out W0 k0
  clear he m0 k0 hcs0
  go_enter Tryz.func26, Tryz.ntmps26
  go_upto_region 1 with fail
  clear hW0 hK
  go_wp2_with fail
  clear c4
  go_loopg [3, 4] xll (fun g s3 s9 wx => ∃ (k : Nat) (va : Option Addr) (vc : Nat), g = xll - k ∧ s3 = .slice va k vc ∧ s9 = .int .i64 k ∧ k ≤ xll ∧ Mine.Mod none_ w wx ∧ RowKit.Hid (Blk wx K cs0 26 ∧ wx.ownsRow w.heap.size 31 7 (.slice va k vc) k (flat OpS.cs (opsOf (E.take k)))))
  case atStart => exact ⟨0, none, 0, rfl, rfl, rfl, Nat.zero_le _, M0.out, Lib.hid ⟨K0.out, ⟨by simp, .inl ⟨rfl, rfl⟩⟩⟩⟩
  case round =>
    obtain ⟨k, va, vc, rfl, rfl, rfl, hk, mx, hst⟩ := hrel
    have MX := Lib.hid mx
    obtain ⟨kx, ox⟩ := hst.out
    have d4 : wr.cell? ⟨K, 4, none⟩ = some (.slice xla xll xlc) := HCS.out wr kx
    by_cases hlk : k < xll
    · obtain ⟨x, hx⟩ : ∃ x, E[k]? = some x := ⟨E[k]'(by rw [HN.out]; exact hlk), by simp⟩
      obtain ⟨b, off, rfl, hr⟩ := (H.out.grown mx).ents k x hx
      have c0 := hr 0 _ rfl
      have c1 := hr 1 _ rfl
      have c2 := hr 2 _ rfl
      have c3 := hr 3 _ rfl
      have c4 := hr 4 _ rfl
      have c5 := hr 5 _ rfl
      have c6 := hr 6 _ rfl
      have c7 := hr 7 _ rfl
      have c8 := hr 8 _ rfl
      have c9 := hr 9 _ rfl
      have c10 := hr 10 _ rfl
      have c11 := hr 11 _ rfl
      have c12 := hr 12 _ rfl
      have c13 := hr 13 _ rfl
      rw [Nat.add_zero] at c0
      have mY : Mine.Mod none_ wr (wr.alloc (.cells x.o.cs.toArray 31)) := (Mine.Mod.refl none_ wr).alloc _
      have kY := Blk.new (w := wr) (cs := x.o.cs) (t := 31)
      obtain ⟨va', vc', w4, hrun, hown, hmod⟩ := app_op (x := ⟨x.o, x.sp⟩) (ownsRow_mod ox mY (fun _ _ e => e)) kY (by omega) (Nat.le_trans mx.size mY.size)
      have mW : Mine.Mod (fun j => (Value.slice va k vc).ownBlock = some j) wr w4 := (mY.mono (fun _ _ e => e.elim)).trans hmod
      have FIN := Lib.hid (show Mine.Mod none_ w w4 ∧ Blk w4 K cs0 26 ∧ w4.ownsRow w.heap.size 31 7 (.slice va' (k + 1) vc') (k + 1) (flat OpS.cs (opsOf (E.take (k + 1)))) from by
        refine ⟨mx.transIn mW (fun j hb e => by have := (ox.lt j e).1; omega), kx.mod mW (fun e => ?_), ?_⟩
        · obtain ⟨cs2, hb2⟩ := ownsRow_type ox e
          have e2 := Option.some.inj (kx.symm.trans hb2)
          injection e2 with _ h2 _
          exact absurd h2 (by decide)
        · rw [ents_snoc hx]; unfold opsOf; rw [List.map_append]
          exact hown)
      dsimp only [EntV.cs, OpV.cs] at hrun
      have HRUN := Lib.hid hrun
      clear mx kx ox hst hx hr hrun hown hmod mW mY kY
      go_wp2_with (at_builtin; refine Lib.wpList_append_run _ rfl (.tmp 12) (.tmp 19) 60 60 rfl _ _ rfl rfl _ _ HRUN.out ?_)
      go_roundg (xll - (k + 1))
      all_goals first
        | omega
        | exact ⟨k + 1, va', vc', rfl, rfl, by go_num, by omega, FIN.out.1, Lib.hid FIN.out.2⟩
    · have hkl : k = xll := by omega
      have HF := Lib.hid (show AllTo w E (.returned (.slice va k vc)) wr from by
        refine ⟨⟨va, k, vc, rfl, ?_⟩, mx⟩
        have := ox
        rwa [List.take_of_length_le (by rw [HN.out]; omega)] at this)
      clear mx kx ox hst
      go_wp2_with fail
      go_ret
      exact HF.out
end Go.Proofs.YtlidmajcdjlcnaaGreatDoor

namespace Go.Proofs.YtlidmajcdjlcnaaGreatDoor
open Go.RowKit Go.Mine
open Classical

/-- The size behind a list; none: one may not be. -/
def runOps : List OpS → Int → Option Int
  | [], n => some n
  | x :: r, n => if opMay x.o x.sp n then runOps r (n + addsOf x.o) else none
abbrev OpS.nm (x : OpS) : Value := .agg #[.int .i64 x.o.site, .int .i64 x.o.seq]
/-- What one step of Run answers. -/
def stepV (x : OpS) (n : Int) : Value := if opMay x.o x.sp n then .tuple #[.int .i64 (n + addsOf x.o), .int .i64 0] else .tuple #[.int .i64 0, .int .i64 1]
theorem stepV_no {x : OpS} {n : Int} (h : opMay x.o x.sp n = false) : stepV x n = .tuple #[.int .i64 0, .int .i64 1] := by unfold stepV; rw [h]; rfl
theorem stepV_yes {x : OpS} {n : Int} (h : opMay x.o x.sp n = true) : stepV x n = .tuple #[.int .i64 (n + addsOf x.o), .int .i64 0] := by unfold stepV; rw [h]; rfl
/-- The size behind a list of operations of names of their own. -/
noncomputable def listRun (l : List OpS) (n : Int) : Option Int := if (l.map OpS.nm).Nodup ∧ inB n 0 20000 = true then runOps l n else none
noncomputable def listV (l : List OpS) (n : Int) : Value := match listRun l n with
  | some m => .tuple #[.int .i64 m, .bool true]
  | none => .tuple #[.int .i64 0, .bool false]
theorem runOps_append : ∀ (a b : List OpS) (n : Int), runOps (a ++ b) n = (runOps a n).bind (runOps b)
  | [], b, n => rfl
  | x :: a, b, n => by
    rw [List.cons_append, runOps, runOps]
    split
    · exact runOps_append a b _
    · rfl
theorem adds_in {o : OpV} {sp : List (Int × Int)} {n : Int} (h : inB n 0 20000 = true) (hm : opMay o sp n = true) : inB (n + addsOf o) 0 20000 = true ∧ 0 ≤ addsOf o ∧ addsOf o ≤ 200 := by
  unfold inB at h
  simp only [decide_eq_true_eq] at h
  unfold addsOf
  by_cases hk : o.kind = 1
  · rw [if_pos hk]
    unfold opMay at hm
    rw [if_pos hk] at hm
    simp only [Bool.and_eq_true] at hm
    have h2 := hm.2
    unfold insOk textOk inB at h2
    simp only [Bool.and_eq_true, decide_eq_true_eq] at h2
    unfold inB
    simp only [decide_eq_true_eq]
    omega
  · rw [if_neg hk]
    unfold inB
    simp only [decide_eq_true_eq]
    omega
theorem runOps_in : ∀ (l : List OpS) (n m : Int), inB n 0 20000 = true → runOps l n = some m → inB m 0 20000 = true
  | [], n, m, h, hr => by cases hr; exact h
  | x :: r, n, m, h, hr => by
    rw [runOps] at hr
    split at hr
    · rename_i hm
      exact runOps_in r _ m (adds_in h hm).1 hr
    · cases hr
theorem same_nm {x : OpS} {s q : Int} : sameNm s q x = true ↔ x.nm = .agg #[.int .i64 s, .int .i64 q] := by
  unfold sameNm
  rw [decide_eq_true_eq]
  constructor
  · rintro ⟨h1, h2⟩
    show Value.agg #[.int .i64 x.o.site, .int .i64 x.o.seq] = _
    rw [h1, h2]
  · intro h
    have h2 : Value.agg #[.int .i64 x.o.site, .int .i64 x.o.seq] = .agg #[.int .i64 s, .int .i64 q] := h
    simpa using h2
theorem any_nm {l : List OpS} {x : OpS} : l.any (sameNm x.o.site x.o.seq) = true ↔ x.nm ∈ l.map OpS.nm := by
  rw [List.any_eq_true, List.mem_map]
  constructor
  · rintro ⟨y, hy, h⟩; exact ⟨y, hy, same_nm.1 h⟩
  · rintro ⟨y, hy, h⟩; exact ⟨y, hy, same_nm.2 h⟩
theorem ops_snoc {l : List OpS} {k : Nat} {x : OpS} (h : l[k]? = some x) : l.take (k + 1) = l.take k ++ [x] := by
  obtain ⟨hk, e⟩ := List.getElem?_eq_some_iff.1 h
  rw [List.take_succ_eq_append_getElem hk, e]
theorem nodup_snoc' {α : Type} {l : List α} {x : α} : (l ++ [x]).Nodup ↔ l.Nodup ∧ x ∉ l := by
  rw [List.nodup_append]
  constructor
  · rintro ⟨h1, _, h3⟩
    exact ⟨h1, fun hx => h3 x hx x (List.mem_singleton.2 rfl) rfl⟩
  · rintro ⟨h1, h2⟩
    exact ⟨h1, by simp, fun a ha b hb e => by rw [List.mem_singleton.1 hb] at e; subst e; exact h2 ha⟩
theorem nodup_take {α : Type} {l : List α} (h : l.Nodup) (k : Nat) : (l.take k).Nodup := h.sublist (List.take_sublist k l)

set_option maxHeartbeats 2000000 in
set_option maxRecDepth 1000000 in
theorem run1_step (w : World) (x : OpS) (n : Int) (h : x.o.ok w x.sp) (hn : inB n 0 20000 = true) :
    Calls Tryz.prog 108 #[.int .i64 n, x.o.v] w fun e w' => e = .returned (stepV x n) ∧ Mine.Mod none_ w w' := by
  obtain ⟨W0, hW0⟩ : ∃ W0, w.alloc (.cells x.o.cs.toArray 31) = W0 := ⟨_, rfl⟩
  obtain ⟨m0, kB⟩ := opBox1 hW0
  obtain ⟨K, hK⟩ : ∃ K, w.heap.size = K := ⟨_, rfl⟩
  rw [hK] at kB
  have M0 := Lib.hid m0
  have K0 := Lib.hid kB
  have HO := Lib.hid (h.grown m0)
  have HNB := Lib.hid hn
  have HM := Lib.hid (may_any x.o n W0 x.sp (h.grown m0) hn)
  have c0 : W0.cell? ⟨K, 0, none⟩ = some (.int .i64 x.o.site) := by rw [kB.cell]; rfl
  have c1 : W0.cell? ⟨K, 1, none⟩ = some (.int .i64 x.o.seq) := by rw [kB.cell]; rfl
  have c2 : W0.cell? ⟨K, 2, none⟩ = some (.int .i64 x.o.num) := by rw [kB.cell]; rfl
  have c3 : W0.cell? ⟨K, 3, none⟩ = some (.int .i64 x.o.kind) := by rw [kB.cell]; rfl
  have c4 : W0.cell? ⟨K, 4, none⟩ = some (.int .i64 x.o.at_) := by rw [kB.cell]; rfl
  have c5 : W0.cell? ⟨K, 5, none⟩ = some (.string x.o.text) := by rw [kB.cell]; rfl
  have c6 : W0.cell? ⟨K, 6, none⟩ = some (.slice x.o.sa x.o.slen x.o.scap) := by rw [kB.cell]; rfl
  clear h m0 kB hn
  go_enter Tryz.func108, Tryz.ntmps108
  go_upto_region 1 with fail
  clear hW0 hK
  go_wp2_with fail
  refine HM.out.mono ?_
  rintro e w1 ⟨rfl, m1⟩
  have M1 := Lib.hid (M0.out.trans m1)
  have K1 := Lib.hid (K0.out.mod m1 (fun e => e))
  have HA := Lib.hid (adds_any x.o w1 x.sp (HO.out.grown m1))
  clear m1 c0 c1 c2 c3 c4 c5 c6 HM
  cases hm : opMay x.o x.sp n
  · have SV := Lib.hid (stepV_no hm)
    clear hm
    go_wp2_with fail
    go_ret2
    exact ⟨by rw [SV.out]; rfl, M1.out⟩
  · have SV := Lib.hid (stepV_yes hm)
    have c0 : w1.cell? ⟨K, 0, none⟩ = some (.int .i64 x.o.site) := by rw [K1.out.cell]; rfl
    have c1 : w1.cell? ⟨K, 1, none⟩ = some (.int .i64 x.o.seq) := by rw [K1.out.cell]; rfl
    have c2 : w1.cell? ⟨K, 2, none⟩ = some (.int .i64 x.o.num) := by rw [K1.out.cell]; rfl
    have c3 : w1.cell? ⟨K, 3, none⟩ = some (.int .i64 x.o.kind) := by rw [K1.out.cell]; rfl
    have c4 : w1.cell? ⟨K, 4, none⟩ = some (.int .i64 x.o.at_) := by rw [K1.out.cell]; rfl
    have c5 : w1.cell? ⟨K, 5, none⟩ = some (.string x.o.text) := by rw [K1.out.cell]; rfl
    have c6 : w1.cell? ⟨K, 6, none⟩ = some (.slice x.o.sa x.o.slen x.o.scap) := by rw [K1.out.cell]; rfl
    obtain ⟨_, ha1, ha2⟩ := adds_in HNB.out hm
    have hn2 := HNB.out
    unfold inB at hn2
    simp only [decide_eq_true_eq] at hn2
    have hw : IntKind.i64.wrap (n + addsOf x.o) = n + addsOf x.o := by rw [IntKind.wrap_i64]; omega
    clear hm
    go_wp2_with fail
    refine HA.out.mono ?_
    rintro e w2 ⟨rfl, m2⟩
    generalize addsOf x.o = ad at hw ha1 ha2 SV ⊢
    have M2 := Lib.hid (M1.out.trans m2)
    clear m2 HA c0 c1 c2 c3 c4 c5 c6
    go_wp2_with fail
    go_ret2
    exact ⟨by rw [SV.out]; rfl, M2.out⟩

set_option maxHeartbeats 4000000 in
set_option maxRecDepth 1000000 in
theorem fold_any (w : World) (a : Option Addr) (len cap : Nat) (l : List OpS) (n0 : Int) (h : IsOps w a len cap l) (hn : inB n0 0 20000 = true) :
    Calls Tryz.prog 107 #[.slice a len cap, .int .i64 n0, .func (.func 108) #[] #[]] w fun e w' => ((∃ m, runOps l n0 = some m ∧ e = .returned (.tuple #[.int .i64 m, .int .i64 0])) ∨ (runOps l n0 = none ∧ ∃ m, e = .returned (.tuple #[.int .i64 m, .int .i64 1]))) ∧ Mine.Mod none_ w w' := by
  have hle := h.le
  have hcap := h.big
  unfold maxLen at hcap
  have H := Lib.hid h
  have HN := Lib.hid h.n
  have HNB := Lib.hid hn
  clear h hn
  go_enter Tryz.func107, Tryz.ntmps107
  go_wp2_with fail
  go_loopg [1, 14] len (fun g s1 s14 wx => ∃ (k : Nat) (n : Int), g = len - k ∧ s1 = .int .i64 n ∧ s14 = .int .i64 k ∧ k ≤ len ∧ Mine.Mod none_ w wx ∧ RowKit.Hid (runOps (l.take k) n0 = some n))
  case atStart => exact ⟨0, n0, rfl, rfl, rfl, Nat.zero_le _, Mine.Mod.refl _ _, Lib.hid rfl⟩
  case round =>
    obtain ⟨k, n, rfl, rfl, rfl, hk, mx, hst⟩ := hrel
    have MX := Lib.hid mx
    by_cases hlk : k < len
    · obtain ⟨x, hx⟩ : ∃ x, l[k]? = some x := ⟨l[k]'(by rw [HN.out]; exact hlk), by simp⟩
      have hnb := runOps_in _ _ _ HNB.out hst.out
      obtain ⟨b, off, rfl, hr⟩ := (H.out.grown mx).ops k x hx
      have c0 := hr 0 _ rfl
      have c1 := hr 1 _ rfl
      have c2 := hr 2 _ rfl
      have c3 := hr 3 _ rfl
      have c4 := hr 4 _ rfl
      have c5 := hr 5 _ rfl
      have c6 := hr 6 _ rfl
      rw [Nat.add_zero] at c0
      have HX := Lib.hid hx
      have hstep := runOps_append (l.take k) [x] n0
      rw [← ops_snoc hx, hst.out] at hstep
      have hst1 : runOps (l.take (k + 1)) n0 = if opMay x.o x.sp n then some (n + addsOf x.o) else none := by rw [hstep]; rfl
      have hrest := runOps_append (l.take (k + 1)) (l.drop (k + 1)) n0
      rw [List.take_append_drop] at hrest
      have hb := hlk
      have hxk : x.o.ok wr x.sp := (H.out.ok x (List.mem_of_getElem? hx)).grown mx
      have HS := Lib.hid (fun (W : World) (m : Mine.Mod none_ wr W) => run1_step W x n (hxk.grown m) hnb)
      clear hr mx hst hx hstep hxk
      cases hm : opMay x.o x.sp n
      · rw [hm] at hst1
        have HE := Lib.hid (show runOps l n0 = none by rw [hrest, hst1]; rfl)
        have HS := Lib.hid (fun (W : World) (m : Mine.Mod none_ wr W) => by
          have := HS.out W m
          rw [stepV_no hm] at this
          exact this)
        simp only [Bool.false_eq_true, if_false] at hst1
        clear hst1 hrest hm
        go_wp2_with (go_at_call 108; refine (HS.out _ ((Mine.Mod.refl none_ wr).alloc _)).mono ?_; rintro e w1 ⟨rfl, m1⟩)
        have M1 := Lib.hid ((MX.out.alloc _).trans m1)
        clear m1 HS
        go_wp2_with fail
        go_ret2
        exact ⟨.inr ⟨HE.out, _, rfl⟩, M1.out⟩
      · rw [hm] at hst1
        simp only [if_true] at hst1
        have HST := Lib.hid hst1
        have HS := Lib.hid (fun (W : World) (m : Mine.Mod none_ wr W) => by
          have := HS.out W m
          rw [stepV_yes hm] at this
          exact this)
        clear hst1 hrest hm
        obtain ⟨n2, hn2⟩ : ∃ n2, n2 = n + addsOf x.o := ⟨_, rfl⟩
        rw [← hn2] at HST HS
        clear hn2
        go_wp2_with (go_at_call 108; refine (HS.out _ ((Mine.Mod.refl none_ wr).alloc _)).mono ?_; rintro e w1 ⟨rfl, m1⟩)
        have M1 := Lib.hid ((MX.out.alloc _).trans m1)
        clear m1 HS
        go_wp2_with fail
        go_roundg (len - (k + 1))
        all_goals first
          | omega
          | exact ⟨k + 1, n2, rfl, rfl, by go_num, by omega, M1.out, HST⟩
    · obtain rfl : k = len := by omega
      have HE := Lib.hid (show runOps l n0 = some n by
        have := hst.out
        rwa [List.take_of_length_le (by rw [HN.out]; omega)] at this)
      clear mx hst
      go_wp2_with fail
      go_ret2
      exact ⟨.inl ⟨n, HE.out, rfl⟩, MX.out⟩

set_option maxHeartbeats 4000000 in
set_option maxRecDepth 1000000 in
theorem listRun_any (w : World) (a : Option Addr) (len cap : Nat) (l : List OpS) (n0 : Int) (h : IsOps w a len cap l) :
    Calls Tryz.prog 83 #[.slice a len cap, .int .i64 n0] w fun e w' => e = .returned (listV l n0) ∧ Mine.Mod none_ w w' := by
  have hle := h.le
  have hcap := h.big
  unfold maxLen at hcap
  have H := Lib.hid h
  have HN := Lib.hid h.n
  obtain ⟨R, hR⟩ : ∃ R, R = listV l n0 := ⟨_, rfl⟩
  rw [← hR]
  have HR := Lib.hid hR
  clear h hR
  go_enter Tryz.func83, Tryz.ntmps83
  go_wp2_with fail
  go_loopg [11] len (fun g s11 wx => ∃ (k : Nat), g = len - k ∧ s11 = .int .i64 k ∧ k ≤ len ∧ Mine.Mod none_ w wx ∧ RowKit.Hid (((l.take k).map OpS.nm).Nodup))
  case atStart => exact ⟨0, rfl, rfl, Nat.zero_le _, Mine.Mod.refl _ _, Lib.hid (by simp)⟩
  case round =>
    obtain ⟨k, rfl, rfl, hk, mx, hst⟩ := hrel
    have MX := Lib.hid mx
    by_cases hlk : k < len
    · obtain ⟨x, hx⟩ : ∃ x, l[k]? = some x := ⟨l[k]'(by rw [HN.out]; exact hlk), by simp⟩
      obtain ⟨b, off, rfl, hr⟩ := (H.out.grown mx).ops k x hx
      have c0 := hr 0 _ rfl
      have c1 := hr 1 _ rfl
      rw [Nat.add_zero] at c0
      have HX := Lib.hid hx
      have HNM := Lib.hid (fun (W : World) (m : Mine.Mod none_ wr W) => named_any W (some ⟨b, off, none⟩) k cap (l.take k) x.o.site x.o.seq (((H.out.grown mx).grown m).take k (by omega)))
      have hsn : ((l.take (k + 1)).map OpS.nm).Nodup ↔ ((l.take k).map OpS.nm).Nodup ∧ x.nm ∉ (l.take k).map OpS.nm := by
        rw [ops_snoc hx, List.map_append]
        exact nodup_snoc'
      have HSN := Lib.hid hsn
      clear hr mx hx hsn
      cases hdup : (l.take k).any (sameNm x.o.site x.o.seq)
      · have HST := Lib.hid (HSN.out.2 ⟨hst.out, fun hm => by rw [any_nm.2 hm] at hdup; cases hdup⟩)
        go_upto_region 4 with fail
        refine wp_region_held_drew (S := fun w' => Mine.Mod none_ wr w' ∧ w'.cell? ⟨b, off + k * 7, none⟩ = some (.int .i64 x.o.site) ∧ w'.cell? ⟨b, off + k * 7 + 1, none⟩ = some (.int .i64 x.o.seq)) (by kernel_rfl) ⟨Mine.Mod.drew (Mine.Mod.refl none_ wr), c0, c1⟩ (fun hS => ?_)
        refine wpAnyH_take (i := 0) (v := .slice (some ⟨b, off, none⟩) len cap) rfl (by kernel_rfl) (by kernel_rfl) (by kernel_rfl) (fun _ _ _ h => h) (Or.inl ⟨by kernel_rfl, ?_⟩) hS ?_
        · rintro w' ⟨_, q0, q1⟩; go_simp
        try simp only [Act.put, List.setIfInBounds_toArray, List.set_cons_zero, List.set_cons_succ]
        refine wpAnyH_take (i := 1) (v := .int .i64 (k : Int)) rfl (by kernel_rfl) (by kernel_rfl) (by kernel_rfl) (fun _ _ _ h => h) (Or.inl ⟨by kernel_rfl, ?_⟩) hS ?_
        · rintro w' ⟨_, q0, q1⟩; go_simp
        try simp only [Act.put, List.setIfInBounds_toArray, List.set_cons_zero, List.set_cons_succ]
        refine wpAnyH_take (i := 2) (v := .slice (some ⟨b, off, none⟩) k cap) rfl (by kernel_rfl) (by kernel_rfl) (by kernel_rfl) (fun _ _ _ h => h) (Or.inl ⟨by kernel_rfl, ?_⟩) hS ?_
        · rintro w' ⟨_, q0, q1⟩; go_simp <;> (intro h; omega)
        try simp only [Act.put, List.setIfInBounds_toArray, List.set_cons_zero, List.set_cons_succ]
        refine wpAnyH_take (i := 3) (v := .slice (some ⟨b, off, none⟩) len cap) rfl (by kernel_rfl) (by kernel_rfl) (by kernel_rfl) (fun _ _ _ h => h) (Or.inl ⟨by kernel_rfl, ?_⟩) hS ?_
        · rintro w' ⟨_, q0, q1⟩; go_simp
        try simp only [Act.put, List.setIfInBounds_toArray, List.set_cons_zero, List.set_cons_succ]
        refine wpAnyH_take (i := 4) (v := .int .i64 (k : Int)) rfl (by kernel_rfl) (by kernel_rfl) (by kernel_rfl) (fun _ _ _ h => h) (Or.inl ⟨by kernel_rfl, ?_⟩) hS ?_
        · rintro w' ⟨_, q0, q1⟩; go_simp
        try simp only [Act.put, List.setIfInBounds_toArray, List.set_cons_zero, List.set_cons_succ]
        refine wpAnyH_take (i := 5) (v := .pointer (some ⟨b, off + k * 7, none⟩)) rfl (by kernel_rfl) (by kernel_rfl) (by kernel_rfl) (fun _ _ _ h => h) (Or.inl ⟨by kernel_rfl, ?_⟩) hS ?_
        · rintro w' ⟨_, q0, q1⟩; go_simp
        try simp only [Act.put, List.setIfInBounds_toArray, List.set_cons_zero, List.set_cons_succ]
        refine wpAnyH_take (i := 6) (v := .pointer (some ⟨b, off + k * 7, none⟩)) rfl (by kernel_rfl) (by kernel_rfl) (by kernel_rfl) (fun _ _ _ h => h) (Or.inl ⟨by kernel_rfl, ?_⟩) hS ?_
        · rintro w' ⟨_, q0, q1⟩; go_simp
        try simp only [Act.put, List.setIfInBounds_toArray, List.set_cons_zero, List.set_cons_succ]
        refine wpAnyH_take (i := 7) (v := .agg #[.int .i64 x.o.site, .int .i64 x.o.seq]) rfl (by kernel_rfl) (by kernel_rfl) (by kernel_rfl) (fun _ _ _ h => h) (Or.inl ⟨by kernel_rfl, ?_⟩) hS ?_
        · rintro w' ⟨_, q0, q1⟩; go_simp
        try simp only [Act.put, List.setIfInBounds_toArray, List.set_cons_zero, List.set_cons_succ]
        refine wpAnyH_ready (rs := [8]) (by kernel_rfl) (by simp) (AllReadyH.cons rfl (fun K2 hK2 => ?_) <| AllReadyH.nil)
        go_simp
        refine (HNM.out _ hS.1).mono ?_
        rintro e w1 ⟨rfl, m1⟩
        rw [hdup]
        refine hK2.out _ _ ⟨hS.1.trans m1, m1.cell (fun e => e) hS.2.1, m1.cell (fun e => e) hS.2.2⟩ (fun hS => ?_)
        clear hK2 K2 m1
        try simp only [Act.put, List.setIfInBounds_toArray, List.set_cons_zero, List.set_cons_succ]
        refine wpAnyH_done (by kernel_rfl) ?_ _
        try simp only [List.getElem_toArray, List.getElem_cons_succ, List.getElem_cons_zero]
        try simp only [Act.put, List.setIfInBounds_toArray, List.set_cons_zero, List.set_cons_succ]
        have MF := Lib.hid (MX.out.trans hS.1)
        clear hS c0 c1 hst hdup HNM
        go_wp2_with fail
        go_roundg (len - (k + 1))
        all_goals first
          | omega
          | exact ⟨k + 1, rfl, by go_num, by omega, MF.out, HST⟩
      · have HE := Lib.hid (show R = .tuple #[.int .i64 0, .bool false] by
          rw [HR.out]
          unfold listV listRun
          rw [if_neg]
          rintro ⟨hnd, _⟩
          have h2 : ((l.take (k + 1)).map OpS.nm).Nodup := by
            rw [List.map_take]
            exact nodup_take hnd _
          exact (HSN.out.1 h2).2 (any_nm.1 hdup))
        go_upto_region 4 with fail
        refine wp_region_held_drew (S := fun w' => Mine.Mod none_ wr w' ∧ w'.cell? ⟨b, off + k * 7, none⟩ = some (.int .i64 x.o.site) ∧ w'.cell? ⟨b, off + k * 7 + 1, none⟩ = some (.int .i64 x.o.seq)) (by kernel_rfl) ⟨Mine.Mod.drew (Mine.Mod.refl none_ wr), c0, c1⟩ (fun hS => ?_)
        refine wpAnyH_take (i := 0) (v := .slice (some ⟨b, off, none⟩) len cap) rfl (by kernel_rfl) (by kernel_rfl) (by kernel_rfl) (fun _ _ _ h => h) (Or.inl ⟨by kernel_rfl, ?_⟩) hS ?_
        · rintro w' ⟨_, q0, q1⟩; go_simp
        try simp only [Act.put, List.setIfInBounds_toArray, List.set_cons_zero, List.set_cons_succ]
        refine wpAnyH_take (i := 1) (v := .int .i64 (k : Int)) rfl (by kernel_rfl) (by kernel_rfl) (by kernel_rfl) (fun _ _ _ h => h) (Or.inl ⟨by kernel_rfl, ?_⟩) hS ?_
        · rintro w' ⟨_, q0, q1⟩; go_simp
        try simp only [Act.put, List.setIfInBounds_toArray, List.set_cons_zero, List.set_cons_succ]
        refine wpAnyH_take (i := 2) (v := .slice (some ⟨b, off, none⟩) k cap) rfl (by kernel_rfl) (by kernel_rfl) (by kernel_rfl) (fun _ _ _ h => h) (Or.inl ⟨by kernel_rfl, ?_⟩) hS ?_
        · rintro w' ⟨_, q0, q1⟩; go_simp <;> (intro h; omega)
        try simp only [Act.put, List.setIfInBounds_toArray, List.set_cons_zero, List.set_cons_succ]
        refine wpAnyH_take (i := 3) (v := .slice (some ⟨b, off, none⟩) len cap) rfl (by kernel_rfl) (by kernel_rfl) (by kernel_rfl) (fun _ _ _ h => h) (Or.inl ⟨by kernel_rfl, ?_⟩) hS ?_
        · rintro w' ⟨_, q0, q1⟩; go_simp
        try simp only [Act.put, List.setIfInBounds_toArray, List.set_cons_zero, List.set_cons_succ]
        refine wpAnyH_take (i := 4) (v := .int .i64 (k : Int)) rfl (by kernel_rfl) (by kernel_rfl) (by kernel_rfl) (fun _ _ _ h => h) (Or.inl ⟨by kernel_rfl, ?_⟩) hS ?_
        · rintro w' ⟨_, q0, q1⟩; go_simp
        try simp only [Act.put, List.setIfInBounds_toArray, List.set_cons_zero, List.set_cons_succ]
        refine wpAnyH_take (i := 5) (v := .pointer (some ⟨b, off + k * 7, none⟩)) rfl (by kernel_rfl) (by kernel_rfl) (by kernel_rfl) (fun _ _ _ h => h) (Or.inl ⟨by kernel_rfl, ?_⟩) hS ?_
        · rintro w' ⟨_, q0, q1⟩; go_simp
        try simp only [Act.put, List.setIfInBounds_toArray, List.set_cons_zero, List.set_cons_succ]
        refine wpAnyH_take (i := 6) (v := .pointer (some ⟨b, off + k * 7, none⟩)) rfl (by kernel_rfl) (by kernel_rfl) (by kernel_rfl) (fun _ _ _ h => h) (Or.inl ⟨by kernel_rfl, ?_⟩) hS ?_
        · rintro w' ⟨_, q0, q1⟩; go_simp
        try simp only [Act.put, List.setIfInBounds_toArray, List.set_cons_zero, List.set_cons_succ]
        refine wpAnyH_take (i := 7) (v := .agg #[.int .i64 x.o.site, .int .i64 x.o.seq]) rfl (by kernel_rfl) (by kernel_rfl) (by kernel_rfl) (fun _ _ _ h => h) (Or.inl ⟨by kernel_rfl, ?_⟩) hS ?_
        · rintro w' ⟨_, q0, q1⟩; go_simp
        try simp only [Act.put, List.setIfInBounds_toArray, List.set_cons_zero, List.set_cons_succ]
        refine wpAnyH_ready (rs := [8]) (by kernel_rfl) (by simp) (AllReadyH.cons rfl (fun K2 hK2 => ?_) <| AllReadyH.nil)
        go_simp
        refine (HNM.out _ hS.1).mono ?_
        rintro e w1 ⟨rfl, m1⟩
        rw [hdup]
        refine hK2.out _ _ ⟨hS.1.trans m1, m1.cell (fun e => e) hS.2.1, m1.cell (fun e => e) hS.2.2⟩ (fun hS => ?_)
        clear hK2 K2 m1
        try simp only [Act.put, List.setIfInBounds_toArray, List.set_cons_zero, List.set_cons_succ]
        refine wpAnyH_done (by kernel_rfl) ?_ _
        try simp only [List.getElem_toArray, List.getElem_cons_succ, List.getElem_cons_zero]
        try simp only [Act.put, List.setIfInBounds_toArray, List.set_cons_zero, List.set_cons_succ]
        have MF := Lib.hid (MX.out.trans hS.1)
        clear hS c0 c1 hst hdup HNM
        go_wp2_with fail
        go_ret2
        exact ⟨by rw [HE.out]; rfl, MF.out⟩
    · obtain rfl : k = len := by omega
      have HND := Lib.hid (show (l.map OpS.nm).Nodup by
        have := hst.out
        rwa [List.take_of_length_le (by rw [HN.out]; omega)] at this)
      clear hst
      by_cases h1 : n0 < 0
      · have HE := Lib.hid (show R = .tuple #[.int .i64 0, .bool false] by
          rw [HR.out]
          unfold listV listRun
          rw [if_neg]
          rintro ⟨_, hb⟩
          unfold inB at hb
          simp only [decide_eq_true_eq] at hb
          omega)
        have d1 : decide (n0 < 0) = true := by simpa using h1
        clear mx
        go_wp2_with fail
        go_ret2
        exact ⟨by rw [HE.out]; rfl, MX.out⟩
      have d1 : decide (n0 < 0) = false := by simpa using h1
      by_cases h2 : 20000 < n0
      · have HE := Lib.hid (show R = .tuple #[.int .i64 0, .bool false] by
          rw [HR.out]
          unfold listV listRun
          rw [if_neg]
          rintro ⟨_, hb⟩
          unfold inB at hb
          simp only [decide_eq_true_eq] at hb
          omega)
        have d2 : decide (20000 < n0) = true := by simpa using h2
        clear mx
        go_wp2_with fail
        go_ret2
        exact ⟨by rw [HE.out]; rfl, MX.out⟩
      have d2 : decide (20000 < n0) = false := by simpa using h2
      have hnb : inB n0 0 20000 = true := by unfold inB; simp; omega
      have HR2 := Lib.hid (show listRun l n0 = runOps l n0 by unfold listRun; rw [if_pos ⟨HND.out, hnb⟩])
      have HF := Lib.hid (fold_any wr a k cap l n0 (H.out.grown mx) hnb)
      clear mx hnb
      go_wp2_with fail
      refine HF.out.mono ?_
      rintro e w1 ⟨⟨m, hm, rfl⟩ | ⟨hm, m, rfl⟩, m1⟩
      · have HE := Lib.hid (show R = .tuple #[.int .i64 m, .bool true] by rw [HR.out]; unfold listV; rw [HR2.out, hm])
        have M1 := Lib.hid (MX.out.trans m1)
        clear hm m1 HF
        go_wp2_with fail
        go_ret2
        exact ⟨by rw [HE.out]; rfl, M1.out⟩
      · have HE := Lib.hid (show R = .tuple #[.int .i64 0, .bool false] by rw [HR.out]; unfold listV; rw [HR2.out, hm])
        have M1 := Lib.hid (MX.out.trans m1)
        clear hm m1 HF
        go_wp2_with fail
        go_ret2
        exact ⟨by rw [HE.out]; rfl, M1.out⟩
end Go.Proofs.YtlidmajcdjlcnaaGreatDoor

namespace Go.Proofs.YtlidmajcdjlcnaaGreatDoor
open Go.RowKit Go.Mine
open Classical

set_option maxHeartbeats 2000000 in
set_option maxRecDepth 1000000 in
theorem radds_any (o : OpV) (w : World) (h : o.kind = 1 → o.text.size ≤ 1099511627776) :
    Calls Tryz.prog 72 #[o.v] w fun e w' => e = .returned (.int .i64 (addsOf o)) ∧ Mine.Mod none_ w w' := by
  obtain ⟨W0, hW0⟩ : ∃ W0, w.alloc (.cells o.cs.toArray 31) = W0 := ⟨_, rfl⟩
  obtain ⟨m0, kB⟩ := opBox1 hW0
  obtain ⟨K, hK⟩ : ∃ K, w.heap.size = K := ⟨_, rfl⟩
  rw [hK] at kB
  have M0 := Lib.hid m0
  have K0 := Lib.hid kB
  have c2 : W0.cell? ⟨K, 3, none⟩ = some (.int .i64 o.kind) := by rw [kB.cell]; rfl
  have c5 : W0.cell? ⟨K, 5, none⟩ = some (.string o.text) := by rw [kB.cell]; rfl
  have HS := Lib.hid h
  clear m0 kB h
  go_enter Tryz.func72, Tryz.ntmps72
  go_upto_region 1 with fail
  clear hW0 hK
  by_cases hk : o.kind = 1
  · have HL := Lib.hid (fun (W : World) => rlen_any o.text W (HS.out hk))
    have HA := Lib.hid (show addsOf o = max 0 (ulen o.text) by unfold addsOf; rw [if_pos hk])
    obtain ⟨n, hn⟩ : ∃ n, n = ulen o.text := ⟨_, rfl⟩
    have hnb : -1 ≤ n := by
      rw [hn]
      unfold ulen
      split <;> omega
    rw [← hn] at HL HA
    rw [hk] at c2
    clear hk HS hn
    go_wp2_with fail
    refine (HL.out W0).mono ?_
    rintro e w1 ⟨rfl, m1⟩
    have M1 := Lib.hid (M0.out.trans m1)
    have d5 : w1.cell? ⟨K, 5, none⟩ = some (.string o.text) := by rw [(K0.out.mod m1 (fun e => e)).cell]; rfl
    clear m1
    by_cases h0 : n < 0
    · have HE := Lib.hid (show addsOf o = 0 by rw [HA.out]; omega)
      have d0 : decide (n < 0) = true := by simpa using h0
      go_wp2_with fail
      go_ret
      exact ⟨by rw [HE.out]; rfl, M1.out⟩
    · have HE := Lib.hid (show addsOf o = n by rw [HA.out]; omega)
      have d0 : decide (n < 0) = false := by simpa using h0
      go_wp2_with fail
      refine (HL.out w1).mono ?_
      rintro e w2 ⟨rfl, m2⟩
      have M2 := Lib.hid (M1.out.trans m2)
      clear m2
      go_wp2_with fail
      go_ret
      exact ⟨by rw [HE.out]; rfl, M2.out⟩
  · have HE := Lib.hid (show addsOf o = 0 by unfold addsOf; rw [if_neg hk])
    have hb : (o.kind == 1) = false := by simpa using hk
    go_wp2_with fail
    go_ret
    exact ⟨by rw [HE.out]; rfl, M0.out⟩

set_option maxHeartbeats 8000000 in
set_option maxRecDepth 1000000 in
theorem rlistRun_any (w : World) (a : Option Addr) (len cap : Nat) (l : List OpS) (n0 : Int) (h : IsOps w a len cap l) :
    Calls Tryz.prog 43 #[.slice a len cap, .int .i64 n0] w fun e w' => e = .returned (listV l n0) ∧ Mine.Mod none_ w w' := by
  have hle := h.le
  have hcap := h.big
  unfold maxLen at hcap
  have H := Lib.hid h
  have HN := Lib.hid h.n
  obtain ⟨R, hR⟩ : ∃ R, R = listV l n0 := ⟨_, rfl⟩
  rw [← hR]
  have HR := Lib.hid hR
  have HBAD := Lib.hid (show listRun l n0 = none → R = .tuple #[.int .i64 0, .bool false] from fun hb => by rw [hR]; unfold listV; rw [hb])
  clear h hR
  go_enter Tryz.func43, Tryz.ntmps43
  by_cases h1 : n0 < 0
  · have HE := Lib.hid (HBAD.out (by
      unfold listRun
      rw [if_neg]
      rintro ⟨_, hb⟩
      unfold inB at hb
      simp only [decide_eq_true_eq] at hb
      omega))
    have d1 : decide (n0 < 0) = true := by simpa using h1
    go_wp2_with fail
    go_ret2
    exact ⟨by rw [HE.out]; rfl, Mine.Mod.refl _ _⟩
  have d1 : decide (n0 < 0) = false := by simpa using h1
  by_cases h2 : 20000 < n0
  · have HE := Lib.hid (HBAD.out (by
      unfold listRun
      rw [if_neg]
      rintro ⟨_, hb⟩
      unfold inB at hb
      simp only [decide_eq_true_eq] at hb
      omega))
    have d2 : decide (20000 < n0) = true := by simpa using h2
    go_wp2_with fail
    go_ret2
    exact ⟨by rw [HE.out]; rfl, Mine.Mod.refl _ _⟩
  have d2 : decide (20000 < n0) = false := by simpa using h2
  have HNB := Lib.hid (show inB n0 0 20000 = true by unfold inB; simp; omega)
  go_wp2_with fail
  go_loopg [1, 6] len (fun g s1 s6 wx => ∃ (k : Nat) (n : Int), g = len - k ∧ s1 = .int .i64 n ∧ s6 = .int .i64 k ∧ k ≤ len ∧ Mine.Mod none_ w wx ∧ RowKit.Hid (runOps (l.take k) n0 = some n ∧ ((l.take k).map OpS.nm).Nodup))
  case atStart => exact ⟨0, n0, rfl, rfl, rfl, Nat.zero_le _, Mine.Mod.refl _ _, Lib.hid ⟨rfl, by simp⟩⟩
  case round =>
    obtain ⟨k, n, rfl, rfl, rfl, hk, mx, hst⟩ := hrel
    have MX := Lib.hid mx
    by_cases hlk : k < len
    · obtain ⟨x, hx⟩ : ∃ x, l[k]? = some x := ⟨l[k]'(by rw [HN.out]; exact hlk), by simp⟩
      have hnb := runOps_in _ _ _ HNB.out hst.out.1
      obtain ⟨b, off, rfl, hr⟩ := (H.out.grown mx).ops k x hx
      have c0 := hr 0 _ rfl
      have c1 := hr 1 _ rfl
      have c2 := hr 2 _ rfl
      have c3 := hr 3 _ rfl
      have c4 := hr 4 _ rfl
      have c5 := hr 5 _ rfl
      have c6 := hr 6 _ rfl
      rw [Nat.add_zero] at c0
      have hxk : x.o.ok wr x.sp := (H.out.ok x (List.mem_of_getElem? hx)).grown mx
      have HXK := Lib.hid hxk
      have hstep := runOps_append (l.take k) [x] n0
      rw [← ops_snoc hx, hst.out.1] at hstep
      have hst1 : runOps (l.take (k + 1)) n0 = if opMay x.o x.sp n then some (n + addsOf x.o) else none := by rw [hstep]; rfl
      have hrest := runOps_append (l.take (k + 1)) (l.drop (k + 1)) n0
      rw [List.take_append_drop] at hrest
      have HST1 := Lib.hid hst1
      have HRE := Lib.hid hrest
      have hsn : ((l.take (k + 1)).map OpS.nm).Nodup ↔ ((l.take k).map OpS.nm).Nodup ∧ x.nm ∉ (l.take k).map OpS.nm := by
        rw [ops_snoc hx, List.map_append]
        exact nodup_snoc'
      have HSN := Lib.hid hsn
      have HNM := Lib.hid (fun (W : World) (m : Mine.Mod none_ wr W) => rnamed_any W (some ⟨b, off, none⟩) k cap (l.take k) x.o.site x.o.seq (((H.out.grown mx).grown m).take k (by omega)))
      have HMY := Lib.hid (fun (W : World) (m : Mine.Mod none_ wr W) => by
        have := rmayOp_any x.o n W x.sp (hxk.grown m) (by unfold inB at hnb; simp only [decide_eq_true_eq] at hnb; omega)
        rw [hnb, Bool.true_and] at this
        exact this)
      have HNBX := Lib.hid hnb
      clear hr mx hx hsn hst1 hrest hstep hxk hnb
      cases hdup : (l.take k).any (sameNm x.o.site x.o.seq)
      · cases hm : opMay x.o x.sp n
        · have HE := Lib.hid (HBAD.out (by
            unfold listRun
            have h3 : runOps l n0 = none := by rw [HRE.out, HST1.out, hm]; rfl
            rw [h3]
            split <;> rfl))
          go_upto_region 6 with fail
          refine wp_region_held_drew (S := fun w' => Mine.Mod none_ wr w' ∧ w'.cell? ⟨b, off + k * 7, none⟩ = some (.int .i64 x.o.site) ∧ w'.cell? ⟨b, off + k * 7 + 1, none⟩ = some (.int .i64 x.o.seq) ∧ w'.cell? ⟨b, off + k * 7 + 2, none⟩ = some (.int .i64 x.o.num) ∧ w'.cell? ⟨b, off + k * 7 + 3, none⟩ = some (.int .i64 x.o.kind) ∧ w'.cell? ⟨b, off + k * 7 + 4, none⟩ = some (.int .i64 x.o.at_) ∧ w'.cell? ⟨b, off + k * 7 + 5, none⟩ = some (.string x.o.text) ∧ w'.cell? ⟨b, off + k * 7 + 6, none⟩ = some (.slice x.o.sa x.o.slen x.o.scap)) (by kernel_rfl) ⟨Mine.Mod.drew (Mine.Mod.refl none_ wr), c0, c1, c2, c3, c4, c5, c6⟩ (fun hS => ?_)
          refine wpAnyH_take (i := 0) (v := .slice (some ⟨b, off, none⟩) len cap) rfl (by kernel_rfl) (by kernel_rfl) (by kernel_rfl) (fun _ _ _ h => h) (Or.inl ⟨by kernel_rfl, ?_⟩) hS ?_
          · rintro w' ⟨_, q0, q1, q2, q3, q4, q5, q6⟩; go_simp
          try simp only [Act.put, List.setIfInBounds_toArray, List.set_cons_zero, List.set_cons_succ]
          refine wpAnyH_take (i := 1) (v := .int .i64 (k : Int)) rfl (by kernel_rfl) (by kernel_rfl) (by kernel_rfl) (fun _ _ _ h => h) (Or.inl ⟨by kernel_rfl, ?_⟩) hS ?_
          · rintro w' ⟨_, q0, q1, q2, q3, q4, q5, q6⟩; go_simp
          try simp only [Act.put, List.setIfInBounds_toArray, List.set_cons_zero, List.set_cons_succ]
          refine wpAnyH_take (i := 2) (v := .slice (some ⟨b, off, none⟩) k cap) rfl (by kernel_rfl) (by kernel_rfl) (by kernel_rfl) (fun _ _ _ h => h) (Or.inl ⟨by kernel_rfl, ?_⟩) hS ?_
          · rintro w' ⟨_, q0, q1, q2, q3, q4, q5, q6⟩; go_simp <;> (intro h; omega)
          try simp only [Act.put, List.setIfInBounds_toArray, List.set_cons_zero, List.set_cons_succ]
          refine wpAnyH_take (i := 3) (v := .slice (some ⟨b, off, none⟩) len cap) rfl (by kernel_rfl) (by kernel_rfl) (by kernel_rfl) (fun _ _ _ h => h) (Or.inl ⟨by kernel_rfl, ?_⟩) hS ?_
          · rintro w' ⟨_, q0, q1, q2, q3, q4, q5, q6⟩; go_simp
          try simp only [Act.put, List.setIfInBounds_toArray, List.set_cons_zero, List.set_cons_succ]
          refine wpAnyH_take (i := 4) (v := .int .i64 (k : Int)) rfl (by kernel_rfl) (by kernel_rfl) (by kernel_rfl) (fun _ _ _ h => h) (Or.inl ⟨by kernel_rfl, ?_⟩) hS ?_
          · rintro w' ⟨_, q0, q1, q2, q3, q4, q5, q6⟩; go_simp
          try simp only [Act.put, List.setIfInBounds_toArray, List.set_cons_zero, List.set_cons_succ]
          refine wpAnyH_take (i := 5) (v := .pointer (some ⟨b, off + k * 7, none⟩)) rfl (by kernel_rfl) (by kernel_rfl) (by kernel_rfl) (fun _ _ _ h => h) (Or.inl ⟨by kernel_rfl, ?_⟩) hS ?_
          · rintro w' ⟨_, q0, q1, q2, q3, q4, q5, q6⟩; go_simp
          try simp only [Act.put, List.setIfInBounds_toArray, List.set_cons_zero, List.set_cons_succ]
          refine wpAnyH_take (i := 6) (v := .pointer (some ⟨b, off + k * 7, none⟩)) rfl (by kernel_rfl) (by kernel_rfl) (by kernel_rfl) (fun _ _ _ h => h) (Or.inl ⟨by kernel_rfl, ?_⟩) hS ?_
          · rintro w' ⟨_, q0, q1, q2, q3, q4, q5, q6⟩; go_simp
          try simp only [Act.put, List.setIfInBounds_toArray, List.set_cons_zero, List.set_cons_succ]
          refine wpAnyH_take (i := 7) (v := .agg #[.int .i64 x.o.site, .int .i64 x.o.seq]) rfl (by kernel_rfl) (by kernel_rfl) (by kernel_rfl) (fun _ _ _ h => h) (Or.inl ⟨by kernel_rfl, ?_⟩) hS ?_
          · rintro w' ⟨_, q0, q1, q2, q3, q4, q5, q6⟩; go_simp
          try simp only [Act.put, List.setIfInBounds_toArray, List.set_cons_zero, List.set_cons_succ]
          refine wpAnyH_ready (rs := [8]) (by kernel_rfl) (by simp) (AllReadyH.cons rfl (fun K2 hK2 => ?_) <| AllReadyH.nil)
          go_simp
          refine (HNM.out _ hS.1).mono ?_
          rintro e w1 ⟨rfl, m1⟩
          rw [hdup]
          refine hK2.out _ _ ⟨hS.1.trans m1, m1.cell (fun e => e) hS.2.1, m1.cell (fun e => e) hS.2.2.1, m1.cell (fun e => e) hS.2.2.2.1, m1.cell (fun e => e) hS.2.2.2.2.1, m1.cell (fun e => e) hS.2.2.2.2.2.1, m1.cell (fun e => e) hS.2.2.2.2.2.2.1, m1.cell (fun e => e) hS.2.2.2.2.2.2.2⟩ (fun hS => ?_)
          clear hK2 K2 m1
          try simp only [Act.put, List.setIfInBounds_toArray, List.set_cons_zero, List.set_cons_succ]
          refine wpAnyH_take (i := 9) (v := .bool false) rfl (by kernel_rfl) (by kernel_rfl) (by kernel_rfl) (fun _ _ _ h => h) (Or.inl ⟨by kernel_rfl, ?_⟩) hS ?_
          · rintro w' ⟨_, q0, q1, q2, q3, q4, q5, q6⟩; go_simp
          try simp only [Act.put, List.setIfInBounds_toArray, List.set_cons_zero, List.set_cons_succ]
          refine wpAnyH_take (i := 10) (v := .slice (some ⟨b, off, none⟩) len cap) rfl (by kernel_rfl) (by kernel_rfl) (by kernel_rfl) (fun _ _ _ h => h) (Or.inl ⟨by kernel_rfl, ?_⟩) hS ?_
          · rintro w' ⟨_, q0, q1, q2, q3, q4, q5, q6⟩; go_simp
          try simp only [Act.put, List.setIfInBounds_toArray, List.set_cons_zero, List.set_cons_succ]
          refine wpAnyH_take (i := 11) (v := .int .i64 (k : Int)) rfl (by kernel_rfl) (by kernel_rfl) (by kernel_rfl) (fun _ _ _ h => h) (Or.inl ⟨by kernel_rfl, ?_⟩) hS ?_
          · rintro w' ⟨_, q0, q1, q2, q3, q4, q5, q6⟩; go_simp
          try simp only [Act.put, List.setIfInBounds_toArray, List.set_cons_zero, List.set_cons_succ]
          refine wpAnyH_take (i := 12) (v := .pointer (some ⟨b, off + k * 7, none⟩)) rfl (by kernel_rfl) (by kernel_rfl) (by kernel_rfl) (fun _ _ _ h => h) (Or.inl ⟨by kernel_rfl, ?_⟩) hS ?_
          · rintro w' ⟨_, q0, q1, q2, q3, q4, q5, q6⟩; go_simp
          try simp only [Act.put, List.setIfInBounds_toArray, List.set_cons_zero, List.set_cons_succ]
          refine wpAnyH_take (i := 13) (v := x.o.v) rfl (by kernel_rfl) (by kernel_rfl) (by kernel_rfl) (fun _ _ _ h => h) (Or.inl ⟨by kernel_rfl, ?_⟩) hS ?_
          · rintro w' ⟨_, q0, q1, q2, q3, q4, q5, q6⟩; go_simp
          try simp only [Act.put, List.setIfInBounds_toArray, List.set_cons_zero, List.set_cons_succ]
          refine wpAnyH_take (i := 14) (v := .int .i64 n) rfl (by kernel_rfl) (by kernel_rfl) (by kernel_rfl) (fun _ _ _ h => h) (Or.inl ⟨by kernel_rfl, ?_⟩) hS ?_
          · rintro w' ⟨_, q0, q1, q2, q3, q4, q5, q6⟩; go_simp
          try simp only [Act.put, List.setIfInBounds_toArray, List.set_cons_zero, List.set_cons_succ]
          refine wpAnyH_ready (rs := [15]) (by kernel_rfl) (by simp) (AllReadyH.cons rfl (fun K2 hK2 => ?_) <| AllReadyH.nil)
          rw [if_pos (by kernel_rfl)]
          go_simp
          refine (HMY.out _ hS.1).mono ?_
          rintro e w1 ⟨rfl, m1⟩
          rw [hm]
          refine hK2.out _ _ ⟨hS.1.trans m1, m1.cell (fun e => e) hS.2.1, m1.cell (fun e => e) hS.2.2.1, m1.cell (fun e => e) hS.2.2.2.1, m1.cell (fun e => e) hS.2.2.2.2.1, m1.cell (fun e => e) hS.2.2.2.2.2.1, m1.cell (fun e => e) hS.2.2.2.2.2.2.1, m1.cell (fun e => e) hS.2.2.2.2.2.2.2⟩ (fun hS => ?_)
          clear hK2 K2 m1
          try simp only [Act.put, List.setIfInBounds_toArray, List.set_cons_zero, List.set_cons_succ]
          refine wpAnyH_take (i := 16) (v := .bool true) rfl (by kernel_rfl) (by kernel_rfl) (by kernel_rfl) (fun _ _ _ h => h) (Or.inl ⟨by kernel_rfl, ?_⟩) hS ?_
          · rintro w' ⟨_, q0, q1, q2, q3, q4, q5, q6⟩; go_simp
          try simp only [Act.put, List.setIfInBounds_toArray, List.set_cons_zero, List.set_cons_succ]
          refine wpAnyH_take (i := 17) (v := .bool true) rfl (by kernel_rfl) (by kernel_rfl) (by kernel_rfl) (fun _ _ _ h => h) (Or.inl ⟨by kernel_rfl, ?_⟩) hS ?_
          · rintro w' ⟨_, q0, q1, q2, q3, q4, q5, q6⟩; go_simp
          try simp only [Act.put, List.setIfInBounds_toArray, List.set_cons_zero, List.set_cons_succ]
          refine wpAnyH_done (by kernel_rfl) ?_ _
          try simp only [List.getElem_toArray, List.getElem_cons_succ, List.getElem_cons_zero]
          try simp only [Act.put, List.setIfInBounds_toArray, List.set_cons_zero, List.set_cons_succ]
          have MF := Lib.hid (MX.out.trans hS.1)
          clear hS c0 c1 c2 c3 c4 c5 c6 hst hdup HNM HMY
          go_wp2_with fail
          go_ret2
          exact ⟨by rw [HE.out]; rfl, MF.out⟩
        · obtain ⟨_, ha1, ha2⟩ := adds_in HNBX.out hm
          have hn2 := HNBX.out
          unfold inB at hn2
          simp only [decide_eq_true_eq] at hn2
          have hw : IntKind.i64.wrap (n + addsOf x.o) = n + addsOf x.o := by rw [IntKind.wrap_i64]; omega
          have HAD := Lib.hid (fun (W : World) => radds_any x.o W (fun hk1 => by
            unfold opMay at hm
            rw [if_pos hk1] at hm
            simp only [Bool.and_eq_true] at hm
            have h4 := hm.2
            unfold insOk textOk at h4
            simp only [Bool.and_eq_true, decide_eq_true_eq] at h4
            omega))
          have HST := Lib.hid (show runOps (l.take (k + 1)) n0 = some (n + addsOf x.o) ∧ ((l.take (k + 1)).map OpS.nm).Nodup from ⟨by rw [HST1.out, hm]; rfl, HSN.out.2 ⟨hst.out.2, fun hmm => by rw [any_nm.2 hmm] at hdup; cases hdup⟩⟩)
          obtain ⟨ad, had⟩ : ∃ ad, ad = addsOf x.o := ⟨_, rfl⟩
          rw [← had] at hw ha1 ha2 HAD HST
          clear had
          go_upto_region 6 with fail
          refine wp_region_held_drew (S := fun w' => Mine.Mod none_ wr w' ∧ w'.cell? ⟨b, off + k * 7, none⟩ = some (.int .i64 x.o.site) ∧ w'.cell? ⟨b, off + k * 7 + 1, none⟩ = some (.int .i64 x.o.seq) ∧ w'.cell? ⟨b, off + k * 7 + 2, none⟩ = some (.int .i64 x.o.num) ∧ w'.cell? ⟨b, off + k * 7 + 3, none⟩ = some (.int .i64 x.o.kind) ∧ w'.cell? ⟨b, off + k * 7 + 4, none⟩ = some (.int .i64 x.o.at_) ∧ w'.cell? ⟨b, off + k * 7 + 5, none⟩ = some (.string x.o.text) ∧ w'.cell? ⟨b, off + k * 7 + 6, none⟩ = some (.slice x.o.sa x.o.slen x.o.scap)) (by kernel_rfl) ⟨Mine.Mod.drew (Mine.Mod.refl none_ wr), c0, c1, c2, c3, c4, c5, c6⟩ (fun hS => ?_)
          refine wpAnyH_take (i := 0) (v := .slice (some ⟨b, off, none⟩) len cap) rfl (by kernel_rfl) (by kernel_rfl) (by kernel_rfl) (fun _ _ _ h => h) (Or.inl ⟨by kernel_rfl, ?_⟩) hS ?_
          · rintro w' ⟨_, q0, q1, q2, q3, q4, q5, q6⟩; go_simp
          try simp only [Act.put, List.setIfInBounds_toArray, List.set_cons_zero, List.set_cons_succ]
          refine wpAnyH_take (i := 1) (v := .int .i64 (k : Int)) rfl (by kernel_rfl) (by kernel_rfl) (by kernel_rfl) (fun _ _ _ h => h) (Or.inl ⟨by kernel_rfl, ?_⟩) hS ?_
          · rintro w' ⟨_, q0, q1, q2, q3, q4, q5, q6⟩; go_simp
          try simp only [Act.put, List.setIfInBounds_toArray, List.set_cons_zero, List.set_cons_succ]
          refine wpAnyH_take (i := 2) (v := .slice (some ⟨b, off, none⟩) k cap) rfl (by kernel_rfl) (by kernel_rfl) (by kernel_rfl) (fun _ _ _ h => h) (Or.inl ⟨by kernel_rfl, ?_⟩) hS ?_
          · rintro w' ⟨_, q0, q1, q2, q3, q4, q5, q6⟩; go_simp <;> (intro h; omega)
          try simp only [Act.put, List.setIfInBounds_toArray, List.set_cons_zero, List.set_cons_succ]
          refine wpAnyH_take (i := 3) (v := .slice (some ⟨b, off, none⟩) len cap) rfl (by kernel_rfl) (by kernel_rfl) (by kernel_rfl) (fun _ _ _ h => h) (Or.inl ⟨by kernel_rfl, ?_⟩) hS ?_
          · rintro w' ⟨_, q0, q1, q2, q3, q4, q5, q6⟩; go_simp
          try simp only [Act.put, List.setIfInBounds_toArray, List.set_cons_zero, List.set_cons_succ]
          refine wpAnyH_take (i := 4) (v := .int .i64 (k : Int)) rfl (by kernel_rfl) (by kernel_rfl) (by kernel_rfl) (fun _ _ _ h => h) (Or.inl ⟨by kernel_rfl, ?_⟩) hS ?_
          · rintro w' ⟨_, q0, q1, q2, q3, q4, q5, q6⟩; go_simp
          try simp only [Act.put, List.setIfInBounds_toArray, List.set_cons_zero, List.set_cons_succ]
          refine wpAnyH_take (i := 5) (v := .pointer (some ⟨b, off + k * 7, none⟩)) rfl (by kernel_rfl) (by kernel_rfl) (by kernel_rfl) (fun _ _ _ h => h) (Or.inl ⟨by kernel_rfl, ?_⟩) hS ?_
          · rintro w' ⟨_, q0, q1, q2, q3, q4, q5, q6⟩; go_simp
          try simp only [Act.put, List.setIfInBounds_toArray, List.set_cons_zero, List.set_cons_succ]
          refine wpAnyH_take (i := 6) (v := .pointer (some ⟨b, off + k * 7, none⟩)) rfl (by kernel_rfl) (by kernel_rfl) (by kernel_rfl) (fun _ _ _ h => h) (Or.inl ⟨by kernel_rfl, ?_⟩) hS ?_
          · rintro w' ⟨_, q0, q1, q2, q3, q4, q5, q6⟩; go_simp
          try simp only [Act.put, List.setIfInBounds_toArray, List.set_cons_zero, List.set_cons_succ]
          refine wpAnyH_take (i := 7) (v := .agg #[.int .i64 x.o.site, .int .i64 x.o.seq]) rfl (by kernel_rfl) (by kernel_rfl) (by kernel_rfl) (fun _ _ _ h => h) (Or.inl ⟨by kernel_rfl, ?_⟩) hS ?_
          · rintro w' ⟨_, q0, q1, q2, q3, q4, q5, q6⟩; go_simp
          try simp only [Act.put, List.setIfInBounds_toArray, List.set_cons_zero, List.set_cons_succ]
          refine wpAnyH_ready (rs := [8]) (by kernel_rfl) (by simp) (AllReadyH.cons rfl (fun K2 hK2 => ?_) <| AllReadyH.nil)
          go_simp
          refine (HNM.out _ hS.1).mono ?_
          rintro e w1 ⟨rfl, m1⟩
          rw [hdup]
          refine hK2.out _ _ ⟨hS.1.trans m1, m1.cell (fun e => e) hS.2.1, m1.cell (fun e => e) hS.2.2.1, m1.cell (fun e => e) hS.2.2.2.1, m1.cell (fun e => e) hS.2.2.2.2.1, m1.cell (fun e => e) hS.2.2.2.2.2.1, m1.cell (fun e => e) hS.2.2.2.2.2.2.1, m1.cell (fun e => e) hS.2.2.2.2.2.2.2⟩ (fun hS => ?_)
          clear hK2 K2 m1
          try simp only [Act.put, List.setIfInBounds_toArray, List.set_cons_zero, List.set_cons_succ]
          refine wpAnyH_take (i := 9) (v := .bool false) rfl (by kernel_rfl) (by kernel_rfl) (by kernel_rfl) (fun _ _ _ h => h) (Or.inl ⟨by kernel_rfl, ?_⟩) hS ?_
          · rintro w' ⟨_, q0, q1, q2, q3, q4, q5, q6⟩; go_simp
          try simp only [Act.put, List.setIfInBounds_toArray, List.set_cons_zero, List.set_cons_succ]
          refine wpAnyH_take (i := 10) (v := .slice (some ⟨b, off, none⟩) len cap) rfl (by kernel_rfl) (by kernel_rfl) (by kernel_rfl) (fun _ _ _ h => h) (Or.inl ⟨by kernel_rfl, ?_⟩) hS ?_
          · rintro w' ⟨_, q0, q1, q2, q3, q4, q5, q6⟩; go_simp
          try simp only [Act.put, List.setIfInBounds_toArray, List.set_cons_zero, List.set_cons_succ]
          refine wpAnyH_take (i := 11) (v := .int .i64 (k : Int)) rfl (by kernel_rfl) (by kernel_rfl) (by kernel_rfl) (fun _ _ _ h => h) (Or.inl ⟨by kernel_rfl, ?_⟩) hS ?_
          · rintro w' ⟨_, q0, q1, q2, q3, q4, q5, q6⟩; go_simp
          try simp only [Act.put, List.setIfInBounds_toArray, List.set_cons_zero, List.set_cons_succ]
          refine wpAnyH_take (i := 12) (v := .pointer (some ⟨b, off + k * 7, none⟩)) rfl (by kernel_rfl) (by kernel_rfl) (by kernel_rfl) (fun _ _ _ h => h) (Or.inl ⟨by kernel_rfl, ?_⟩) hS ?_
          · rintro w' ⟨_, q0, q1, q2, q3, q4, q5, q6⟩; go_simp
          try simp only [Act.put, List.setIfInBounds_toArray, List.set_cons_zero, List.set_cons_succ]
          refine wpAnyH_take (i := 13) (v := x.o.v) rfl (by kernel_rfl) (by kernel_rfl) (by kernel_rfl) (fun _ _ _ h => h) (Or.inl ⟨by kernel_rfl, ?_⟩) hS ?_
          · rintro w' ⟨_, q0, q1, q2, q3, q4, q5, q6⟩; go_simp
          try simp only [Act.put, List.setIfInBounds_toArray, List.set_cons_zero, List.set_cons_succ]
          refine wpAnyH_take (i := 14) (v := .int .i64 n) rfl (by kernel_rfl) (by kernel_rfl) (by kernel_rfl) (fun _ _ _ h => h) (Or.inl ⟨by kernel_rfl, ?_⟩) hS ?_
          · rintro w' ⟨_, q0, q1, q2, q3, q4, q5, q6⟩; go_simp
          try simp only [Act.put, List.setIfInBounds_toArray, List.set_cons_zero, List.set_cons_succ]
          refine wpAnyH_ready (rs := [15]) (by kernel_rfl) (by simp) (AllReadyH.cons rfl (fun K2 hK2 => ?_) <| AllReadyH.nil)
          rw [if_pos (by kernel_rfl)]
          go_simp
          refine (HMY.out _ hS.1).mono ?_
          rintro e w1 ⟨rfl, m1⟩
          rw [hm]
          refine hK2.out _ _ ⟨hS.1.trans m1, m1.cell (fun e => e) hS.2.1, m1.cell (fun e => e) hS.2.2.1, m1.cell (fun e => e) hS.2.2.2.1, m1.cell (fun e => e) hS.2.2.2.2.1, m1.cell (fun e => e) hS.2.2.2.2.2.1, m1.cell (fun e => e) hS.2.2.2.2.2.2.1, m1.cell (fun e => e) hS.2.2.2.2.2.2.2⟩ (fun hS => ?_)
          clear hK2 K2 m1
          try simp only [Act.put, List.setIfInBounds_toArray, List.set_cons_zero, List.set_cons_succ]
          refine wpAnyH_take (i := 16) (v := .bool false) rfl (by kernel_rfl) (by kernel_rfl) (by kernel_rfl) (fun _ _ _ h => h) (Or.inl ⟨by kernel_rfl, ?_⟩) hS ?_
          · rintro w' ⟨_, q0, q1, q2, q3, q4, q5, q6⟩; go_simp
          try simp only [Act.put, List.setIfInBounds_toArray, List.set_cons_zero, List.set_cons_succ]
          refine wpAnyH_take (i := 17) (v := .bool false) rfl (by kernel_rfl) (by kernel_rfl) (by kernel_rfl) (fun _ _ _ h => h) (Or.inl ⟨by kernel_rfl, ?_⟩) hS ?_
          · rintro w' ⟨_, q0, q1, q2, q3, q4, q5, q6⟩; go_simp
          try simp only [Act.put, List.setIfInBounds_toArray, List.set_cons_zero, List.set_cons_succ]
          refine wpAnyH_done (by kernel_rfl) ?_ _
          try simp only [List.getElem_toArray, List.getElem_cons_succ, List.getElem_cons_zero]
          try simp only [Act.put, List.setIfInBounds_toArray, List.set_cons_zero, List.set_cons_succ]
          have MF := Lib.hid (MX.out.trans hS.1)
          obtain ⟨_, e0, e1, e2, e3, e4, e5, e6⟩ := hS
          clear c0 c1 c2 c3 c4 c5 c6 hst hdup HNM HMY hm
          go_wp2_with fail
          refine (HAD.out _).mono ?_
          rintro e w9 ⟨rfl, m9⟩
          have M9 := Lib.hid (MF.out.trans m9)
          clear m9 HAD e0 e1 e2 e3 e4 e5 e6
          go_wp2_with fail
          go_roundg (len - (k + 1))
          all_goals first
            | omega
            | exact ⟨k + 1, n + ad, rfl, rfl, by go_num, by omega, M9.out, HST⟩
      · have HE := Lib.hid (HBAD.out (by
          unfold listRun
          rw [if_neg]
          rintro ⟨hnd, _⟩
          have h2 : ((l.take (k + 1)).map OpS.nm).Nodup := by
            rw [List.map_take]
            exact nodup_take hnd _
          exact (HSN.out.1 h2).2 (any_nm.1 hdup)))
        go_upto_region 6 with fail
        refine wp_region_held_drew (S := fun w' => Mine.Mod none_ wr w' ∧ w'.cell? ⟨b, off + k * 7, none⟩ = some (.int .i64 x.o.site) ∧ w'.cell? ⟨b, off + k * 7 + 1, none⟩ = some (.int .i64 x.o.seq) ∧ w'.cell? ⟨b, off + k * 7 + 2, none⟩ = some (.int .i64 x.o.num) ∧ w'.cell? ⟨b, off + k * 7 + 3, none⟩ = some (.int .i64 x.o.kind) ∧ w'.cell? ⟨b, off + k * 7 + 4, none⟩ = some (.int .i64 x.o.at_) ∧ w'.cell? ⟨b, off + k * 7 + 5, none⟩ = some (.string x.o.text) ∧ w'.cell? ⟨b, off + k * 7 + 6, none⟩ = some (.slice x.o.sa x.o.slen x.o.scap)) (by kernel_rfl) ⟨Mine.Mod.drew (Mine.Mod.refl none_ wr), c0, c1, c2, c3, c4, c5, c6⟩ (fun hS => ?_)
        refine wpAnyH_take (i := 0) (v := .slice (some ⟨b, off, none⟩) len cap) rfl (by kernel_rfl) (by kernel_rfl) (by kernel_rfl) (fun _ _ _ h => h) (Or.inl ⟨by kernel_rfl, ?_⟩) hS ?_
        · rintro w' ⟨_, q0, q1, q2, q3, q4, q5, q6⟩; go_simp
        try simp only [Act.put, List.setIfInBounds_toArray, List.set_cons_zero, List.set_cons_succ]
        refine wpAnyH_take (i := 1) (v := .int .i64 (k : Int)) rfl (by kernel_rfl) (by kernel_rfl) (by kernel_rfl) (fun _ _ _ h => h) (Or.inl ⟨by kernel_rfl, ?_⟩) hS ?_
        · rintro w' ⟨_, q0, q1, q2, q3, q4, q5, q6⟩; go_simp
        try simp only [Act.put, List.setIfInBounds_toArray, List.set_cons_zero, List.set_cons_succ]
        refine wpAnyH_take (i := 2) (v := .slice (some ⟨b, off, none⟩) k cap) rfl (by kernel_rfl) (by kernel_rfl) (by kernel_rfl) (fun _ _ _ h => h) (Or.inl ⟨by kernel_rfl, ?_⟩) hS ?_
        · rintro w' ⟨_, q0, q1, q2, q3, q4, q5, q6⟩; go_simp <;> (intro h; omega)
        try simp only [Act.put, List.setIfInBounds_toArray, List.set_cons_zero, List.set_cons_succ]
        refine wpAnyH_take (i := 3) (v := .slice (some ⟨b, off, none⟩) len cap) rfl (by kernel_rfl) (by kernel_rfl) (by kernel_rfl) (fun _ _ _ h => h) (Or.inl ⟨by kernel_rfl, ?_⟩) hS ?_
        · rintro w' ⟨_, q0, q1, q2, q3, q4, q5, q6⟩; go_simp
        try simp only [Act.put, List.setIfInBounds_toArray, List.set_cons_zero, List.set_cons_succ]
        refine wpAnyH_take (i := 4) (v := .int .i64 (k : Int)) rfl (by kernel_rfl) (by kernel_rfl) (by kernel_rfl) (fun _ _ _ h => h) (Or.inl ⟨by kernel_rfl, ?_⟩) hS ?_
        · rintro w' ⟨_, q0, q1, q2, q3, q4, q5, q6⟩; go_simp
        try simp only [Act.put, List.setIfInBounds_toArray, List.set_cons_zero, List.set_cons_succ]
        refine wpAnyH_take (i := 5) (v := .pointer (some ⟨b, off + k * 7, none⟩)) rfl (by kernel_rfl) (by kernel_rfl) (by kernel_rfl) (fun _ _ _ h => h) (Or.inl ⟨by kernel_rfl, ?_⟩) hS ?_
        · rintro w' ⟨_, q0, q1, q2, q3, q4, q5, q6⟩; go_simp
        try simp only [Act.put, List.setIfInBounds_toArray, List.set_cons_zero, List.set_cons_succ]
        refine wpAnyH_take (i := 6) (v := .pointer (some ⟨b, off + k * 7, none⟩)) rfl (by kernel_rfl) (by kernel_rfl) (by kernel_rfl) (fun _ _ _ h => h) (Or.inl ⟨by kernel_rfl, ?_⟩) hS ?_
        · rintro w' ⟨_, q0, q1, q2, q3, q4, q5, q6⟩; go_simp
        try simp only [Act.put, List.setIfInBounds_toArray, List.set_cons_zero, List.set_cons_succ]
        refine wpAnyH_take (i := 7) (v := .agg #[.int .i64 x.o.site, .int .i64 x.o.seq]) rfl (by kernel_rfl) (by kernel_rfl) (by kernel_rfl) (fun _ _ _ h => h) (Or.inl ⟨by kernel_rfl, ?_⟩) hS ?_
        · rintro w' ⟨_, q0, q1, q2, q3, q4, q5, q6⟩; go_simp
        try simp only [Act.put, List.setIfInBounds_toArray, List.set_cons_zero, List.set_cons_succ]
        refine wpAnyH_ready (rs := [8]) (by kernel_rfl) (by simp) (AllReadyH.cons rfl (fun K2 hK2 => ?_) <| AllReadyH.nil)
        go_simp
        refine (HNM.out _ hS.1).mono ?_
        rintro e w1 ⟨rfl, m1⟩
        rw [hdup]
        refine hK2.out _ _ ⟨hS.1.trans m1, m1.cell (fun e => e) hS.2.1, m1.cell (fun e => e) hS.2.2.1, m1.cell (fun e => e) hS.2.2.2.1, m1.cell (fun e => e) hS.2.2.2.2.1, m1.cell (fun e => e) hS.2.2.2.2.2.1, m1.cell (fun e => e) hS.2.2.2.2.2.2.1, m1.cell (fun e => e) hS.2.2.2.2.2.2.2⟩ (fun hS => ?_)
        clear hK2 K2 m1
        try simp only [Act.put, List.setIfInBounds_toArray, List.set_cons_zero, List.set_cons_succ]
        refine wpAnyH_take (i := 9) (v := .bool true) rfl (by kernel_rfl) (by kernel_rfl) (by kernel_rfl) (fun _ _ _ h => h) (Or.inl ⟨by kernel_rfl, ?_⟩) hS ?_
        · rintro w' ⟨_, q0, q1, q2, q3, q4, q5, q6⟩; go_simp
        try simp only [Act.put, List.setIfInBounds_toArray, List.set_cons_zero, List.set_cons_succ]
        refine wpAnyH_take (i := 10) (v := undef) rfl (by kernel_rfl) (by kernel_rfl) (by kernel_rfl) (fun _ _ _ h => h) (Or.inr ⟨by kernel_rfl, rfl⟩) hS ?_
        try simp only [Act.put, List.setIfInBounds_toArray, List.set_cons_zero, List.set_cons_succ]
        refine wpAnyH_take (i := 11) (v := undef) rfl (by kernel_rfl) (by kernel_rfl) (by kernel_rfl) (fun _ _ _ h => h) (Or.inr ⟨by kernel_rfl, rfl⟩) hS ?_
        try simp only [Act.put, List.setIfInBounds_toArray, List.set_cons_zero, List.set_cons_succ]
        refine wpAnyH_take (i := 12) (v := undef) rfl (by kernel_rfl) (by kernel_rfl) (by kernel_rfl) (fun _ _ _ h => h) (Or.inr ⟨by kernel_rfl, rfl⟩) hS ?_
        try simp only [Act.put, List.setIfInBounds_toArray, List.set_cons_zero, List.set_cons_succ]
        refine wpAnyH_take (i := 13) (v := undef) rfl (by kernel_rfl) (by kernel_rfl) (by kernel_rfl) (fun _ _ _ h => h) (Or.inr ⟨by kernel_rfl, rfl⟩) hS ?_
        try simp only [Act.put, List.setIfInBounds_toArray, List.set_cons_zero, List.set_cons_succ]
        refine wpAnyH_take (i := 14) (v := undef) rfl (by kernel_rfl) (by kernel_rfl) (by kernel_rfl) (fun _ _ _ h => h) (Or.inr ⟨by kernel_rfl, rfl⟩) hS ?_
        try simp only [Act.put, List.setIfInBounds_toArray, List.set_cons_zero, List.set_cons_succ]
        refine wpAnyH_take (i := 15) (v := undef) rfl (by kernel_rfl) (by kernel_rfl) (by kernel_rfl) (fun _ _ _ h => h) (Or.inr ⟨by kernel_rfl, rfl⟩) hS ?_
        try simp only [Act.put, List.setIfInBounds_toArray, List.set_cons_zero, List.set_cons_succ]
        refine wpAnyH_take (i := 16) (v := undef) rfl (by kernel_rfl) (by kernel_rfl) (by kernel_rfl) (fun _ _ _ h => h) (Or.inr ⟨by kernel_rfl, rfl⟩) hS ?_
        try simp only [Act.put, List.setIfInBounds_toArray, List.set_cons_zero, List.set_cons_succ]
        refine wpAnyH_take (i := 17) (v := .bool true) rfl (by kernel_rfl) (by kernel_rfl) (by kernel_rfl) (fun _ _ _ h => h) (Or.inl ⟨by kernel_rfl, ?_⟩) hS ?_
        · rintro w' ⟨_, q0, q1, q2, q3, q4, q5, q6⟩; go_simp
        try simp only [Act.put, List.setIfInBounds_toArray, List.set_cons_zero, List.set_cons_succ]
        refine wpAnyH_done (by kernel_rfl) ?_ _
        try simp only [List.getElem_toArray, List.getElem_cons_succ, List.getElem_cons_zero]
        try simp only [Act.put, List.setIfInBounds_toArray, List.set_cons_zero, List.set_cons_succ]
        have MF := Lib.hid (MX.out.trans hS.1)
        clear hS c0 c1 c2 c3 c4 c5 c6 hst hdup HNM HMY
        go_wp2_with fail
        go_ret2
        exact ⟨by rw [HE.out]; rfl, MF.out⟩
    · obtain rfl : k = len := by omega
      have HE := Lib.hid (show R = .tuple #[.int .i64 n, .bool true] by
        have h3 := hst.out
        rw [List.take_of_length_le (by rw [HN.out]; omega)] at h3
        rw [HR.out]
        unfold listV listRun
        rw [if_pos ⟨h3.2, HNB.out⟩, h3.1])
      clear mx hst
      go_wp2_with fail
      go_ret2
      exact ⟨by rw [HE.out]; rfl, MX.out⟩
end Go.Proofs.YtlidmajcdjlcnaaGreatDoor

namespace Go.Proofs.YtlidmajcdjlcnaaGreatDoor
open Go.RowKit Go.Shelf Go.Mine
open Classical

/-- From, Num and the count of entries. -/
def numsOk (h : HistV) : Bool := decide (0 ≤ h.from_) && decide (h.from_ ≤ h.num) && decide (h.num ≤ 1099511627776) && decide (h.ll ≤ 400)
def unkn (V : List Int) (c : CellV) : Bool := !decide (c.seq ≤ cntV V c.site)
/-- The base and its vector. -/
noncomputable def baseOk (B : List CellV) (V : List Int) : Bool := decide (newE B = 0) && vecOk V && !B.any (unkn V)
/-- An entry by itself. -/
def entOk (x : EntV) : Bool := editOk x.ed && decide (x.ed.site = x.o.site) && decide (x.ed.seq = x.o.seq) && decide (x.ed.kind = x.o.kind)
noncomputable def entsOk (E : List EntV) (n : Int) : Bool := E.all entOk && (listRun (opsOf E) n).isSome
/-- The order of the entries. -/
def orderL : Int → Int → List Int → Int → List EntV → Bool
  | _, _, _, _, [] => true
  | last, p, V, num, x :: r => if raiseE V x.o.site x.o.seq = 0 then
      (if x.o.num = 0 then (if p = 0 ∨ p = x.o.site then orderL last x.o.site (raiseL V x.o.site) num r else false)
       else (if p = 0 ∧ last < x.o.num ∧ x.o.num ≤ num then orderL x.o.num 0 (raiseL V x.o.site) num r else false))
    else false
/-- May a history be? -/
noncomputable def histOk (h : HistV) (B : List CellV) (V : List Int) (E : List EntV) : Bool := numsOk h && baseOk B V && entsOk E (h.bl : Int) && orderL h.from_ 0 V h.num E
theorem newE_cells {B : List CellV} (h : newE B = 0) : ∀ c ∈ B, cellOk c = true := by
  unfold newE at h
  by_cases ha : B.all cellOk = true
  · exact List.all_eq_true.1 ha
  · rw [if_neg ha] at h; omega
theorem cellOk_name {c : CellV} (h : cellOk c = true) : nameOk c.site c.seq = true := by
  unfold cellOk at h
  simp only [Bool.and_eq_true] at h
  exact h.1.1.1

set_option maxHeartbeats 4000000 in
set_option maxRecDepth 1000000 in
theorem numbers_any (w : World) (h : HistV) :
    Calls Tryz.prog 49 #[h.v] w fun e w' => e = .returned (.bool (numsOk h)) ∧ Mine.Mod none_ w w' := by
  obtain ⟨R, hR⟩ : ∃ R, R = numsOk h := ⟨_, rfl⟩
  rw [← hR]
  obtain ⟨xba, xbl, xbc, xva, xvl, xvc, xfr, xnum, xla, xll, xlc⟩ := h
  have HB := Lib.hid (show R = (decide (0 ≤ xfr) && decide (xfr ≤ xnum) && decide (xnum ≤ 1099511627776) && decide ((xll : Int) ≤ 400)) by
    rw [hR]; unfold numsOk
    have : decide (xll ≤ 400) = decide ((xll : Int) ≤ 400) := by rw [Bool.eq_iff_iff]; simp; omega
    rw [← this])
  clear hR
  obtain ⟨W0, hW0⟩ : ∃ W0, w.alloc (.cells #[.slice xba xbl xbc, .slice xva xvl xvc, .int .i64 xfr, .int .i64 xnum, .slice xla xll xlc] 39) = W0 := ⟨_, rfl⟩
  obtain ⟨K, hK⟩ : ∃ K, w.heap.size = K := ⟨_, rfl⟩
  have m0 : Mine.Mod none_ w W0 := by rw [← hW0]; exact (Mine.Mod.refl none_ w).alloc _
  have k0 : Blk W0 K [.slice xba xbl xbc, .slice xva xvl xvc, .int .i64 xfr, .int .i64 xnum, .slice xla xll xlc] 39 := by rw [← hW0, ← hK]; exact Blk.new (w := w) (cs := [.slice xba xbl xbc, .slice xva xvl xvc, .int .i64 xfr, .int .i64 xnum, .slice xla xll xlc])
  obtain ⟨cs0, hcs0⟩ : ∃ cs0 : List Value, cs0 = [.slice xba xbl xbc, .slice xva xvl xvc, .int .i64 xfr, .int .i64 xnum, .slice xla xll xlc] := ⟨_, rfl⟩
  rw [← hcs0] at k0
  have HC2 := Lib.hid (show ∀ W, Blk W K cs0 39 → W.cell? ⟨K, 2, none⟩ = some (.int .i64 xfr) from fun W k => by rw [k.cell, hcs0]; rfl)
  have HC3 := Lib.hid (show ∀ W, Blk W K cs0 39 → W.cell? ⟨K, 3, none⟩ = some (.int .i64 xnum) from fun W k => by rw [k.cell, hcs0]; rfl)
  have HC4 := Lib.hid (show ∀ W, Blk W K cs0 39 → W.cell? ⟨K, 4, none⟩ = some (.slice xla xll xlc) from fun W k => by rw [k.cell, hcs0]; rfl)
  have M0 := Lib.hid m0
  have K0 := Lib.hid k0
  have hKw : w.heap.size ≤ K := by omega
  have c2 := HC2.out W0 k0
  have c3 := HC3.out W0 k0
  have c4 := HC4.out W0 k0
  clear m0 k0 hcs0
  go_enter Tryz.func49, Tryz.ntmps49
  go_upto_region 1 with fail
  clear hW0 hK
  cases q1 : decide (0 ≤ xfr)
  case false =>
    have HE := Lib.hid (show R = false by rw [HB.out, q1]; rfl)
    go_wp2_with fail
    go_ret
    exact ⟨by rw [HE.out]; rfl, M0.out⟩
  cases q2 : decide (xfr ≤ xnum)
  case false =>
    have HE := Lib.hid (show R = false by rw [HB.out, q1, q2]; rfl)
    go_wp2_with fail
    go_ret
    exact ⟨by rw [HE.out]; rfl, M0.out⟩
  cases q3 : decide (xnum ≤ 1099511627776)
  case false =>
    have HE := Lib.hid (show R = false by rw [HB.out, q1, q2, q3]; rfl)
    go_wp2_with fail
    go_ret
    exact ⟨by rw [HE.out]; rfl, M0.out⟩
  cases q4 : decide ((xll : Int) ≤ 400)
  case false =>
    have HE := Lib.hid (show R = false by rw [HB.out, q1, q2, q3, q4]; rfl)
    go_wp2_with fail
    go_ret
    exact ⟨by rw [HE.out]; rfl, M0.out⟩
  have HE := Lib.hid (show R = true by rw [HB.out, q1, q2, q3, q4]; rfl)
  go_wp2_with fail
  go_ret
  exact ⟨by rw [HE.out]; rfl, M0.out⟩

set_option maxHeartbeats 4000000 in
set_option maxRecDepth 1000000 in
theorem base1_any (w : World) (h : HistV) (c : CellV) (P : Nat) (V : List Int) (k : Blk w P h.cs 39) (hv : IsVec w h.va h.vl h.vc V) (hV : vecOk V = true) (hn : nameOk c.site c.seq = true) :
    Calls Tryz.prog 79 #[c.v, .pointer (some ⟨P, 0, none⟩)] w fun e w' => e = .returned (.bool (unkn V c)) ∧ Mine.Mod none_ w w' := by
  obtain ⟨xba, xbl, xbc, xva, xvl, xvc, xfr, xnum, xla, xll, xlc⟩ := h
  obtain ⟨W0, hW0⟩ : ∃ W0, w.alloc (.cells c.cs.toArray 47) = W0 := ⟨_, rfl⟩
  obtain ⟨K, hK⟩ : ∃ K, w.heap.size = K := ⟨_, rfl⟩
  have m0 : Mine.Mod none_ w W0 := by rw [← hW0]; exact (Mine.Mod.refl none_ w).alloc _
  have kB : Blk W0 K c.cs 47 := by rw [← hW0, ← hK]; exact Blk.new (w := w) (cs := c.cs)
  have M0 := Lib.hid m0
  have kP := k.mod m0 (fun e => e)
  have d1 : W0.cell? ⟨P, 1, none⟩ = some (.slice xva xvl xvc) := by rw [kP.cell]; rfl
  have c0 : W0.cell? ⟨K, 0, none⟩ = some (.int .i64 c.site) := by rw [kB.cell]; rfl
  have c1 : W0.cell? ⟨K, 1, none⟩ = some (.int .i64 c.seq) := by rw [kB.cell]; rfl
  have HH := Lib.hid (vhas_any W0 xva xvl xvc V c.site c.seq (hv.grown m0) hV hn)
  obtain ⟨b, hb⟩ : ∃ b, b = decide (c.seq ≤ cntV V c.site) := ⟨_, rfl⟩
  have HE := Lib.hid (show unkn V c = !b by rw [hb]; rfl)
  rw [← hb] at HH
  clear k m0 kB kP hv hn hV hb
  go_enter Tryz.func79, Tryz.ntmps79
  go_upto_region 1 with fail
  clear hW0 hK
  go_wp2_with fail
  refine HH.out.mono ?_
  rintro e w1 ⟨rfl, m1⟩
  have M1 := Lib.hid (M0.out.trans m1)
  clear m1
  go_wp2_with fail
  go_ret
  exact ⟨by rw [HE.out]; rfl, M1.out⟩

set_option maxHeartbeats 4000000 in
set_option maxRecDepth 1000000 in
theorem baseIx_any (w : World) (h : HistV) (a : Option Addr) (len cap : Nat) (l : List CellV) (P : Nat) (V : List Int) (hc : IsCells w a len cap l) (k : Blk w P h.cs 39) (hv : IsVec w h.va h.vl h.vc V) (hV : vecOk V = true) (hn : ∀ c ∈ l, cellOk c = true) :
    Calls Tryz.prog 103 #[.slice a len cap, .func (.func 79) #[] #[.pointer (some ⟨P, 0, none⟩)]] w fun e w' => (∃ r : Int, e = .returned (.int .i64 r) ∧ -1 ≤ r ∧ r ≤ 9223372036854775807 ∧ decide (0 ≤ r) = l.any (unkn V)) ∧ Mine.Mod none_ w w' := by
  have hle := hc.le
  have hcap := hc.big
  unfold maxLen at hcap
  have H := Lib.hid hc
  have HN := Lib.hid hc.n
  have HF := Lib.hid (show ∀ W, Mine.Mod none_ w W → ∀ c ∈ l, Calls Tryz.prog 79 #[c.v, .pointer (some ⟨P, 0, none⟩)] W fun e w' => e = .returned (.bool (unkn V c)) ∧ Mine.Mod none_ W w' from fun W m c hcl => base1_any W h c P V (k.mod m (fun e => e)) (hv.grown m) hV (cellOk_name (hn c hcl)))
  clear hc k hv hV hn
  go_enter Tryz.func103, Tryz.ntmps103
  go_wp2_with fail
  go_loopg [8] len (fun g s8 wx => ∃ k : Nat, g = len - k ∧ s8 = .int .i64 k ∧ k ≤ len ∧ Mine.Mod none_ w wx ∧ RowKit.Hid ((l.take k).any (unkn V) = false))
  case atStart => exact ⟨0, rfl, rfl, Nat.zero_le _, Mine.Mod.refl _ _, Lib.hid rfl⟩
  case round =>
    obtain ⟨k, rfl, rfl, hk, mx, hst⟩ := hrel
    have MX := Lib.hid mx
    by_cases hlk : k < len
    · obtain ⟨x, hx⟩ : ∃ x, l[k]? = some x := ⟨l[k]'(by rw [HN.out]; exact hlk), by simp⟩
      obtain ⟨b, off, rfl, hr⟩ := (H.out.grown mx).cells k x hx
      have c0 := hr 0 _ rfl
      have c1 := hr 1 _ rfl
      have c2 := hr 2 _ rfl
      have c3 := hr 3 _ rfl
      have c4 := hr 4 _ rfl
      rw [Nat.add_zero] at c0
      have HC := Lib.hid (HF.out wr mx x (List.mem_of_getElem? hx))
      have HT := Lib.hid (show (l.take (k + 1)).any (unkn V) = unkn V x by
        obtain ⟨hi, e⟩ := List.getElem?_eq_some_iff.1 hx
        rw [List.take_succ_eq_append_getElem hi, List.any_append, hst.out, e]; simp)
      have HA := Lib.hid (fun (hb : unkn V x = true) => (show l.any (unkn V) = true from List.any_eq_true.2 ⟨x, List.mem_of_getElem? hx, hb⟩))
      generalize unkn V x = bb at HC HT HA
      clear hx hst mx hr
      cases bb
      · go_wp2_with fail
        refine HC.out.mono ?_
        rintro e w1 ⟨rfl, m1⟩
        have M1 := Lib.hid (MX.out.trans m1)
        clear m1
        go_wp2_with fail
        go_roundg (len - (k + 1))
        all_goals first
          | omega
          | exact ⟨k + 1, rfl, by go_num, by omega, M1.out, HT⟩
      · go_wp2_with fail
        refine HC.out.mono ?_
        rintro e w1 ⟨rfl, m1⟩
        have M1 := Lib.hid (MX.out.trans m1)
        clear m1
        go_wp2_with fail
        go_ret
        exact ⟨⟨k, rfl, by omega, by omega, by rw [HA.out trivial]; simp⟩, M1.out⟩
    · obtain rfl : k = len := by omega
      have hF : l.any (unkn V) = false := by
        have := hst.out
        rwa [List.take_of_length_le (by rw [HN.out]; omega)] at this
      have HF := Lib.hid hF
      clear hst mx hF
      go_wp2_with fail
      go_ret
      exact ⟨⟨-1, rfl, by omega, by omega, by rw [HF.out]; rfl⟩, MX.out⟩

set_option maxHeartbeats 4000000 in
set_option maxRecDepth 1000000 in
theorem baseHas_any (w : World) (h : HistV) (a : Option Addr) (len cap : Nat) (l : List CellV) (P : Nat) (V : List Int) (hc : IsCells w a len cap l) (k : Blk w P h.cs 39) (hv : IsVec w h.va h.vl h.vc V) (hV : vecOk V = true) (hn : ∀ c ∈ l, cellOk c = true) :
    Calls Tryz.prog 81 #[.slice a len cap, .func (.func 79) #[] #[.pointer (some ⟨P, 0, none⟩)]] w fun e w' => e = .returned (.bool (l.any (unkn V))) ∧ Mine.Mod none_ w w' := by
  have HI := Lib.hid (baseIx_any w h a len cap l P V hc k hv hV hn)
  clear hc k hv hV hn
  go_enter Tryz.func81, Tryz.ntmps81
  go_wp2_with fail
  refine HI.out.mono ?_
  rintro e w2 ⟨⟨r, rfl, h1, h2, h3⟩, m2⟩
  have M2 := Lib.hid m2
  have H3 := Lib.hid h3
  clear m2 h3
  go_wp2_with fail
  go_ret
  exact ⟨by rw [← H3.out]; rfl, M2.out⟩

set_option maxHeartbeats 4000000 in
set_option maxRecDepth 1000000 in
theorem base_any (w : World) (h : HistV) (B : List CellV) (V : List Int) (hB : IsCells w h.ba h.bl h.bc B) (hV : IsVec w h.va h.vl h.vc V) (hl : h.bl ≤ 1099511627776) :
    Calls Tryz.prog 50 #[h.v] w fun e w' => e = .returned (.bool (baseOk B V)) ∧ Mine.Mod none_ w w' := by
  obtain ⟨R, hR⟩ : ∃ R, R = baseOk B V := ⟨_, rfl⟩
  rw [← hR]
  have HB := Lib.hid hR
  have HHAS := Lib.hid (show ∀ W P, Mine.Mod none_ w W → Blk W P h.cs 39 → vecOk V = true → newE B = 0 → Calls Tryz.prog 81 #[.slice h.ba h.bl h.bc, .func (.func 79) #[] #[.pointer (some ⟨P, 0, none⟩)]] W fun e w' => e = .returned (.bool (B.any (unkn V))) ∧ Mine.Mod none_ W w' from fun W P m k hv he => baseHas_any W h _ _ _ B P V (hB.grown m) k (hV.grown m) hv (newE_cells he))
  obtain ⟨xba, xbl, xbc, xva, xvl, xvc, xfr, xnum, xla, xll, xlc⟩ := h
  dsimp only at hl hB hV HHAS
  have HHB := Lib.hid hB
  have HHV := Lib.hid hV
  clear hR hB hV
  obtain ⟨W0, hW0⟩ : ∃ W0, w.alloc (.cells #[.slice xba xbl xbc, .slice xva xvl xvc, .int .i64 xfr, .int .i64 xnum, .slice xla xll xlc] 39) = W0 := ⟨_, rfl⟩
  obtain ⟨K, hK⟩ : ∃ K, w.heap.size = K := ⟨_, rfl⟩
  have m0 : Mine.Mod none_ w W0 := by rw [← hW0]; exact (Mine.Mod.refl none_ w).alloc _
  have k0 : Blk W0 K [.slice xba xbl xbc, .slice xva xvl xvc, .int .i64 xfr, .int .i64 xnum, .slice xla xll xlc] 39 := by rw [← hW0, ← hK]; exact Blk.new (w := w) (cs := [.slice xba xbl xbc, .slice xva xvl xvc, .int .i64 xfr, .int .i64 xnum, .slice xla xll xlc])
  obtain ⟨cs0, hcs0⟩ : ∃ cs0 : List Value, cs0 = [.slice xba xbl xbc, .slice xva xvl xvc, .int .i64 xfr, .int .i64 xnum, .slice xla xll xlc] := ⟨_, rfl⟩
  rw [← hcs0] at k0
  have HC0 := Lib.hid (show ∀ W, Blk W K cs0 39 → W.cell? ⟨K, 0, none⟩ = some (.slice xba xbl xbc) from fun W k => by rw [k.cell, hcs0]; rfl)
  have HC1 := Lib.hid (show ∀ W, Blk W K cs0 39 → W.cell? ⟨K, 1, none⟩ = some (.slice xva xvl xvc) from fun W k => by rw [k.cell, hcs0]; rfl)
  have M0 := Lib.hid m0
  have K0 := Lib.hid k0
  have hKw : w.heap.size ≤ K := by omega
  have HCS := Lib.hid hcs0
  have c0 := HC0.out W0 k0
  have c1 := HC1.out W0 k0
  clear m0 k0 hcs0
  go_enter Tryz.func50, Tryz.ntmps50
  go_upto_region 1 with fail
  clear hW0 hK
  go_wp2_with fail
  refine (new_any W0 xba xbl xbc B (HHB.out.grown M0.out) hl).mono ?_
  rintro e w1 ⟨m1, hbad, hgood⟩
  have M1 := Lib.hid (M0.out.trans m1)
  have K1 := Lib.hid (K0.out.mod m1 (fun e => e))
  have HG := Lib.hid hgood
  have HBD := Lib.hid hbad
  have d0 := HC0.out w1 K1.out
  have d1 := HC1.out w1 K1.out
  clear m1 c0 c1 M0 K0 hbad hgood
  by_cases hn : newE B = 0
  · obtain ⟨D, rfl, hD⟩ := HG.out hn
    have HN := Lib.hid hn
    clear hD hn HG HBD
    cases hv : vecOk V
    · have HE := Lib.hid (show R = false by rw [HB.out]; unfold baseOk; rw [hv, Bool.and_false]; rfl)
      go_wp2_with fail
      refine (vmay_any w1 xva xvl xvc V (HHV.out.grown M1.out)).mono ?_
      rintro e w2 ⟨rfl, m2⟩
      rw [hv]
      have M2 := Lib.hid (M1.out.trans m2)
      clear m2 d0 d1
      go_wp2_with fail
      go_ret
      exact ⟨by rw [HE.out]; rfl, M2.out⟩
    · have HE := Lib.hid (show R = !B.any (unkn V) by rw [HB.out]; unfold baseOk; rw [hv, HN.out]; rfl)
      go_wp2_with fail
      refine (vmay_any w1 xva xvl xvc V (HHV.out.grown M1.out)).mono ?_
      rintro e w2 ⟨rfl, m2⟩
      rw [hv]
      have M2 := Lib.hid (M1.out.trans m2)
      have K2 := Lib.hid (K1.out.mod m2 (fun e => e))
      have e0 := HC0.out w2 K2.out
      have e1 := HC1.out w2 K2.out
      clear m2 d0 d1 M1 K1
      have HH := Lib.hid (HHAS.out w2 K M2.out (by have := K2.out; rwa [HCS.out] at this) hv HN.out)
      generalize B.any (unkn V) = bb at HH HE
      clear hv
      go_wp2_with fail
      refine HH.out.mono ?_
      rintro e w3 ⟨rfl, m3⟩
      have M3 := Lib.hid (M2.out.trans m3)
      clear m3
      go_wp2_with fail
      go_ret
      exact ⟨by rw [HE.out]; rfl, M3.out⟩
  · have he := HBD.out hn
    subst he
    have hb : (newE B == 0) = false := by simpa using hn
    have HE := Lib.hid (show R = false by rw [HB.out]; unfold baseOk; simp [hn])
    clear hn HG HBD
    go_wp2_with fail
    go_ret
    exact ⟨by rw [HE.out]; rfl, M1.out⟩
end Go.Proofs.YtlidmajcdjlcnaaGreatDoor

namespace Go.Proofs.YtlidmajcdjlcnaaGreatDoor
open Go.RowKit Go.Shelf Go.Mine
open Classical

theorem all_snocE {E : List EntV} {k : Nat} {x : EntV} (hx : E[k]? = some x) (h : (E.take k).all entOk = true) (hk : entOk x = true) : (E.take (k + 1)).all entOk = true := by
  rw [ents_snoc hx, List.all_append, h]; simp [hk]
theorem not_allE {E : List EntV} {x : EntV} {k : Nat} {n : Int} (hx : E[k]? = some x) (hk : entOk x = false) : entsOk E n = false := by
  unfold entsOk
  have : E.all entOk = false := by
    rw [List.all_eq_false]
    exact ⟨x, List.mem_of_getElem? hx, by rw [hk]; simp⟩
  rw [this]; rfl
theorem raise_vec {V : List Int} {s q : Int} (h : raiseE V s q = 0) : vecOk V = true ∧ nameOk s q = true := by
  unfold raiseE at h
  by_cases hc : (vecOk V && nameOk s q) = true
  · simpa using hc
  · rw [if_neg hc] at h; omega
theorem nameOk_site {s q : Int} (h : nameOk s q = true) : 1 ≤ s ∧ s ≤ 16 := by
  unfold nameOk inB at h
  simp only [Bool.and_eq_true, decide_eq_true_eq] at h
  exact h.1
theorem raiseL_i64 {V : List Int} {s : Int} (h : vecOk V = true) (hV : ∀ x ∈ V, -9223372036854775808 ≤ x ∧ x ≤ 9223372036854775807) : ∀ x ∈ raiseL V s, -9223372036854775808 ≤ x ∧ x ≤ 9223372036854775807 := by
  intro x hx
  have hc := cntV_le h s
  unfold raiseL at hx
  rcases List.mem_or_eq_of_mem_set hx with hx | rfl
  · rcases List.mem_append.1 hx with hx | hx
    · exact hV x hx
    · have := (List.mem_replicate.1 hx).2
      omega
  · omega
theorem listV_shape (l : List OpS) (n : Int) : ∃ ov : Int, listV l n = .tuple #[.int .i64 ov, .bool (listRun l n).isSome] := by
  unfold listV
  cases listRun l n <;> exact ⟨_, rfl⟩
theorem drop_cons {α : Type} {l : List α} {k : Nat} {x : α} (h : l[k]? = some x) : l.drop k = x :: l.drop (k + 1) := by
  obtain ⟨hi, e⟩ := List.getElem?_eq_some_iff.1 h
  rw [← e]; exact List.drop_eq_getElem_cons hi

set_option maxHeartbeats 4000000 in
set_option maxRecDepth 1000000 in
theorem entries_any (w : World) (h : HistV) (E : List EntV) (he : IsEnts w h.la h.ll h.lc E) (hl : h.ll ≤ 100000) :
    Calls Tryz.prog 51 #[h.v] w fun e w' => e = .returned (.bool (entsOk E (h.bl : Int))) ∧ Mine.Mod none_ w w' := by
  obtain ⟨R, hR⟩ : ∃ R, R = entsOk E (h.bl : Int) := ⟨_, rfl⟩
  rw [← hR]
  have hle := he.le
  have hcap := he.big
  unfold maxLen at hcap
  obtain ⟨xba, xbl, xbc, xva, xvl, xvc, xfr, xnum, xla, xll, xlc⟩ := h
  dsimp only at hle hcap hl he hR
  have HB := Lib.hid hR
  have H := Lib.hid he
  have HN := Lib.hid he.n
  clear hR he
  obtain ⟨W0, hW0⟩ : ∃ W0, w.alloc (.cells #[.slice xba xbl xbc, .slice xva xvl xvc, .int .i64 xfr, .int .i64 xnum, .slice xla xll xlc] 39) = W0 := ⟨_, rfl⟩
  obtain ⟨K, hK⟩ : ∃ K, w.heap.size = K := ⟨_, rfl⟩
  have m0 : Mine.Mod none_ w W0 := by rw [← hW0]; exact (Mine.Mod.refl none_ w).alloc _
  have k0 : Blk W0 K [.slice xba xbl xbc, .slice xva xvl xvc, .int .i64 xfr, .int .i64 xnum, .slice xla xll xlc] 39 := by rw [← hW0, ← hK]; exact Blk.new (w := w) (cs := [.slice xba xbl xbc, .slice xva xvl xvc, .int .i64 xfr, .int .i64 xnum, .slice xla xll xlc])
  obtain ⟨cs0, hcs0⟩ : ∃ cs0 : List Value, cs0 = [.slice xba xbl xbc, .slice xva xvl xvc, .int .i64 xfr, .int .i64 xnum, .slice xla xll xlc] := ⟨_, rfl⟩
  rw [← hcs0] at k0
  have HC0 := Lib.hid (show ∀ W, Blk W K cs0 39 → W.cell? ⟨K, 0, none⟩ = some (.slice xba xbl xbc) from fun W k => by rw [k.cell, hcs0]; rfl)
  have HC1 := Lib.hid (show ∀ W, Blk W K cs0 39 → W.cell? ⟨K, 1, none⟩ = some (.slice xva xvl xvc) from fun W k => by rw [k.cell, hcs0]; rfl)
  have HC2 := Lib.hid (show ∀ W, Blk W K cs0 39 → W.cell? ⟨K, 2, none⟩ = some (.int .i64 xfr) from fun W k => by rw [k.cell, hcs0]; rfl)
  have HC3 := Lib.hid (show ∀ W, Blk W K cs0 39 → W.cell? ⟨K, 3, none⟩ = some (.int .i64 xnum) from fun W k => by rw [k.cell, hcs0]; rfl)
  have HC4 := Lib.hid (show ∀ W, Blk W K cs0 39 → W.cell? ⟨K, 4, none⟩ = some (.slice xla xll xlc) from fun W k => by rw [k.cell, hcs0]; rfl)
  have M0 := Lib.hid m0
  have K0 := Lib.hid k0
  have hKw : w.heap.size ≤ K := by omega
  have c0 := HC0.out W0 k0
  have c1 := HC1.out W0 k0
  have c2 := HC2.out W0 k0
  have c3 := HC3.out W0 k0
  have c4 := HC4.out W0 k0
  clear m0 k0 hcs0
  go_enter Tryz.func51, Tryz.ntmps51
  go_upto_region 1 with fail
  clear hW0 hK
  go_wp2_with fail
  clear c0 c1 c2 c3 c4
  go_loopg [10] xll (fun g s10 wx => ∃ k : Nat, g = xll - k ∧ s10 = .int .i64 k ∧ k ≤ xll ∧ Mine.Mod none_ w wx ∧ RowKit.Hid (Blk wx K cs0 39 ∧ (E.take k).all entOk = true))
  case atStart => exact ⟨0, rfl, rfl, Nat.zero_le _, M0.out, Lib.hid ⟨K0.out, rfl⟩⟩
  case round =>
    obtain ⟨k, rfl, rfl, hk, mx, hst⟩ := hrel
    have MX := Lib.hid mx
    obtain ⟨kx, hall⟩ := hst.out
    by_cases hlk : k < xll
    · obtain ⟨x, hx⟩ : ∃ x, E[k]? = some x := ⟨E[k]'(by rw [HN.out]; exact hlk), by simp⟩
      have KX := Lib.hid kx
      have HALL := Lib.hid (fun (hb : entOk x = true) => all_snocE hx hall hb)
      have HBAD := Lib.hid (fun (hb : entOk x = false) => show R = false by rw [HB.out]; exact not_allE hx hb)
      have hxo := (H.out.grown mx).ok x (List.mem_of_getElem? hx)
      obtain ⟨b, off, rfl, hr⟩ := (H.out.grown mx).ents k x hx
      have c0 := hr 0 _ rfl
      have c1 := hr 1 _ rfl
      have c2 := hr 2 _ rfl
      have c3 := hr 3 _ rfl
      have c4 := hr 4 _ rfl
      have c5 := hr 5 _ rfl
      have c6 := hr 6 _ rfl
      have c7 := hr 7 _ rfl
      have c8 := hr 8 _ rfl
      have c9 := hr 9 _ rfl
      have c10 := hr 10 _ rfl
      have c11 := hr 11 _ rfl
      have c12 := hr 12 _ rfl
      have c13 := hr 13 _ rfl
      rw [Nat.add_zero] at c0
      have mE : Mine.Mod none_ wr (wr.alloc (.cells x.cs.toArray 35)) := (Mine.Mod.refl none_ wr).alloc _
      have ME := Lib.hid mE
      have KE := Lib.hid (Blk.new (w := wr) (cs := x.cs) (t := 35))
      have HM := Lib.hid (mayEdit_any x.ed _ (hxo.2.grown mE))
      dsimp only [EntV.cs] at ME KE HM
      clear kx hall hst hx hxo hr mE mx
      go_wp2_with fail
      refine HM.out.mono ?_
      rintro e w1 ⟨rfl, m1⟩
      have M1 := Lib.hid (MX.out.trans (ME.out.trans m1))
      have K1 := Lib.hid ((KX.out.mod ME.out (fun e => e)).mod m1 (fun e => e))
      have KE1 := Lib.hid (KE.out.mod m1 (fun e => e))
      have e0 : w1.cell? ⟨wr.heap.size, 0, none⟩ = some (.int .i64 x.o.site) := by rw [KE1.out.cell]; rfl
      have e1 : w1.cell? ⟨wr.heap.size, 1, none⟩ = some (.int .i64 x.o.seq) := by rw [KE1.out.cell]; rfl
      have e3 : w1.cell? ⟨wr.heap.size, 3, none⟩ = some (.int .i64 x.o.kind) := by rw [KE1.out.cell]; rfl
      have e7 : w1.cell? ⟨wr.heap.size, 7, none⟩ = some (.int .i64 x.ed.site) := by rw [KE1.out.cell]; rfl
      have e8 : w1.cell? ⟨wr.heap.size, 8, none⟩ = some (.int .i64 x.ed.seq) := by rw [KE1.out.cell]; rfl
      have e10 : w1.cell? ⟨wr.heap.size, 10, none⟩ = some (.int .i64 x.ed.kind) := by rw [KE1.out.cell]; rfl
      clear m1 c0 c1 c2 c3 c4 c5 c6 c7 c8 c9 c10 c11 c12 c13 HM ME KE KE1 KX MX
      cases ho : editOk x.ed
      case false =>
        have HE := Lib.hid (HBAD.out (by unfold entOk; rw [ho]; rfl))
        go_wp2_with fail
        go_ret
        exact ⟨by rw [HE.out]; rfl, M1.out⟩
      by_cases h1 : x.ed.site = x.o.site
      case neg =>
        have HE := Lib.hid (HBAD.out (by unfold entOk; simp [h1]))
        have b1 : (x.ed.site == x.o.site) = false := by simpa using h1
        go_wp2_with fail
        go_ret
        exact ⟨by rw [HE.out]; rfl, M1.out⟩
      by_cases h2 : x.ed.seq = x.o.seq
      case neg =>
        have HE := Lib.hid (HBAD.out (by unfold entOk; simp [h2]))
        have b2 : (x.ed.seq == x.o.seq) = false := by simpa using h2
        rw [h1] at e7
        clear h1
        go_wp2_with fail
        go_ret
        exact ⟨by rw [HE.out]; rfl, M1.out⟩
      by_cases h3 : x.ed.kind = x.o.kind
      case neg =>
        have HE := Lib.hid (HBAD.out (by unfold entOk; simp [h3]))
        have b3 : (x.ed.kind == x.o.kind) = false := by simpa using h3
        rw [h1] at e7
        rw [h2] at e8
        clear h1 h2
        go_wp2_with fail
        go_ret
        exact ⟨by rw [HE.out]; rfl, M1.out⟩
      have HG := Lib.hid (HALL.out (by unfold entOk; rw [ho]; simp [h1, h2, h3]))
      rw [h1] at e7
      rw [h2] at e8
      rw [h3] at e10
      clear h1 h2 h3
      go_wp2_with fail
      go_roundg (xll - (k + 1))
      all_goals first
        | omega
        | exact ⟨k + 1, rfl, by go_num, by omega, M1.out, Lib.hid ⟨K1.out, HG.out⟩⟩
    · have hkl : k = xll := by omega
      rw [List.take_of_length_le (by rw [HN.out]; omega)] at hall
      have f0 := HC0.out wr kx
      have f1 := HC1.out wr kx
      have f2 := HC2.out wr kx
      have f3 := HC3.out wr kx
      have f4 := HC4.out wr kx
      have ha := hall_any wr.drew ⟨xba, xbl, xbc, xva, xvl, xvc, xfr, xnum, xla, xll, xlc⟩ E ((H.out.grown mx).grown (Mine.Mod.drew (Mine.Mod.refl none_ wr))) (by show xll ≤ 100000; omega)
      have HA := Lib.hid ha
      have KX := Lib.hid kx
      clear kx mx hst ha
      go_upto_region 7 with fail
      refine wp_region_held_drew (S := fun w' => w'.cell? ⟨K, 0, none⟩ = some (.slice xba xbl xbc) ∧ w'.cell? ⟨K, 1, none⟩ = some (.slice xva xvl xvc) ∧ w'.cell? ⟨K, 2, none⟩ = some (.int .i64 xfr) ∧ w'.cell? ⟨K, 3, none⟩ = some (.int .i64 xnum) ∧ w'.cell? ⟨K, 4, none⟩ = some (.slice xla xll xlc)) (by kernel_rfl) ⟨f0, f1, f2, f3, f4⟩ (fun hS => ?_)
      refine wpAnyH_take (i := 0) (v := .agg #[.slice xba xbl xbc, .slice xva xvl xvc, .int .i64 xfr, .int .i64 xnum, .slice xla xll xlc]) rfl (by kernel_rfl) (by kernel_rfl) (by kernel_rfl) (fun _ _ _ h => h) (Or.inl ⟨by kernel_rfl, ?_⟩) hS ?_
      · rintro w' ⟨q0, q1, q2, q3, q4⟩; go_simp
      try simp only [Act.put, List.setIfInBounds_toArray, List.set_cons_zero, List.set_cons_succ]
      refine wpAnyH_take (i := 2) (v := .pointer (some ⟨K, 0, none⟩)) rfl (by kernel_rfl) (by kernel_rfl) (by kernel_rfl) (fun _ _ _ h => h) (Or.inl ⟨by kernel_rfl, ?_⟩) hS ?_
      · rintro w' ⟨q0, q1, q2, q3, q4⟩; go_simp
      try simp only [Act.put, List.setIfInBounds_toArray, List.set_cons_zero, List.set_cons_succ]
      refine wpAnyH_take (i := 3) (v := .slice xba xbl xbc) rfl (by kernel_rfl) (by kernel_rfl) (by kernel_rfl) (fun _ _ _ h => h) (Or.inl ⟨by kernel_rfl, ?_⟩) hS ?_
      · rintro w' ⟨q0, q1, q2, q3, q4⟩; go_simp
      try simp only [Act.put, List.setIfInBounds_toArray, List.set_cons_zero, List.set_cons_succ]
      refine wpAnyH_take (i := 4) (v := .int .i64 (xbl : Int)) rfl (by kernel_rfl) (by kernel_rfl) (by kernel_rfl) (fun _ _ _ h => h) (Or.inl ⟨by kernel_rfl, ?_⟩) hS ?_
      · rintro w' ⟨q0, q1, q2, q3, q4⟩; go_simp
      try simp only [Act.put, List.setIfInBounds_toArray, List.set_cons_zero, List.set_cons_succ]
      refine wpAnyH_ready (rs := [1]) (by kernel_rfl) (by simp) (AllReadyH.cons rfl (fun K hK => ?_) <| AllReadyH.nil)
      go_simp
      refine HA.out.mono ?_
      rintro e w1 ⟨⟨va, n, vc, rfl, ho⟩, m1⟩
      have MA := Lib.hid m1
      have KA := Lib.hid ((KX.out.mod (Mine.Mod.drew (Mine.Mod.refl none_ wr)) (fun e => e)).mod m1 (fun e => e))
      have HO := Lib.hid (own_ops ho (fun y hy => by obtain ⟨z, hz, rfl⟩ := List.mem_map.1 hy; exact (((H.out.grown MX.out).ok z hz).1.grown (Mine.Mod.drew (Mine.Mod.refl none_ wr))).grown m1))
      refine hK.out _ _ ⟨HC0.out _ KA.out, HC1.out _ KA.out, HC2.out _ KA.out, HC3.out _ KA.out, HC4.out _ KA.out⟩ (fun hS => ?_)
      clear hK K
      try simp only [Act.put, List.setIfInBounds_toArray, List.set_cons_zero, List.set_cons_succ]
      clear ho m1
      refine wpAnyH_ready (rs := [5]) (by kernel_rfl) (by simp) (AllReadyH.cons rfl (fun K hK => ?_) <| AllReadyH.nil)
      go_simp
      refine (listRun_any w1 va n vc (opsOf E) (xbl : Int) HO.out).mono ?_
      rintro e w2 ⟨rfl, m2⟩
      have M2 := Lib.hid ((MX.out.trans (Mine.Mod.drew (Mine.Mod.refl none_ wr))).trans (MA.out.trans m2))
      have KB := Lib.hid (KA.out.mod m2 (fun e => e))
      clear m2
      obtain ⟨ov, hov⟩ := listV_shape (opsOf E) (xbl : Int)
      rw [hov]
      obtain ⟨ob, hob⟩ : ∃ ob, ob = (listRun (opsOf E) (xbl : Int)).isSome := ⟨_, rfl⟩
      rw [← hob]
      have HE := Lib.hid (show R = ob by rw [HB.out, hob]; unfold entsOk; rw [hall]; rfl)
      clear hov hob
      refine hK.out _ _ ⟨HC0.out _ KB.out, HC1.out _ KB.out, HC2.out _ KB.out, HC3.out _ KB.out, HC4.out _ KB.out⟩ (fun hS => ?_)
      clear hK K
      try simp only [Act.put, List.setIfInBounds_toArray, List.set_cons_zero, List.set_cons_succ]
      refine wpAnyH_take (i := 6) (v := .tuple #[.int .i64 ov, .bool ob]) rfl (by kernel_rfl) (by kernel_rfl) (by kernel_rfl) (fun _ _ _ h => h) (Or.inl ⟨by kernel_rfl, ?_⟩) hS ?_
      · rintro w' ⟨q0, q1, q2, q3, q4⟩; go_simp
      try simp only [Act.put, List.setIfInBounds_toArray, List.set_cons_zero, List.set_cons_succ]
      refine wpAnyH_take (i := 7) (v := .int .i64 ov) rfl (by kernel_rfl) (by kernel_rfl) (by kernel_rfl) (fun _ _ _ h => h) (Or.inl ⟨by kernel_rfl, ?_⟩) hS ?_
      · rintro w' ⟨q0, q1, q2, q3, q4⟩; go_simp
      try simp only [Act.put, List.setIfInBounds_toArray, List.set_cons_zero, List.set_cons_succ]
      refine wpAnyH_take (i := 8) (v := .bool ob) rfl (by kernel_rfl) (by kernel_rfl) (by kernel_rfl) (fun _ _ _ h => h) (Or.inl ⟨by kernel_rfl, ?_⟩) hS ?_
      · rintro w' ⟨q0, q1, q2, q3, q4⟩; go_simp
      try simp only [Act.put, List.setIfInBounds_toArray, List.set_cons_zero, List.set_cons_succ]
      refine wpAnyH_take (i := 9) (v := .int .i64 ov) rfl (by kernel_rfl) (by kernel_rfl) (by kernel_rfl) (fun _ _ _ h => h) (Or.inl ⟨by kernel_rfl, ?_⟩) hS ?_
      · rintro w' ⟨q0, q1, q2, q3, q4⟩; go_simp
      try simp only [Act.put, List.setIfInBounds_toArray, List.set_cons_zero, List.set_cons_succ]
      refine wpAnyH_take (i := 10) (v := .bool ob) rfl (by kernel_rfl) (by kernel_rfl) (by kernel_rfl) (fun _ _ _ h => h) (Or.inl ⟨by kernel_rfl, ?_⟩) hS ?_
      · rintro w' ⟨q0, q1, q2, q3, q4⟩; go_simp
      try simp only [Act.put, List.setIfInBounds_toArray, List.set_cons_zero, List.set_cons_succ]
      refine wpAnyH_done (by kernel_rfl) ?_ _
      try simp only [List.getElem_toArray, List.getElem_cons_succ, List.getElem_cons_zero]
      try simp only [Act.put, List.setIfInBounds_toArray, List.set_cons_zero, List.set_cons_succ]
      go_wp2_with fail
      go_ret
      exact ⟨by rw [HE.out]; rfl, M2.out⟩

end Go.Proofs.YtlidmajcdjlcnaaGreatDoor

namespace Go.Proofs.YtlidmajcdjlcnaaGreatDoor
open Go.RowKit Go.Shelf Go.Mine
open Classical

theorem own_shape {w : World} {B e size n : Nat} {v : Value} {xs : List Value} (h : w.ownsRow B e size v n xs) : ∃ va vc, v = .slice va n vc := by
  rcases ownsRow_blk h with ⟨h1, h0, _⟩ | ⟨g, c, _, h1, _⟩
  · exact ⟨none, 0, by rw [h1, h0]⟩
  · exact ⟨_, c, h1⟩
abbrev spC (x : Int × Int) : List Value := [.int .i64 x.1, .int .i64 x.2]
theorem spC_len (x : Int × Int) : (spC x).length = 2 := rfl
theorem spC_ones (l : List (Int × Int)) : ∀ v ∈ flat spC l, v.oneCell' = true := by
  intro v hv
  unfold flat at hv
  obtain ⟨c, _, hc⟩ := List.mem_flatMap.1 hv
  simp only [spC, List.mem_cons, List.not_mem_nil, or_false] at hc
  rcases hc with rfl | rfl <;> rfl
theorem intCs_ones (l : List Int) : ∀ v ∈ intCs l, v.oneCell' = true := by
  intro v hv
  obtain ⟨c, _, rfl⟩ := List.mem_map.1 hv
  rfl
theorem infoSpanC : (Tryz.prog.info? 49).map (fun i => (i.zero, i.size, i.bytes)) = some (some (.agg #[.int .i64 0, .int .i64 0]), 2, 16) := by kernel_rfl
theorem IsVec.row {w : World} {b off len cap : Nat} {l : List Int} (h : IsVec w (some ⟨b, off, none⟩) len cap l) : w.rangeAt b off (intCs l) := by
  intro j v hv
  rw [List.getElem?_map] at hv
  cases hx : l[j]? with
  | none => rw [hx] at hv; cases hv
  | some x =>
    rw [hx] at hv
    cases hv
    obtain ⟨b', off', e, hc⟩ := h.cells j x hx
    cases e
    exact hc
theorem IsSpans.row {w : World} {b off len cap : Nat} {l : List (Int × Int)} (h : IsSpans w (some ⟨b, off, none⟩) len cap l) : w.rangeAt b off (flat spC l) := by
  intro j v hv
  have hj : j < l.length * 2 := by
    have := (List.getElem?_eq_some_iff.1 hv).1
    rw [flat_length spC_len] at this; exact this
  have hi : j / 2 < l.length := by omega
  have hx : l[j / 2]? = some (l[j / 2]'hi) := List.getElem?_eq_getElem _
  obtain ⟨b', off', e, h0, h1⟩ := h.cells (j / 2) _ hx
  cases e
  have hg := flat_get spC_len l (j / 2) (j % 2) _ hx (Nat.mod_lt _ (by decide))
  rw [show j / 2 * 2 + j % 2 = j by omega, hv] at hg
  rcases Nat.mod_two_eq_zero_or_one j with hm | hm
  · rw [hm] at hg
    cases hg
    rw [show off + j = off + j / 2 * 2 by omega]
    exact h0
  · rw [hm] at hg
    cases hg
    rw [show off + j = off + j / 2 * 2 + 1 by omega]
    exact h1
theorem own_spans {w : World} {B n vc : Nat} {va : Option Addr} {l : List (Int × Int)} (h : w.ownsRow B 49 2 (.slice va n vc) n (flat spC l)) (ok : ∀ x ∈ l, (-9223372036854775808 ≤ x.1 ∧ x.1 ≤ 9223372036854775807) ∧ (-9223372036854775808 ≤ x.2 ∧ x.2 ≤ 9223372036854775807)) : IsSpans w va n vc l := by
  have hl := h.1
  rw [flat_length spC_len] at hl
  rcases ownsRow_blk h with ⟨h1, h2, h3⟩ | ⟨g, cap, more, h1, _, hb, hc, hm, _⟩
  · cases h1
    have : l = [] := List.eq_nil_of_length_eq_zero (by omega)
    subst this
    exact ⟨rfl, Nat.le_refl _, Nat.zero_le _, ok, fun i x hx => by simp at hx⟩
  · cases h1
    refine ⟨by omega, hc, hm, ok, fun i x hx => ⟨g, 0, rfl, ?_, ?_⟩⟩
    · rw [Nat.zero_add]
      have := Blk.elem spC_len hb i 0 x hx (by decide)
      rw [Nat.add_zero] at this
      rw [this]; rfl
    · rw [Nat.zero_add]
      have := Blk.elem spC_len hb i 1 x hx (by decide)
      rw [this]; rfl

set_option maxHeartbeats 4000000 in
set_option maxRecDepth 1000000 in
theorem cloneC_any (w : World) (a : Option Addr) (len cap : Nat) (l : List CellV) (h : IsCells w a len cap l) (hlen : len ≤ 1099511627776) :
    Calls Tryz.prog 66 #[.slice a len cap] w fun e w' => ∃ va vc, e = .returned (.slice va len vc) ∧ w'.ownsRow w.heap.size 47 5 (.slice va len vc) len (flat CellV.cs l) ∧ Mine.Mod none_ w w' := by
  obtain ⟨i0, hi0, hz0, hz1, hz2⟩ := info_parts infoCell
  have hN := h.n
  have qT : ∀ (w : World) (a : Option Addr) (n c n' c' : Nat), (binOp .eql 22 (.slice a n c) (.slice none n' c')).run Tryz.prog w = .ok (.bool a.isNone) w := fun w a n c n' c' => Lib.run_eql_slice_nil w _ _ a n c n' c' Tryz.underlying22
  cases a with
  | none =>
    have h0 : l = [] := by
      cases l with
      | nil => rfl
      | cons x r => obtain ⟨b, off, e, _⟩ := h.cells 0 x rfl; cases e
    subst h0
    have hl0 : len = 0 := by rw [← hN]; rfl
    subst hl0
    clear h
    go_enter Tryz.func66, Tryz.ntmps66
    go_wp2_with fail
    go_ret
    exact ⟨none, 0, rfl, ⟨rfl, .inl ⟨rfl, rfl⟩⟩, Mine.Mod.refl _ _⟩
  | some ad =>
  have O0 := World.ownsRow_made (base := w.heap.size) (e := 47) (size := 5) w #[] 0 (Nat.le_refl _) (by unfold maxLen; omega) rfl
  have mA := (Mine.Mod.refl none_ w).alloc (.cells #[] 47)
  have RW := Lib.hid (show ∀ (j : Nat) (u : Value), (flat CellV.cs l)[j]? = some u → (w.alloc (.cells #[] 47)).cell? (ad.add j) = some u from by
    rcases l with _ | ⟨x, r⟩
    · intro j u hu
      cases (show (none : Option Value) = some u from hu)
    · obtain ⟨b, off, e, _⟩ := h.cells 0 x rfl
      cases e
      intro j u hu
      rw [Addr.add_lit]
      exact (h.grown mA).row j u hu)
  have hfl : (flat CellV.cs l).length = len * 5 := by rw [flat_length CellV.len, hN]
  have MA := Lib.hid mA
  have OO := Lib.hid O0
  have HF := Lib.hid hfl
  clear h mA O0 hfl
  go_enter Tryz.func66, Tryz.ntmps66
  go_wp2_with (at_builtin; refine wpList_append_own _ rfl (.tmp 5) (.tmp 6) 22 rfl w.heap.size 47 i0 _ 5 32 Tryz.underlying22 hi0 hz0 hz1 hz2 rfl (by decide) _ 0 [] rfl (by exact OO.out) ad len cap (flat CellV.cs l) rfl (by exact HF.out) (by exact RW.out) (flat_ones l) (by unfold maxLen; omega) (by omega) (by simp) ?_; intro v' w1 ho hg _; have OV := Lib.hid ho; have MV := Lib.hid (MA.out.grown hg (fun k e hk => by have := (OO.out.lt k e).1; omega)); clear ho hg)
  go_ret
  have ho := OV.out
  rw [Nat.zero_add, List.nil_append] at ho
  obtain ⟨va, vc, rfl⟩ := own_shape ho
  exact ⟨va, vc, rfl, ho, MV.out⟩

set_option maxHeartbeats 4000000 in
set_option maxRecDepth 1000000 in
theorem cloneI_any (w : World) (a : Option Addr) (len cap : Nat) (l : List Int) (h : IsVec w a len cap l) (hlen : len ≤ 1099511627776) :
    Calls Tryz.prog 47 #[.slice a len cap] w fun e w' => ∃ va vc, e = .returned (.slice va len vc) ∧ w'.ownsRow w.heap.size 3 1 (.slice va len vc) len (intCs l) ∧ Mine.Mod none_ w w' := by
  obtain ⟨i0, hi0, hz0, hz1, hz2⟩ := info_parts infoInt
  have hN := h.n
  have qT : ∀ (w : World) (a : Option Addr) (n c n' c' : Nat), (binOp .eql 23 (.slice a n c) (.slice none n' c')).run Tryz.prog w = .ok (.bool a.isNone) w := fun w a n c n' c' => Lib.run_eql_slice_nil w _ _ a n c n' c' Tryz.underlying23
  cases a with
  | none =>
    have h0 : l = [] := by
      cases l with
      | nil => rfl
      | cons x r => obtain ⟨b, off, e, _⟩ := h.cells 0 x rfl; cases e
    subst h0
    have hl0 : len = 0 := by rw [← hN]; rfl
    subst hl0
    clear h
    go_enter Tryz.func47, Tryz.ntmps47
    go_wp2_with fail
    go_ret
    exact ⟨none, 0, rfl, ⟨rfl, .inl ⟨rfl, rfl⟩⟩, Mine.Mod.refl _ _⟩
  | some ad =>
  have O0 := World.ownsRow_made (base := w.heap.size) (e := 3) (size := 1) w #[] 0 (Nat.le_refl _) (by unfold maxLen; omega) rfl
  have mA := (Mine.Mod.refl none_ w).alloc (.cells #[] 3)
  have RW := Lib.hid (show ∀ (j : Nat) (u : Value), (intCs l)[j]? = some u → (w.alloc (.cells #[] 3)).cell? (ad.add j) = some u from by
    rcases l with _ | ⟨x, r⟩
    · intro j u hu
      cases (show (none : Option Value) = some u from hu)
    · obtain ⟨b, off, e, _⟩ := h.cells 0 x rfl
      cases e
      intro j u hu
      rw [Addr.add_lit]
      exact (h.grown mA).row j u hu)
  have hfl : (intCs l).length = len * 1 := by rw [List.length_map, hN, Nat.mul_one]
  have MA := Lib.hid mA
  have OO := Lib.hid O0
  have HF := Lib.hid hfl
  clear h mA O0 hfl
  go_enter Tryz.func47, Tryz.ntmps47
  go_wp2_with (at_builtin; refine wpList_append_own _ rfl (.tmp 5) (.tmp 6) 23 rfl w.heap.size 3 i0 _ 1 8 Tryz.underlying23 hi0 hz0 hz1 hz2 rfl (by decide) _ 0 [] rfl (by exact OO.out) ad len cap (intCs l) rfl (by exact HF.out) (by exact RW.out) (intCs_ones l) (by unfold maxLen; omega) (by omega) (by simp) ?_; intro v' w1 ho hg _; have OV := Lib.hid ho; have MV := Lib.hid (MA.out.grown hg (fun k e hk => by have := (OO.out.lt k e).1; omega)); clear ho hg)
  go_ret
  have ho := OV.out
  rw [Nat.zero_add, List.nil_append] at ho
  obtain ⟨va, vc, rfl⟩ := own_shape ho
  exact ⟨va, vc, rfl, ho, MV.out⟩

set_option maxHeartbeats 4000000 in
set_option maxRecDepth 1000000 in
theorem cloneS_any (w : World) (a : Option Addr) (len cap : Nat) (l : List (Int × Int)) (h : IsSpans w a len cap l) (hlen : len ≤ 1099511627776) :
    Calls Tryz.prog 67 #[.slice a len cap] w fun e w' => ∃ va vc, e = .returned (.slice va len vc) ∧ w'.ownsRow w.heap.size 49 2 (.slice va len vc) len (flat spC l) ∧ Mine.Mod none_ w w' := by
  obtain ⟨i0, hi0, hz0, hz1, hz2⟩ := info_parts infoSpanC
  have hN := h.n
  have qT : ∀ (w : World) (a : Option Addr) (n c n' c' : Nat), (binOp .eql 29 (.slice a n c) (.slice none n' c')).run Tryz.prog w = .ok (.bool a.isNone) w := fun w a n c n' c' => Lib.run_eql_slice_nil w _ _ a n c n' c' Tryz.underlying29
  cases a with
  | none =>
    have h0 : l = [] := by
      cases l with
      | nil => rfl
      | cons x r => obtain ⟨b, off, e, _⟩ := h.cells 0 x rfl; cases e
    subst h0
    have hl0 : len = 0 := by rw [← hN]; rfl
    subst hl0
    clear h
    go_enter Tryz.func67, Tryz.ntmps67
    go_wp2_with fail
    go_ret
    exact ⟨none, 0, rfl, ⟨rfl, .inl ⟨rfl, rfl⟩⟩, Mine.Mod.refl _ _⟩
  | some ad =>
  have O0 := World.ownsRow_made (base := w.heap.size) (e := 49) (size := 2) w #[] 0 (Nat.le_refl _) (by unfold maxLen; omega) rfl
  have mA := (Mine.Mod.refl none_ w).alloc (.cells #[] 49)
  have RW := Lib.hid (show ∀ (j : Nat) (u : Value), (flat spC l)[j]? = some u → (w.alloc (.cells #[] 49)).cell? (ad.add j) = some u from by
    rcases l with _ | ⟨x, r⟩
    · intro j u hu
      cases (show (none : Option Value) = some u from hu)
    · obtain ⟨b, off, e, _⟩ := h.cells 0 x rfl
      cases e
      intro j u hu
      rw [Addr.add_lit]
      exact (h.grown mA).row j u hu)
  have hfl : (flat spC l).length = len * 2 := by rw [flat_length spC_len, hN]
  have MA := Lib.hid mA
  have OO := Lib.hid O0
  have HF := Lib.hid hfl
  clear h mA O0 hfl
  go_enter Tryz.func67, Tryz.ntmps67
  go_wp2_with (at_builtin; refine wpList_append_own _ rfl (.tmp 5) (.tmp 6) 29 rfl w.heap.size 49 i0 _ 2 16 Tryz.underlying29 hi0 hz0 hz1 hz2 rfl (by decide) _ 0 [] rfl (by exact OO.out) ad len cap (flat spC l) rfl (by exact HF.out) (by exact RW.out) (spC_ones l) (by unfold maxLen; omega) (by omega) (by simp) ?_; intro v' w1 ho hg _; have OV := Lib.hid ho; have MV := Lib.hid (MA.out.grown hg (fun k e hk => by have := (OO.out.lt k e).1; omega)); clear ho hg)
  go_ret
  have ho := OV.out
  rw [Nat.zero_add, List.nil_append] at ho
  obtain ⟨va, vc, rfl⟩ := own_shape ho
  exact ⟨va, vc, rfl, ho, MV.out⟩

end Go.Proofs.YtlidmajcdjlcnaaGreatDoor

namespace Go.Proofs.YtlidmajcdjlcnaaGreatDoor
open Go.RowKit Go.Shelf Go.Mine
open Classical

theorem Tryz.hhSize : (Tryz.prog.info? 39).map (·.size) = some 5 := by kernel_rfl
theorem results_hh1 {fn : Func} {p : Tmp} (h : fn.results = #[.cell p 39]) (tmps : Array Value) (w : World) (g : Nat) (cs : List Value) (hp : tmps.getD p undef = .pointer (some ⟨g, 0, none⟩)) (hl : cs.length = 5) (hr : w.rangeAt g 0 cs) :
    (results fn tmps).run Tryz.prog w = .ok (.agg cs.toArray) w := by
  have := run_loadVar_mid (P := Tryz.prog) w g 0 39 cs _ hr Tryz.underlying39 rfl (by rw [hl]; exact Tryz.hhSize)
  have hp' : tmps[p]?.getD undef = .pointer (some ⟨g, 0, none⟩) := by simpa using hp
  simp [results, h, hp', asAddr, this, Result.andThen]
theorem results_hht {fn : Func} {p u : Tmp} (h : fn.results = #[.cell p 39, .tmp u]) (tmps : Array Value) (w : World) (g : Nat) (cs : List Value) (hp : tmps.getD p undef = .pointer (some ⟨g, 0, none⟩)) (hl : cs.length = 5) (hr : w.rangeAt g 0 cs) :
    (results fn tmps).run Tryz.prog w = .ok (.tuple #[.agg cs.toArray, tmps.getD u undef]) w := by
  rw [results_cell_tmp h, hp]
  have := run_loadVar_mid (P := Tryz.prog) w g 0 39 cs _ hr Tryz.underlying39 rfl (by rw [hl]; exact Tryz.hhSize)
  simp [asAddr, this, Result.andThen]
theorem Tryz.ooSize : (Tryz.prog.info? 31).map (·.size) = some 7 := by kernel_rfl
theorem results_oo1 {fn : Func} {p : Tmp} (h : fn.results = #[.cell p 31]) (tmps : Array Value) (w : World) (g : Nat) (cs : List Value) (hp : tmps.getD p undef = .pointer (some ⟨g, 0, none⟩)) (hl : cs.length = 7) (hr : w.rangeAt g 0 cs) :
    (results fn tmps).run Tryz.prog w = .ok (.agg cs.toArray) w := by
  have := run_loadVar_mid (P := Tryz.prog) w g 0 31 cs _ hr Tryz.underlying31 rfl (by rw [hl]; exact Tryz.ooSize)
  have hp' : tmps[p]?.getD undef = .pointer (some ⟨g, 0, none⟩) := by simpa using hp
  simp [results, h, hp', asAddr, this, Result.andThen]
set_option maxHeartbeats 4000000 in
set_option maxRecDepth 1000000 in
theorem of_hist (w : World) (h : HistV) : Calls Tryz.prog 12 #[h.v] w fun e w' => e = .returned h.v ∧ Mine.Mod none_ w w' := by
  obtain ⟨xba, xbl, xbc, xva, xvl, xvc, xfr, xnum, xla, xll, xlc⟩ := h
  obtain ⟨W0, hW0⟩ : ∃ W0, (w.alloc (.cells #[.slice xba xbl xbc, .slice xva xvl xvc, .int .i64 xfr, .int .i64 xnum, .slice xla xll xlc] 26)).alloc (.cells #[.slice none 0 0, .slice none 0 0, .int .i64 0, .int .i64 0, .slice none 0 0] 39) = W0 := ⟨_, rfl⟩
  have m0 : Mine.Mod none_ w W0 := by rw [← hW0]; exact ((Mine.Mod.refl none_ w).alloc _).alloc _
  have k0 : Blk W0 w.heap.size [.slice xba xbl xbc, .slice xva xvl xvc, .int .i64 xfr, .int .i64 xnum, .slice xla xll xlc] 26 := by
    rw [← hW0]
    exact (Blk.new (w := w) (cs := [.slice xba xbl xbc, .slice xva xvl xvc, .int .i64 xfr, .int .i64 xnum, .slice xla xll xlc]) (t := 26)).mod ((Mine.Mod.refl none_ _).alloc _) (fun e => e)
  have k1 : Blk W0 (w.heap.size + 1) [.slice none 0 0, .slice none 0 0, .int .i64 0, .int .i64 0, .slice none 0 0] 39 := by
    have := Blk.new (w := w.alloc (.cells #[.slice xba xbl xbc, .slice xva xvl xvc, .int .i64 xfr, .int .i64 xnum, .slice xla xll xlc] 26)) (cs := [.slice none 0 0, .slice none 0 0, .int .i64 0, .int .i64 0, .slice none 0 0]) (t := 39)
    rw [World.size_alloc] at this
    rw [← hW0]
    exact this
  have a0 := k0.cell 0
  have a1 := k0.cell 1
  have a2 := k0.cell 2
  have a3 := k0.cell 3
  have a4 := k0.cell 4
  simp only [List.getElem?_cons_zero, List.getElem?_cons_succ] at a0 a1 a2 a3 a4
  have d0 := k1.cell 0
  have d1 := k1.cell 1
  have d2 := k1.cell 2
  have d3 := k1.cell 3
  have d4 := k1.cell 4
  simp only [List.getElem?_cons_zero, List.getElem?_cons_succ] at d0 d1 d2 d3 d4
  have r0 := k1.frozen 0
  have r1 := k1.frozen 1
  have r2 := k1.frozen 2
  have r3 := k1.frozen 3
  have r4 := k1.frozen 4
  have KF := Lib.hid (((((k1.set 0 (.slice xba xbl xbc)).set 1 (.slice xva xvl xvc)).set 2 (.int .i64 xfr)).set 3 (.int .i64 xnum)).set 4 (.slice xla xll xlc))
  have MF := Lib.hid (((((m0.setCell ⟨w.heap.size + 1, 0, none⟩ (fun h => absurd h (by simp)) (.slice xba xbl xbc)).setCell ⟨w.heap.size + 1, 1, none⟩ (fun h => absurd h (by simp)) (.slice xva xvl xvc)).setCell ⟨w.heap.size + 1, 2, none⟩ (fun h => absurd h (by simp)) (.int .i64 xfr)).setCell ⟨w.heap.size + 1, 3, none⟩ (fun h => absurd h (by simp)) (.int .i64 xnum)).setCell ⟨w.heap.size + 1, 4, none⟩ (fun h => absurd h (by simp)) (.slice xla xll xlc))
  clear k0 k1 m0
  go_enter Tryz.func12, Tryz.ntmps12
  go_upto_region 1 with fail
  clear hW0
  go_wp2_with fail
  exact bodyPost_ret (results_hh1 rfl _ _ (w.heap.size + 1) [.slice xba xbl xbc, .slice xva xvl xvc, .int .i64 xfr, .int .i64 xnum, .slice xla xll xlc] rfl rfl (blk_range KF.out)) rfl ⟨rfl, MF.out⟩

set_option maxHeartbeats 4000000 in
set_option maxRecDepth 1000000 in
theorem copied_any (w : World) (x : OpS) (h : x.o.ok w x.sp) (hl : x.o.slen ≤ 1099511627776) :
    Calls Tryz.prog 39 #[x.o.v] w fun e w' => ∃ va vc, e = .returned (.agg #[.int .i64 x.o.site, .int .i64 x.o.seq, .int .i64 x.o.num, .int .i64 x.o.kind, .int .i64 x.o.at_, .string x.o.text, .slice va x.o.slen vc]) ∧ w'.ownsRow w.heap.size 49 2 (.slice va x.o.slen vc) x.o.slen (flat spC x.sp) ∧ Mine.Mod none_ w w' := by
  obtain ⟨W0, hW0⟩ : ∃ W0, (w.alloc (.cells #[.int .i64 x.o.site, .int .i64 x.o.seq, .int .i64 x.o.num, .int .i64 x.o.kind, .int .i64 x.o.at_, .string x.o.text, .slice x.o.sa x.o.slen x.o.scap] 31)).alloc (.cells #[.int .i64 0, .int .i64 0, .int .i64 0, .int .i64 0, .int .i64 0, .string ⟨#[]⟩, .slice none 0 0] 31) = W0 := ⟨_, rfl⟩
  have m0 : Mine.Mod none_ w W0 := by rw [← hW0]; exact ((Mine.Mod.refl none_ w).alloc _).alloc _
  have k0 : Blk W0 w.heap.size [.int .i64 x.o.site, .int .i64 x.o.seq, .int .i64 x.o.num, .int .i64 x.o.kind, .int .i64 x.o.at_, .string x.o.text, .slice x.o.sa x.o.slen x.o.scap] 31 := by
    rw [← hW0]
    exact (Blk.new (w := w) (cs := [.int .i64 x.o.site, .int .i64 x.o.seq, .int .i64 x.o.num, .int .i64 x.o.kind, .int .i64 x.o.at_, .string x.o.text, .slice x.o.sa x.o.slen x.o.scap]) (t := 31)).mod ((Mine.Mod.refl none_ _).alloc _) (fun e => e)
  have k1 : Blk W0 (w.heap.size + 1) [.int .i64 0, .int .i64 0, .int .i64 0, .int .i64 0, .int .i64 0, .string ⟨#[]⟩, .slice none 0 0] 31 := by
    have := Blk.new (w := w.alloc (.cells #[.int .i64 x.o.site, .int .i64 x.o.seq, .int .i64 x.o.num, .int .i64 x.o.kind, .int .i64 x.o.at_, .string x.o.text, .slice x.o.sa x.o.slen x.o.scap] 31)) (cs := [.int .i64 0, .int .i64 0, .int .i64 0, .int .i64 0, .int .i64 0, .string ⟨#[]⟩, .slice none 0 0]) (t := 31)
    rw [World.size_alloc] at this
    rw [← hW0]
    exact this
  have HC := Lib.hid (cloneS_any W0 x.o.sa x.o.slen x.o.scap x.sp (h.sp.grown m0) hl)
  have hK0 := m0.size
  have M0 := Lib.hid m0
  have K0 := Lib.hid k0
  have K1 := Lib.hid k1
  have hs0 : W0.heap.size = w.heap.size + 1 + 1 := by rw [← hW0, World.size_alloc, World.size_alloc]
  have HS0 := Lib.hid hs0
  have a6 := k0.cell 6
  simp only [List.getElem?_cons_zero, List.getElem?_cons_succ] at a6
  clear k0 k1 m0 h hs0 hK0
  go_enter Tryz.func39, Tryz.ntmps39
  go_upto_region 1 with fail
  clear hW0
  go_wp2_with fail
  refine HC.out.mono ?_
  rintro e w1 ⟨va, vc, rfl, ho, m1⟩
  have j0 := K0.out.mod m1 (fun e => e)
  have f6 := j0.frozen 6
  have b6 := j0.cell 6
  simp only [List.getElem?_cons_zero, List.getElem?_cons_succ] at b6
  have mS := (Mine.Mod.refl (one w.heap.size) w1).setCell ⟨w.heap.size, 6, none⟩ (fun _ => rfl) (.slice va x.o.slen vc)
  have j2 := j0.set 6 (.slice va x.o.slen vc)
  have j1 := (K1.out.mod m1 (fun e => e)).mod mS (fun e => by have e' : w.heap.size + 1 = w.heap.size := e; omega)
  have MW := Lib.hid ((M0.out.trans m1).transIn mS (fun b hb e => by have e' : b = w.heap.size := e; omega))
  have hs1 := m1.size
  have HO := Lib.hid (ownsRow_mod ho mS (fun k hk e => by have e' : k = w.heap.size := e; have := (ho.lt k hk).1; rw [HS0.out] at this; omega))
  obtain ⟨w2, hw2⟩ : ∃ w2, w1.setCell ⟨w.heap.size, 6, none⟩ (.slice va x.o.slen vc) = w2 := ⟨_, rfl⟩
  rw [hw2] at j1 j2 MW HO
  have J1 := Lib.hid j1
  have J2 := Lib.hid j2
  clear a6 HC ho m1 j0 j1 j2 mS M0 K0 K1 hs1
  go_upto_region 2 with fail
  clear hw2 f6 b6
  have a := J2.out
  have b := J1.out
  dsimp only [List.set_cons_zero, List.set_cons_succ] at a
  have a0 := a.cell 0
  have a1 := a.cell 1
  have a2 := a.cell 2
  have a3 := a.cell 3
  have a4 := a.cell 4
  have a5 := a.cell 5
  have a6 := a.cell 6
  simp only [List.getElem?_cons_zero, List.getElem?_cons_succ] at a0 a1 a2 a3 a4 a5 a6
  have d0 := b.cell 0
  have d1 := b.cell 1
  have d2 := b.cell 2
  have d3 := b.cell 3
  have d4 := b.cell 4
  have d5 := b.cell 5
  have d6 := b.cell 6
  simp only [List.getElem?_cons_zero, List.getElem?_cons_succ] at d0 d1 d2 d3 d4 d5 d6
  have r0 := b.frozen 0
  have r1 := b.frozen 1
  have r2 := b.frozen 2
  have r3 := b.frozen 3
  have r4 := b.frozen 4
  have r5 := b.frozen 5
  have r6 := b.frozen 6
  have KF := Lib.hid (((((((b.set 0 (.int .i64 x.o.site)).set 1 (.int .i64 x.o.seq)).set 2 (.int .i64 x.o.num)).set 3 (.int .i64 x.o.kind)).set 4 (.int .i64 x.o.at_)).set 5 (.string x.o.text)).set 6 (.slice va x.o.slen vc))
  have mT := ((((((((Mine.Mod.refl (one (w.heap.size + 1)) w2).setCell ⟨w.heap.size + 1, 0, none⟩ (fun _ => rfl) (.int .i64 x.o.site)).setCell ⟨w.heap.size + 1, 1, none⟩ (fun _ => rfl) (.int .i64 x.o.seq)).setCell ⟨w.heap.size + 1, 2, none⟩ (fun _ => rfl) (.int .i64 x.o.num)).setCell ⟨w.heap.size + 1, 3, none⟩ (fun _ => rfl) (.int .i64 x.o.kind)).setCell ⟨w.heap.size + 1, 4, none⟩ (fun _ => rfl) (.int .i64 x.o.at_)).setCell ⟨w.heap.size + 1, 5, none⟩ (fun _ => rfl) (.string x.o.text)).setCell ⟨w.heap.size + 1, 6, none⟩ (fun _ => rfl) (.slice va x.o.slen vc))
  have MF := Lib.hid (MW.out.transIn mT (fun b hb e => by have e' : b = w.heap.size + 1 := e; omega))
  have HF := Lib.hid (ownsRow_mod HO.out mT (fun k hk e => by have e' : k = w.heap.size + 1 := e; have := (HO.out.lt k hk).1; rw [HS0.out] at this; omega))
  clear a b mT
  go_wp2_with fail
  exact bodyPost_ret (results_oo1 rfl _ _ (w.heap.size + 1) [.int .i64 x.o.site, .int .i64 x.o.seq, .int .i64 x.o.num, .int .i64 x.o.kind, .int .i64 x.o.at_, .string x.o.text, .slice va x.o.slen vc] rfl rfl (blk_range KF.out)) rfl ⟨va, vc, rfl, ownsRow_base HF.out (by rw [HS0.out]; omega), MF.out⟩

end Go.Proofs.YtlidmajcdjlcnaaGreatDoor

namespace Go.Proofs.YtlidmajcdjlcnaaGreatDoor
open Go.RowKit Go.Mine

end Go.Proofs.YtlidmajcdjlcnaaGreatDoor

namespace Go.Proofs.YtlidmajcdjlcnaaGreatDoor
open Go.RowKit Go.Shelf Go.Mine
open Classical

/-- An operation whose spans lie elsewhere. -/
abbrev OpS.at (x : OpS) (a : Option Addr) (c : Nat) : OpS := ⟨⟨x.o.site, x.o.seq, x.o.num, x.o.kind, x.o.at_, x.o.text, a, x.o.slen, c⟩, x.sp⟩
end Go.Proofs.YtlidmajcdjlcnaaGreatDoor

namespace Go.Proofs.YtlidmajcdjlcnaaGreatDoor
open Go.RowKit Go.Shelf Go.Mine
open Classical

theorem EntV.len (x : EntV) : x.cs.length = 14 := rfl
theorem EntV.ones (x : EntV) : ∀ v ∈ x.cs, v.oneCell' = true := by
  intro v hv
  simp only [EntV.cs, List.mem_cons, List.not_mem_nil, or_false] at hv
  rcases hv with rfl | rfl | rfl | rfl | rfl | rfl | rfl | rfl | rfl | rfl | rfl | rfl | rfl | rfl <;> rfl
/-- An entry whose spans lie elsewhere. -/
abbrev EntV.at (x : EntV) (a : Option Addr) (c : Nat) : EntV := ⟨⟨x.o.site, x.o.seq, x.o.num, x.o.kind, x.o.at_, x.o.text, a, x.o.slen, c⟩, x.sp, x.ed⟩
/-- Entries alike: the same but for where the spans lie. -/
def likeE (E E' : List EntV) : Prop := E'.length = E.length ∧ ∀ (i : Nat) (x : EntV), E[i]? = some x → ∃ a c, E'[i]? = some (x.at a c)
theorem likeE.refl (E : List EntV) : likeE E E := ⟨rfl, fun _ x hx => ⟨x.o.sa, x.o.scap, hx⟩⟩
theorem likeE.nil : likeE [] [] := likeE.refl []
theorem likeE.snoc {E E' : List EntV} (h : likeE E E') (x : EntV) (a : Option Addr) (c : Nat) : likeE (E ++ [x]) (E' ++ [x.at a c]) := by
  refine ⟨by simp [h.1], fun i y hy => ?_⟩
  by_cases hi : i < E.length
  · rw [List.getElem?_append_left hi] at hy
    rw [List.getElem?_append_left (by rw [h.1]; exact hi)]
    exact h.2 i y hy
  · rw [List.getElem?_append_right (by omega)] at hy
    rw [List.getElem?_append_right (by rw [h.1]; omega), h.1]
    have : i - E.length = 0 := by
      have := (List.getElem?_eq_some_iff.1 hy).1
      simp at this; omega
    rw [this] at hy ⊢
    cases hy
    exact ⟨a, c, rfl⟩
theorem likeE.cons {E E' : List EntV} {x : EntV} (h : likeE (x :: E) E') : ∃ a c r, E' = x.at a c :: r ∧ likeE E r := by
  obtain ⟨a, c, h0⟩ := h.2 0 x rfl
  cases E' with
  | nil => cases h0
  | cons y r =>
    obtain rfl := Option.some.inj h0
    exact ⟨a, c, r, rfl, by simpa using h.1, fun i z hz => h.2 (i + 1) z hz⟩
theorem likeE.nilr {E' : List EntV} (h : likeE [] E') : E' = [] := List.eq_nil_of_length_eq_zero h.1
theorem likeE.take {E E' : List EntV} (h : likeE E E') (k : Nat) : likeE (E.take k) (E'.take k) := by
  refine ⟨by simp [h.1], fun i x hx => ?_⟩
  rw [List.getElem?_take] at hx ⊢
  split at hx
  · rw [if_pos (by assumption)]; exact h.2 i x hx
  · cases hx
theorem likeE.back {E E' : List EntV} (h : likeE E E') {y : EntV} (hy : y ∈ E') : ∃ x ∈ E, ∃ a c, y = x.at a c := by
  obtain ⟨i, hi, e⟩ := List.getElem_of_mem hy
  have hi2 : i < E.length := by rw [← h.1]; exact hi
  obtain ⟨a, c, h2⟩ := h.2 i _ (List.getElem?_eq_getElem hi2)
  rw [List.getElem?_eq_getElem hi, e] at h2
  exact ⟨E[i], List.getElem_mem hi2, a, c, Option.some.inj h2⟩
theorem infoEnt : (Tryz.prog.info? 35).map (fun i => (i.zero, i.size, i.bytes)) = some (some (.agg #[.int .i64 0, .int .i64 0, .int .i64 0, .int .i64 0, .int .i64 0, .string ⟨#[]⟩, .slice none 0 0, .int .i64 0, .int .i64 0, .int .i64 0, .int .i64 0, .int .i64 0, .int .i64 0, .string ⟨#[]⟩]), 14, 144) := by kernel_rfl
def zeroE : EntV := ⟨⟨0, 0, 0, 0, 0, ⟨#[]⟩, none, 0, 0⟩, [], ⟨0, 0, 0, 0, 0, 0, ⟨#[]⟩⟩⟩
theorem made_flatE (n : Nat) : (madeCells (Value.agg #[.int .i64 0, .int .i64 0, .int .i64 0, .int .i64 0, .int .i64 0, .string ⟨#[]⟩, .slice none 0 0, .int .i64 0, .int .i64 0, .int .i64 0, .int .i64 0, .int .i64 0, .int .i64 0, .string ⟨#[]⟩]).cells (n * 14)).toList = flat EntV.cs (List.replicate n zeroE) := by
  apply List.ext_getElem?
  intro j
  by_cases hj : j < n * 14
  · have h1 : j = j / 14 * 14 + j % 14 := by omega
    have h2 : (List.replicate n zeroE)[j / 14]? = some zeroE := by rw [List.getElem?_replicate, if_pos (by omega)]
    have h3 := flat_get EntV.len (List.replicate n zeroE) (j / 14) (j % 14) zeroE h2 (by omega)
    rw [← h1] at h3
    rw [h3]
    have hm : j % 14 < 14 := by omega
    simp only [madeCells, Value.cells, Array.toList_map, Array.toList_range, List.getElem?_map, List.getElem?_range hj, Option.map_some, List.size_toArray, List.length_cons, List.length_nil, Nat.zero_add, Nat.reduceAdd, zeroE]
    have : j % 14 = 0 ∨ j % 14 = 1 ∨ j % 14 = 2 ∨ j % 14 = 3 ∨ j % 14 = 4 ∨ j % 14 = 5 ∨ j % 14 = 6 ∨ j % 14 = 7 ∨ j % 14 = 8 ∨ j % 14 = 9 ∨ j % 14 = 10 ∨ j % 14 = 11 ∨ j % 14 = 12 ∨ j % 14 = 13 := by omega
    rcases this with e | e | e | e | e | e | e | e | e | e | e | e | e | e <;> rw [e] <;> rfl
  · rw [List.getElem?_eq_none (by simp [madeCells]; omega), List.getElem?_eq_none (by rw [flat_length EntV.len, List.length_replicate]; omega)]
theorem Tryz.entSize : (Tryz.prog.info? 35).map (·.size) = some 14 := by kernel_rfl
theorem st_entW (ρ : Operand → Value) (dst : Option Tmp) (x y : Operand) (ty : TypeId) (pos : String) (after : Array Edge) (guard : Option (Nat × Bool)) :
    execOp ρ { dst, op := .store 35 x y, type := ty, pos, after, guard } = (do stRow 35 (ρ x) (ρ y); pure .skip) := rfl
theorem run_st_entW (w : World) (g o : Nat) (a0 a1 a2 a3 a4 : Int) (t : ByteArray) (sa : Option Addr) (sl sc : Nat) (b0 b1 b2 b3 b4 b5 : Int) (u : ByteArray) (h : w.there g o 14) :
    (stRow 35 (.pointer (some ⟨g, o, none⟩)) (.agg #[.int .i64 a0, .int .i64 a1, .int .i64 a2, .int .i64 a3, .int .i64 a4, .string t, .slice sa sl sc, .int .i64 b0, .int .i64 b1, .int .i64 b2, .int .i64 b3, .int .i64 b4, .int .i64 b5, .string u])).run Tryz.prog w = .ok () (w.setCells g o [.int .i64 a0, .int .i64 a1, .int .i64 a2, .int .i64 a3, .int .i64 a4, .string t, .slice sa sl sc, .int .i64 b0, .int .i64 b1, .int .i64 b2, .int .i64 b3, .int .i64 b4, .int .i64 b5, .string u]) :=
  run_stRow Tryz.entSize w g o _ rfl (EntV.ones ⟨⟨a0, a1, a2, a3, a4, t, sa, sl, sc⟩, [], ⟨b0, b1, b2, b3, b4, b5, u⟩⟩) h

/-- Spans that an entry owns. -/
abbrev ownSp (w : World) (B : Nat) (x : EntV) : Prop := w.ownsRow B 49 2 (.slice x.o.sa x.o.slen x.o.scap) x.o.slen (flat spC x.sp)
/-- A history whose parts were made since a block. -/
structure Made (B0 : Nat) (w : World) (h : HistV) (B : List CellV) (V : List Int) (E : List EntV) : Prop where
  b : w.ownsRow B0 47 5 (.slice h.ba h.bl h.bc) h.bl (flat CellV.cs B)
  v : w.ownsRow B0 3 1 (.slice h.va h.vl h.vc) h.vl (intCs V)
  e : w.ownsRow B0 35 14 (.slice h.la h.ll h.lc) h.ll (flat EntV.cs E)
  s : ∀ x ∈ E, ownSp w B0 x
theorem Made.grown {B0 : Nat} {w w' : World} {h : HistV} {B : List CellV} {V : List Int} {E : List EntV} (k : Made B0 w h B V E) (m : Mine.Mod none_ w w') : Made B0 w' h B V E :=
  ⟨ownsRow_mod k.b m (fun _ _ e => e), ownsRow_mod k.v m (fun _ _ e => e), ownsRow_mod k.e m (fun _ _ e => e), fun x hx => ownsRow_mod (k.s x hx) m (fun _ _ e => e)⟩
theorem Made.low {B0 B1 : Nat} {w : World} {h : HistV} {B : List CellV} {V : List Int} {E : List EntV} (k : Made B0 w h B V E) (hb : B1 ≤ B0) : Made B1 w h B V E :=
  ⟨ownsRow_base k.b hb, ownsRow_base k.v hb, ownsRow_base k.e hb, fun x hx => ownsRow_base (k.s x hx) hb⟩
theorem own_ents {w : World} {B n vc : Nat} {va : Option Addr} {l : List EntV} (h : w.ownsRow B 35 14 (.slice va n vc) n (flat EntV.cs l)) (ok : ∀ x ∈ l, x.o.ok w x.sp ∧ x.ed.ok w) : IsEnts w va n vc l := by
  have hl := h.1
  rw [flat_length EntV.len] at hl
  rcases ownsRow_blk h with ⟨h1, h2, h3⟩ | ⟨g, cap, more, h1, _, hb, hc, hm, _⟩
  · cases h1
    have : l = [] := List.eq_nil_of_length_eq_zero (by omega)
    subst this
    exact ⟨rfl, Nat.le_refl _, Nat.zero_le _, ok, fun i x hx => by simp at hx⟩
  · cases h1
    refine ⟨by omega, hc, hm, ok, fun i x hx => ⟨g, 0, rfl, ?_⟩⟩
    rw [Nat.zero_add]
    exact Blk.range EntV.len hb i x hx
theorem EntV.at_ok {w w' : World} {B : Nat} {x : EntV} {a : Option Addr} {c : Nat} (h : x.o.ok w x.sp ∧ x.ed.ok w) (m : Mine.Mod none_ w w') (ho : ownSp w' B (x.at a c)) : (x.at a c).o.ok w' (x.at a c).sp ∧ (x.at a c).ed.ok w' :=
  ⟨⟨h.1.i1, h.1.i2, h.1.i3, h.1.i4, h.1.i5, h.1.tx.grown m, h.1.sz, own_spans ho h.1.sp.ok⟩, h.2.grown m⟩
/-- Parts made anew of a history that lies in memory: it lies in memory too. -/
theorem Made.is {B0 : Nat} {w w' : World} {h h' : HistV} {B : List CellV} {V : List Int} {E E' : List EntV} (k : Made B0 w' h' B V E') (hh : HistIs w h B V E) (m : Mine.Mod none_ w w') (hl : likeE E E') (i1 : -9223372036854775808 ≤ h'.from_ ∧ h'.from_ ≤ 9223372036854775807) (i2 : -9223372036854775808 ≤ h'.num ∧ h'.num ≤ 9223372036854775807) : HistIs w' h' B V E' :=
  ⟨own_cells k.b hh.b.ok, own_vec k.v hh.v.ok, own_ents k.e (fun y hy => by
    obtain ⟨x, hx, a, c, rfl⟩ := hl.back hy
    exact EntV.at_ok (hh.e.ok x hx) m (k.s _ hy)), i1, i2⟩
/-- The row of entries while it is filled. -/
def HalfE (w : World) (B1 G : Nat) (E : List EntV) (n k : Nat) : Prop :=
  ∃ Q : List EntV, likeE (E.take k) Q ∧ (∀ x ∈ Q, ownSp w B1 x) ∧ Blk w G (flat EntV.cs (Q ++ List.replicate (n - k) zeroE)) 35
theorem set_half (Q : List EntV) (n k : Nat) (y : EntV) (hQ : Q.length = k) (hk : k < n) : (Q ++ List.replicate (n - k) zeroE).set k y = (Q ++ [y]) ++ List.replicate (n - (k + 1)) zeroE := by
  rw [List.set_append_right _ _ (by omega), hQ, Nat.sub_self]
  obtain ⟨m, hm⟩ : ∃ m, n - k = m + 1 := ⟨n - k - 1, by omega⟩
  rw [hm, List.replicate_succ, List.set_cons_zero, show n - (k + 1) = m by omega]
  simp
/-- One entry more. -/
theorem HalfE.step {w w1 : World} {B1 G n k : Nat} {E : List EntV} {x : EntV} {a : Option Addr} {c : Nat} (h : HalfE w B1 G E n k) (hx : E[k]? = some x) (hk : k < n) (m : Mine.Mod none_ w w1) (ho : ownSp w1 B1 (x.at a c)) :
    HalfE (w1.setCells G (k * 14) (x.at a c).cs) B1 G E n (k + 1) ∧ Mine.Mod (one G) w1 (w1.setCells G (k * 14) (x.at a c).cs) ∧ w1.there G (k * 14) 14 := by
  obtain ⟨Q, hq, hs, hb⟩ := h
  have hkl := (List.getElem?_eq_some_iff.1 hx).1
  have hQ : Q.length = k := by rw [hq.1, List.length_take]; omega
  have hb1 := hb.mod m (fun e => e)
  obtain ⟨kp, mp⟩ := Blk.put EntV.len (more := []) (by rw [List.append_nil]; exact hb1) k (by rw [List.length_append, hQ, List.length_replicate]; omega) (x.at a c)
  have ne : ∀ {y : EntV}, ownSp w1 B1 y → ∀ j, (Value.slice y.o.sa y.o.slen y.o.scap).ownBlock = some j → ¬ one G j := by
    intro y hy j hj e
    have e' : j = G := e
    subst e'
    obtain ⟨cs2, hb2⟩ := ownsRow_type hy hj
    have e2 := Option.some.inj (hb1.symm.trans hb2)
    injection e2 with _ h2 _
    exact absurd h2 (by decide)
  refine ⟨⟨Q ++ [x.at a c], ?_, ?_, ?_⟩, mp, hb1.there _ _ (by rw [flat_length EntV.len, List.length_append, hQ, List.length_replicate]; omega)⟩
  · rw [ents_snoc hx]; exact hq.snoc x a c
  · intro y hy
    rcases List.mem_append.1 hy with hy | hy
    · have := ownsRow_mod (hs y hy) m (fun _ _ e => e)
      exact ownsRow_mod this mp (ne this)
    · rw [List.mem_singleton] at hy
      subst hy
      exact ownsRow_mod ho mp (ne ho)
  · rw [set_half Q n k _ hQ hk, List.append_nil] at kp
    exact kp

end Go.Proofs.YtlidmajcdjlcnaaGreatDoor

namespace Go.Proofs.YtlidmajcdjlcnaaGreatDoor
open Go.RowKit Go.Shelf Go.Mine
open Classical

/-- Behind apart's first assignment: base and vector are copies. -/
def Ap1 (w : World) (h : HistV) (B : List CellV) (V : List Int) (wx : World) : Prop :=
  ∃ ba bc va vc, Blk wx w.heap.size [.slice ba h.bl bc, .slice va h.vl vc, .int .i64 h.from_, .int .i64 h.num, .slice h.la h.ll h.lc] 39 ∧ Blk wx (w.heap.size + 1) [.slice none 0 0, .slice none 0 0, .int .i64 0, .int .i64 0, .slice none 0 0] 39 ∧
    wx.ownsRow (w.heap.size + 1 + 1) 47 5 (.slice ba h.bl bc) h.bl (flat CellV.cs B) ∧ wx.ownsRow (w.heap.size + 1 + 1) 3 1 (.slice va h.vl vc) h.vl (intCs V) ∧ Mine.Mod none_ w wx ∧ w.heap.size + 1 + 1 ≤ wx.heap.size

/-- What apart answers: a history alike, all of it new. -/
def ApartTo (w : World) (h : HistV) (B : List CellV) (V : List Int) (E : List EntV) (e : Ending) (w' : World) : Prop :=
  ∃ (h' : HistV) (E' : List EntV), e = .returned h'.v ∧ h'.bl = h.bl ∧ h'.vl = h.vl ∧ h'.ll = h.ll ∧ h'.from_ = h.from_ ∧ h'.num = h.num ∧ likeE E E' ∧ Made w.heap.size w' h' B V E' ∧ Mine.Mod none_ w w'
section
attribute [local go_sem ↓] st_entW
attribute [local go_sem] run_st_entW World.there_drew setCells_drew setCells_alloc_new there_alloc_new
set_option maxHeartbeats 4000000 in
set_option maxRecDepth 1000000 in
theorem apart_any (w : World) (h : HistV) (B : List CellV) (V : List Int) (E : List EntV) (hh : HistIs w h B V E) (hl : h.bl ≤ 1099511627776) (hv : h.vl ≤ 1099511627776) (hbd : ∀ x ∈ E, x.o.slen ≤ 1099511627776) (hbl : h.ll ≤ 1000000) :
    Calls Tryz.prog 38 #[h.v] w (ApartTo w h B V E) := by
  have HHB := Lib.hid hh.b
  have HHV := Lib.hid hh.v
  have HHE := Lib.hid hh.e
  have HBD := Lib.hid hbd
  clear hh hbd
  obtain ⟨xba, xbl, xbc, xva, xvl, xvc, xfr, xnum, xla, xll, xlc⟩ := h
  dsimp only at hl hv hbl HHB HHV HHE
  obtain ⟨W0, hW0⟩ : ∃ W0, (w.alloc (.cells #[.slice xba xbl xbc, .slice xva xvl xvc, .int .i64 xfr, .int .i64 xnum, .slice xla xll xlc] 39)).alloc (.cells #[.slice none 0 0, .slice none 0 0, .int .i64 0, .int .i64 0, .slice none 0 0] 39) = W0 := ⟨_, rfl⟩
  have m0 : Mine.Mod none_ w W0 := by rw [← hW0]; exact ((Mine.Mod.refl none_ w).alloc _).alloc _
  have k0 : Blk W0 w.heap.size [.slice xba xbl xbc, .slice xva xvl xvc, .int .i64 xfr, .int .i64 xnum, .slice xla xll xlc] 39 := by
    rw [← hW0]
    exact (Blk.new (w := w) (cs := [.slice xba xbl xbc, .slice xva xvl xvc, .int .i64 xfr, .int .i64 xnum, .slice xla xll xlc]) (t := 39)).mod ((Mine.Mod.refl none_ _).alloc _) (fun e => e)
  have k1 : Blk W0 (w.heap.size + 1) [.slice none 0 0, .slice none 0 0, .int .i64 0, .int .i64 0, .slice none 0 0] 39 := by
    have := Blk.new (w := w.alloc (.cells #[.slice xba xbl xbc, .slice xva xvl xvc, .int .i64 xfr, .int .i64 xnum, .slice xla xll xlc] 39)) (cs := [.slice none 0 0, .slice none 0 0, .int .i64 0, .int .i64 0, .slice none 0 0]) (t := 39)
    rw [World.size_alloc] at this
    rw [← hW0]
    exact this
  have hs0 : W0.heap.size = w.heap.size + 1 + 1 := by rw [← hW0, World.size_alloc, World.size_alloc]
  have HZ0 := Lib.hid (show w.heap.size + 1 + 1 ≤ W0.drew.heap.size from by rw [← hs0]; exact Nat.le_refl _)
  have MC0 := Lib.hid m0.drew
  have KC0 := Lib.hid k0.drew
  have ZC0 := Lib.hid k1.drew
  clear m0 k0 k1 hs0
  go_enter Tryz.func38, Tryz.ntmps38
  go_upto_region 1 with fail
  clear hW0
  go_cut [] from 6 to 13 (fun wx => RowKit.Hid (Ap1 w ⟨xba, xbl, xbc, xva, xvl, xvc, xfr, xnum, xla, xll, xlc⟩ B V wx))
  case first =>
    refine wp_region_held_drew (S := fun _ => True) (by kernel_rfl) trivial (fun hS => ?_)
    refine wpAnyH_take (i := 0) (v := .pointer (some ⟨w.heap.size, 0, none⟩)) rfl (by kernel_rfl) (by kernel_rfl) (by kernel_rfl) (fun _ _ _ h => h) (Or.inl ⟨by kernel_rfl, ?_⟩) hS ?_
    · rintro w' _; go_simp
    try simp only [Act.put, List.setIfInBounds_toArray, List.set_cons_zero, List.set_cons_succ]
    refine wpAnyH_take (i := 3) (v := .pointer (some ⟨w.heap.size, 1, none⟩)) rfl (by kernel_rfl) (by kernel_rfl) (by kernel_rfl) (fun _ _ _ h => h) (Or.inl ⟨by kernel_rfl, ?_⟩) hS ?_
    · rintro w' _; go_simp
    try simp only [Act.put, List.setIfInBounds_toArray, List.set_cons_zero, List.set_cons_succ]
    refine wpAnyH_ready (rs := [1, 4]) (by kernel_rfl) (by simp) (AllReadyH.cons rfl (fun J hJ => ?_) <| AllReadyH.cons rfl (fun J hJ => ?_) <| AllReadyH.nil)
    · have b0 := KC0.out.cell 0
      simp only [List.getElem?_cons_zero, List.getElem?_cons_succ] at b0
      go_simp
      refine hJ.out _ _ trivial (fun hS => ?_)
      clear hJ J b0
      try simp only [Act.put, List.setIfInBounds_toArray, List.set_cons_zero, List.set_cons_succ]
      refine wpAnyH_ready (rs := [2, 4]) (by kernel_rfl) (by simp) (AllReadyH.cons rfl (fun J hJ => ?_) <| AllReadyH.cons rfl (fun J hJ => ?_) <| AllReadyH.nil)
      · go_simp
        refine (cloneC_any _ xba xbl xbc B (HHB.out.grown MC0.out) hl).mono ?_
        rintro e w1 ⟨ba', bc', rfl, ho, m⟩
        have MC1 := Lib.hid (MC0.out.trans m)
        have KC1 := Lib.hid (KC0.out.mod m (fun e => e))
        have ZC1 := Lib.hid (ZC0.out.mod m (fun e => e))
        have HZ1 := Lib.hid (Nat.le_trans HZ0.out m.size)
        have HOB := Lib.hid (ownsRow_base ho HZ0.out)
        refine hJ.out _ _ trivial (fun hS => ?_)
        clear hJ J ho m
        try simp only [Act.put, List.setIfInBounds_toArray, List.set_cons_zero, List.set_cons_succ]
        refine wpAnyH_ready (rs := [4]) (by kernel_rfl) (by simp) (AllReadyH.cons rfl (fun J hJ => ?_) <| AllReadyH.nil)
        · have b0 := KC1.out.cell 1
          simp only [List.getElem?_cons_zero, List.getElem?_cons_succ] at b0
          go_simp
          refine hJ.out _ _ trivial (fun hS => ?_)
          clear hJ J b0
          try simp only [Act.put, List.setIfInBounds_toArray, List.set_cons_zero, List.set_cons_succ]
          refine wpAnyH_take (i := 6) (v := .pointer (some ⟨w.heap.size, 0, none⟩)) rfl (by kernel_rfl) (by kernel_rfl) (by kernel_rfl) (fun _ _ _ h => h) (Or.inl ⟨by kernel_rfl, ?_⟩) hS ?_
          · rintro w' _; go_simp
          try simp only [Act.put, List.setIfInBounds_toArray, List.set_cons_zero, List.set_cons_succ]
          refine wpAnyH_ready (rs := [5]) (by kernel_rfl) (by simp) (AllReadyH.cons rfl (fun J hJ => ?_) <| AllReadyH.nil)
          · go_simp
            refine (cloneI_any _ xva xvl xvc V (HHV.out.grown MC1.out) hv).mono ?_
            rintro e w2 ⟨va', vc', rfl, ho, m⟩
            have MC2 := Lib.hid (MC1.out.trans m)
            have KC2 := Lib.hid (KC1.out.mod m (fun e => e))
            have ZC2 := Lib.hid (ZC1.out.mod m (fun e => e))
            have HZ2 := Lib.hid (Nat.le_trans HZ1.out m.size)
            have HOV := Lib.hid (ownsRow_base ho HZ1.out)
            have HOB := Lib.hid (ownsRow_mod HOB.out m (fun _ _ e => e))
            refine hJ.out _ _ trivial (fun hS => ?_)
            clear hJ J ho m
            try simp only [Act.put, List.setIfInBounds_toArray, List.set_cons_zero, List.set_cons_succ]
            have b0 := KC2.out.cell 0
            have b1 := KC2.out.cell 1
            simp only [List.getElem?_cons_zero, List.getElem?_cons_succ] at b0 b1
            have g0 := KC2.out.frozen 0
            have g1 := KC2.out.frozen 1
            refine wpAnyH_ready (rs := [7]) (by kernel_rfl) (by simp) (AllReadyH.cons rfl (fun J hJ => ?_) <| AllReadyH.nil)
            go_simp
            refine hJ.out _ _ trivial (fun hS => ?_)
            clear hJ J
            try simp only [Act.put, List.setIfInBounds_toArray, List.set_cons_zero, List.set_cons_succ]
            refine wpAnyH_take (i := 8) (v := .pointer (some ⟨w.heap.size, 1, none⟩)) rfl (by kernel_rfl) (by kernel_rfl) (by kernel_rfl) (fun _ _ _ h => h) (Or.inl ⟨by kernel_rfl, ?_⟩) hS ?_
            · rintro w' _; go_simp
            try simp only [Act.put, List.setIfInBounds_toArray, List.set_cons_zero, List.set_cons_succ]
            refine wpAnyH_ready (rs := [9]) (by kernel_rfl) (by simp) (AllReadyH.cons rfl (fun J hJ => ?_) <| AllReadyH.nil)
            go_simp
            refine hJ.out _ _ trivial (fun hS => ?_)
            clear hJ J
            try simp only [Act.put, List.setIfInBounds_toArray, List.set_cons_zero, List.set_cons_succ]
            refine wpAnyH_done (by kernel_rfl) ?_ _
            try simp only [List.getElem_toArray, List.getElem_cons_succ, List.getElem_cons_zero]
            try simp only [Act.put, List.setIfInBounds_toArray, List.set_cons_zero, List.set_cons_succ]
            clear b0 b1 g0 g1
            have mS := ((Mine.Mod.refl (one w.heap.size) w2).setCell ⟨w.heap.size, 0, none⟩ (fun _ => rfl) (.slice ba' xbl bc')).setCell ⟨w.heap.size, 1, none⟩ (fun _ => rfl) (.slice va' xvl vc')
            have hlb : ∀ v e s n xs, w2.ownsRow (w.heap.size + 1 + 1) e s v n xs → ∀ k, v.ownBlock = some k → ¬ one w.heap.size k := fun v e s n xs ho k hk e' => by have e2 : k = w.heap.size := e'; have := (ho.lt k hk).1; omega
            have HF := Lib.hid (show Ap1 w ⟨xba, xbl, xbc, xva, xvl, xvc, xfr, xnum, xla, xll, xlc⟩ B V _ from ⟨ba', bc', va', vc', (KC2.out.set 0 (.slice ba' xbl bc')).set 1 (.slice va' xvl vc'), ZC2.out.mod mS (fun e => by have e' : w.heap.size + 1 = w.heap.size := e; omega), ownsRow_mod HOB.out mS (hlb _ _ _ _ _ HOB.out), ownsRow_mod HOV.out mS (hlb _ _ _ _ _ HOV.out), MC2.out.transIn mS (fun b hb e => by have e' : b = w.heap.size := e; omega), Nat.le_trans HZ2.out mS.size⟩)
            go_wp2_with fail
            go_meet
            exact HF
      · have b0 := KC0.out.cell 1
        simp only [List.getElem?_cons_zero, List.getElem?_cons_succ] at b0
        go_simp
        refine hJ.out _ _ trivial (fun hS => ?_)
        clear hJ J b0
        try simp only [Act.put, List.setIfInBounds_toArray, List.set_cons_zero, List.set_cons_succ]
        refine wpAnyH_ready (rs := [2]) (by kernel_rfl) (by simp) (AllReadyH.cons rfl (fun J hJ => ?_) <| AllReadyH.nil)
        · go_simp
          refine (cloneC_any _ xba xbl xbc B (HHB.out.grown MC0.out) hl).mono ?_
          rintro e w1 ⟨ba', bc', rfl, ho, m⟩
          have MC1 := Lib.hid (MC0.out.trans m)
          have KC1 := Lib.hid (KC0.out.mod m (fun e => e))
          have ZC1 := Lib.hid (ZC0.out.mod m (fun e => e))
          have HZ1 := Lib.hid (Nat.le_trans HZ0.out m.size)
          have HOB := Lib.hid (ownsRow_base ho HZ0.out)
          refine hJ.out _ _ trivial (fun hS => ?_)
          clear hJ J ho m
          try simp only [Act.put, List.setIfInBounds_toArray, List.set_cons_zero, List.set_cons_succ]
          refine wpAnyH_take (i := 6) (v := .pointer (some ⟨w.heap.size, 0, none⟩)) rfl (by kernel_rfl) (by kernel_rfl) (by kernel_rfl) (fun _ _ _ h => h) (Or.inl ⟨by kernel_rfl, ?_⟩) hS ?_
          · rintro w' _; go_simp
          try simp only [Act.put, List.setIfInBounds_toArray, List.set_cons_zero, List.set_cons_succ]
          refine wpAnyH_ready (rs := [5]) (by kernel_rfl) (by simp) (AllReadyH.cons rfl (fun J hJ => ?_) <| AllReadyH.nil)
          · go_simp
            refine (cloneI_any _ xva xvl xvc V (HHV.out.grown MC1.out) hv).mono ?_
            rintro e w2 ⟨va', vc', rfl, ho, m⟩
            have MC2 := Lib.hid (MC1.out.trans m)
            have KC2 := Lib.hid (KC1.out.mod m (fun e => e))
            have ZC2 := Lib.hid (ZC1.out.mod m (fun e => e))
            have HZ2 := Lib.hid (Nat.le_trans HZ1.out m.size)
            have HOV := Lib.hid (ownsRow_base ho HZ1.out)
            have HOB := Lib.hid (ownsRow_mod HOB.out m (fun _ _ e => e))
            refine hJ.out _ _ trivial (fun hS => ?_)
            clear hJ J ho m
            try simp only [Act.put, List.setIfInBounds_toArray, List.set_cons_zero, List.set_cons_succ]
            have b0 := KC2.out.cell 0
            have b1 := KC2.out.cell 1
            simp only [List.getElem?_cons_zero, List.getElem?_cons_succ] at b0 b1
            have g0 := KC2.out.frozen 0
            have g1 := KC2.out.frozen 1
            refine wpAnyH_ready (rs := [7]) (by kernel_rfl) (by simp) (AllReadyH.cons rfl (fun J hJ => ?_) <| AllReadyH.nil)
            go_simp
            refine hJ.out _ _ trivial (fun hS => ?_)
            clear hJ J
            try simp only [Act.put, List.setIfInBounds_toArray, List.set_cons_zero, List.set_cons_succ]
            refine wpAnyH_take (i := 8) (v := .pointer (some ⟨w.heap.size, 1, none⟩)) rfl (by kernel_rfl) (by kernel_rfl) (by kernel_rfl) (fun _ _ _ h => h) (Or.inl ⟨by kernel_rfl, ?_⟩) hS ?_
            · rintro w' _; go_simp
            try simp only [Act.put, List.setIfInBounds_toArray, List.set_cons_zero, List.set_cons_succ]
            refine wpAnyH_ready (rs := [9]) (by kernel_rfl) (by simp) (AllReadyH.cons rfl (fun J hJ => ?_) <| AllReadyH.nil)
            go_simp
            refine hJ.out _ _ trivial (fun hS => ?_)
            clear hJ J
            try simp only [Act.put, List.setIfInBounds_toArray, List.set_cons_zero, List.set_cons_succ]
            refine wpAnyH_done (by kernel_rfl) ?_ _
            try simp only [List.getElem_toArray, List.getElem_cons_succ, List.getElem_cons_zero]
            try simp only [Act.put, List.setIfInBounds_toArray, List.set_cons_zero, List.set_cons_succ]
            clear b0 b1 g0 g1
            have mS := ((Mine.Mod.refl (one w.heap.size) w2).setCell ⟨w.heap.size, 0, none⟩ (fun _ => rfl) (.slice ba' xbl bc')).setCell ⟨w.heap.size, 1, none⟩ (fun _ => rfl) (.slice va' xvl vc')
            have hlb : ∀ v e s n xs, w2.ownsRow (w.heap.size + 1 + 1) e s v n xs → ∀ k, v.ownBlock = some k → ¬ one w.heap.size k := fun v e s n xs ho k hk e' => by have e2 : k = w.heap.size := e'; have := (ho.lt k hk).1; omega
            have HF := Lib.hid (show Ap1 w ⟨xba, xbl, xbc, xva, xvl, xvc, xfr, xnum, xla, xll, xlc⟩ B V _ from ⟨ba', bc', va', vc', (KC2.out.set 0 (.slice ba' xbl bc')).set 1 (.slice va' xvl vc'), ZC2.out.mod mS (fun e => by have e' : w.heap.size + 1 = w.heap.size := e; omega), ownsRow_mod HOB.out mS (hlb _ _ _ _ _ HOB.out), ownsRow_mod HOV.out mS (hlb _ _ _ _ _ HOV.out), MC2.out.transIn mS (fun b hb e => by have e' : b = w.heap.size := e; omega), Nat.le_trans HZ2.out mS.size⟩)
            go_wp2_with fail
            go_meet
            exact HF
    · have b0 := KC0.out.cell 1
      simp only [List.getElem?_cons_zero, List.getElem?_cons_succ] at b0
      go_simp
      refine hJ.out _ _ trivial (fun hS => ?_)
      clear hJ J b0
      try simp only [Act.put, List.setIfInBounds_toArray, List.set_cons_zero, List.set_cons_succ]
      refine wpAnyH_ready (rs := [1]) (by kernel_rfl) (by simp) (AllReadyH.cons rfl (fun J hJ => ?_) <| AllReadyH.nil)
      · have b0 := KC0.out.cell 0
        simp only [List.getElem?_cons_zero, List.getElem?_cons_succ] at b0
        go_simp
        refine hJ.out _ _ trivial (fun hS => ?_)
        clear hJ J b0
        try simp only [Act.put, List.setIfInBounds_toArray, List.set_cons_zero, List.set_cons_succ]
        refine wpAnyH_ready (rs := [2]) (by kernel_rfl) (by simp) (AllReadyH.cons rfl (fun J hJ => ?_) <| AllReadyH.nil)
        · go_simp
          refine (cloneC_any _ xba xbl xbc B (HHB.out.grown MC0.out) hl).mono ?_
          rintro e w1 ⟨ba', bc', rfl, ho, m⟩
          have MC1 := Lib.hid (MC0.out.trans m)
          have KC1 := Lib.hid (KC0.out.mod m (fun e => e))
          have ZC1 := Lib.hid (ZC0.out.mod m (fun e => e))
          have HZ1 := Lib.hid (Nat.le_trans HZ0.out m.size)
          have HOB := Lib.hid (ownsRow_base ho HZ0.out)
          refine hJ.out _ _ trivial (fun hS => ?_)
          clear hJ J ho m
          try simp only [Act.put, List.setIfInBounds_toArray, List.set_cons_zero, List.set_cons_succ]
          refine wpAnyH_take (i := 6) (v := .pointer (some ⟨w.heap.size, 0, none⟩)) rfl (by kernel_rfl) (by kernel_rfl) (by kernel_rfl) (fun _ _ _ h => h) (Or.inl ⟨by kernel_rfl, ?_⟩) hS ?_
          · rintro w' _; go_simp
          try simp only [Act.put, List.setIfInBounds_toArray, List.set_cons_zero, List.set_cons_succ]
          refine wpAnyH_ready (rs := [5]) (by kernel_rfl) (by simp) (AllReadyH.cons rfl (fun J hJ => ?_) <| AllReadyH.nil)
          · go_simp
            refine (cloneI_any _ xva xvl xvc V (HHV.out.grown MC1.out) hv).mono ?_
            rintro e w2 ⟨va', vc', rfl, ho, m⟩
            have MC2 := Lib.hid (MC1.out.trans m)
            have KC2 := Lib.hid (KC1.out.mod m (fun e => e))
            have ZC2 := Lib.hid (ZC1.out.mod m (fun e => e))
            have HZ2 := Lib.hid (Nat.le_trans HZ1.out m.size)
            have HOV := Lib.hid (ownsRow_base ho HZ1.out)
            have HOB := Lib.hid (ownsRow_mod HOB.out m (fun _ _ e => e))
            refine hJ.out _ _ trivial (fun hS => ?_)
            clear hJ J ho m
            try simp only [Act.put, List.setIfInBounds_toArray, List.set_cons_zero, List.set_cons_succ]
            have b0 := KC2.out.cell 0
            have b1 := KC2.out.cell 1
            simp only [List.getElem?_cons_zero, List.getElem?_cons_succ] at b0 b1
            have g0 := KC2.out.frozen 0
            have g1 := KC2.out.frozen 1
            refine wpAnyH_ready (rs := [7]) (by kernel_rfl) (by simp) (AllReadyH.cons rfl (fun J hJ => ?_) <| AllReadyH.nil)
            go_simp
            refine hJ.out _ _ trivial (fun hS => ?_)
            clear hJ J
            try simp only [Act.put, List.setIfInBounds_toArray, List.set_cons_zero, List.set_cons_succ]
            refine wpAnyH_take (i := 8) (v := .pointer (some ⟨w.heap.size, 1, none⟩)) rfl (by kernel_rfl) (by kernel_rfl) (by kernel_rfl) (fun _ _ _ h => h) (Or.inl ⟨by kernel_rfl, ?_⟩) hS ?_
            · rintro w' _; go_simp
            try simp only [Act.put, List.setIfInBounds_toArray, List.set_cons_zero, List.set_cons_succ]
            refine wpAnyH_ready (rs := [9]) (by kernel_rfl) (by simp) (AllReadyH.cons rfl (fun J hJ => ?_) <| AllReadyH.nil)
            go_simp
            refine hJ.out _ _ trivial (fun hS => ?_)
            clear hJ J
            try simp only [Act.put, List.setIfInBounds_toArray, List.set_cons_zero, List.set_cons_succ]
            refine wpAnyH_done (by kernel_rfl) ?_ _
            try simp only [List.getElem_toArray, List.getElem_cons_succ, List.getElem_cons_zero]
            try simp only [Act.put, List.setIfInBounds_toArray, List.set_cons_zero, List.set_cons_succ]
            clear b0 b1 g0 g1
            have mS := ((Mine.Mod.refl (one w.heap.size) w2).setCell ⟨w.heap.size, 0, none⟩ (fun _ => rfl) (.slice ba' xbl bc')).setCell ⟨w.heap.size, 1, none⟩ (fun _ => rfl) (.slice va' xvl vc')
            have hlb : ∀ v e s n xs, w2.ownsRow (w.heap.size + 1 + 1) e s v n xs → ∀ k, v.ownBlock = some k → ¬ one w.heap.size k := fun v e s n xs ho k hk e' => by have e2 : k = w.heap.size := e'; have := (ho.lt k hk).1; omega
            have HF := Lib.hid (show Ap1 w ⟨xba, xbl, xbc, xva, xvl, xvc, xfr, xnum, xla, xll, xlc⟩ B V _ from ⟨ba', bc', va', vc', (KC2.out.set 0 (.slice ba' xbl bc')).set 1 (.slice va' xvl vc'), ZC2.out.mod mS (fun e => by have e' : w.heap.size + 1 = w.heap.size := e; omega), ownsRow_mod HOB.out mS (hlb _ _ _ _ _ HOB.out), ownsRow_mod HOV.out mS (hlb _ _ _ _ _ HOV.out), MC2.out.transIn mS (fun b hb e => by have e' : b = w.heap.size := e; omega), Nat.le_trans HZ2.out mS.size⟩)
            go_wp2_with fail
            go_meet
            exact HF
  case rest =>
    obtain ⟨ba, bc, va, vc, kH, kZ, ob, ov, mC, hsz⟩ := hcut.out
    dsimp only at kH kZ ob ov
    obtain ⟨i0, hi0, hz0, hz1, hz2⟩ := info_parts infoEnt
    have hll := HHE.out.big
    have hle := HHE.out.le
    unfold maxLen at hll
    obtain ⟨w5, hrun, own5, hgr5⟩ := run_make_full (P := Tryz.prog) wc wc.heap.size 24 35 i0 _ 14 Tryz.underlying24 hi0 hz0 hz1 .i64 .i64 xll (by rw [hz2]; omega) (by unfold maxLen; omega) (Nat.le_refl _)
    obtain ⟨G, hG⟩ : ∃ G, G = wc.heap.size := ⟨_, rfl⟩
    rw [made_flatE, ← hG] at own5
    rw [← hG] at hrun
    have m5 : Mine.Mod none_ wc w5 := (Mine.Mod.refl none_ wc).grown hgr5 (fun k e => by cases e)
    rcases ownsRow_blk own5 with ⟨hh, -⟩ | ⟨G', c5, more5, he, -, k5, -, -, hl5⟩
    · cases hh
    have e1 : G' = G := by cases he; rfl
    have e2 : c5 = xll := by cases he; rfl
    rw [e1] at k5
    rw [e2] at hl5
    have hm5 : more5 = [] := by
      rw [flat_length EntV.len, List.length_replicate] at hl5
      exact List.eq_nil_of_length_eq_zero (by omega)
    subst hm5
    have hGK : w.heap.size + 1 + 1 ≤ G := by rw [hG]; exact hsz
    have s4 := kH.cell 4
    simp only [List.getElem?_cons_zero, List.getElem?_cons_succ] at s4
    have t4 := m5.cell (fun e => e) s4
    have HKH := Lib.hid (kH.mod m5 (fun e => e))
    have HKZ := Lib.hid (kZ.mod m5 (fun e => e))
    have HOB := Lib.hid (ownsRow_mod ob m5 (fun _ _ e => e))
    have HOV := Lib.hid (ownsRow_mod ov m5 (fun _ _ e => e))
    have M5 := Lib.hid (mC.trans m5)
    have HBS := Lib.hid (show G + 1 ≤ w5.heap.size from k5.lt)
    have HST := Lib.hid (show HalfE w5 w.heap.size G E xll 0 from ⟨[], likeE.nil, fun x hx => by simp at hx, by simpa using k5⟩)
    have HGK := Lib.hid hGK
    have lbG : ∀ v e s n xs, w5.ownsRow (w.heap.size + 1 + 1) e s v n xs → ∀ k, v.ownBlock = some k → e ≠ 35 → ¬ one G k := by
      intro v e s n xs ho k hk hne e'
      have e2 : k = G := e'
      subst e2
      obtain ⟨cs2, hb2⟩ := ownsRow_type ho hk
      have e3 := Option.some.inj (k5.symm.trans hb2)
      injection e3 with _ h2 _
      exact hne h2.symm
    have LBG := Lib.hid lbG
    clear hcut kH kZ ob ov mC hsz hz0 hz1 hz2 hi0 hgr5 own5 m5 k5 he e1 e2 hl5 hG lbG hGK
    go_wp2_with fail
    clear hrun s4 t4
    go_loopg [21] xll (fun g s21 wx => ∃ k : Nat, g = xll - k ∧ s21 = .int .i64 k ∧ k ≤ xll ∧ Mine.Mod (one G) w5 wx ∧ RowKit.Hid (HalfE wx w.heap.size G E xll k))
    case atStart => exact ⟨0, rfl, rfl, Nat.zero_le _, Mine.Mod.refl _ _, HST⟩
    case round =>
    obtain ⟨k, rfl, rfl, hk, mx, hst⟩ := hrel
    have mw : Mine.Mod none_ w wr := M5.out.transIn mx (fun b hb e => by have e' : b = G := e; have := HGK.out; omega)
    have hGr : G < wr.heap.size := Nat.lt_of_lt_of_le HBS.out mx.size
    by_cases hlk : k < xll
    · obtain ⟨x, hx⟩ : ∃ x, E[k]? = some x := ⟨E[k]'(by rw [HHE.out.n]; exact hlk), by simp⟩
      have hxo := ((HHE.out.grown mw).ok x (List.mem_of_getElem? hx)).1
      have HXO := Lib.hid hxo
      have hsl := hxo.sp.le
      have hsc := hxo.sp.big
      have HSL := Lib.hid hsl
      have HSC := Lib.hid hsc
      obtain ⟨b, off, rfl, hr⟩ := (HHE.out.grown mw).ents k x hx
      have c0 := hr 0 _ rfl
      have c1 := hr 1 _ rfl
      have c2 := hr 2 _ rfl
      have c3 := hr 3 _ rfl
      have c4 := hr 4 _ rfl
      have c5 := hr 5 _ rfl
      have c6 := hr 6 _ rfl
      have c7 := hr 7 _ rfl
      have c8 := hr 8 _ rfl
      have c9 := hr 9 _ rfl
      have c10 := hr 10 _ rfl
      have c11 := hr 11 _ rfl
      have c12 := hr 12 _ rfl
      have c13 := hr 13 _ rfl
      rw [Nat.add_zero] at c0
      have mA : Mine.Mod none_ wr (wr.alloc (.cells x.cs.toArray 35)) := (Mine.Mod.refl none_ wr).alloc _
      have kA := Blk.new (w := wr) (cs := x.cs) (t := 35)
      dsimp only [EntV.cs] at mA kA
      have MA := Lib.hid mA
      have KA := Lib.hid kA
      have HX := Lib.hid hx
      have MW := Lib.hid mw
      have MX := Lib.hid mx
      have HHS := Lib.hid hst.out
      have hGd : w.heap.size ≤ wr.heap.size := mw.size
      clear mA kA hx hxo mw mx hst hr hsl hsc
      go_upto_region 6 with fail
      generalize wr.alloc (.cells #[.int .i64 x.o.site, .int .i64 x.o.seq, .int .i64 x.o.num, .int .i64 x.o.kind, .int .i64 x.o.at_, .string x.o.text, .slice x.o.sa x.o.slen x.o.scap, .int .i64 x.ed.site, .int .i64 x.ed.seq, .int .i64 x.ed.ctx, .int .i64 x.ed.kind, .int .i64 x.ed.at_, .int .i64 x.ed.len, .string x.ed.text] 35) = wA at MA KA ⊢
      clear c0 c1 c2 c3 c4 c5 c6 c7 c8 c9 c10 c11 c12 c13
      have a0 : wA.drew.cell? ⟨wr.heap.size, 0, none⟩ = some (.int .i64 x.o.site) := by rw [KA.out.drew.cell]; rfl
      have a1 : wA.drew.cell? ⟨wr.heap.size, 1, none⟩ = some (.int .i64 x.o.seq) := by rw [KA.out.drew.cell]; rfl
      have a2 : wA.drew.cell? ⟨wr.heap.size, 2, none⟩ = some (.int .i64 x.o.num) := by rw [KA.out.drew.cell]; rfl
      have a3 : wA.drew.cell? ⟨wr.heap.size, 3, none⟩ = some (.int .i64 x.o.kind) := by rw [KA.out.drew.cell]; rfl
      have a4 : wA.drew.cell? ⟨wr.heap.size, 4, none⟩ = some (.int .i64 x.o.at_) := by rw [KA.out.drew.cell]; rfl
      have a5 : wA.drew.cell? ⟨wr.heap.size, 5, none⟩ = some (.string x.o.text) := by rw [KA.out.drew.cell]; rfl
      have a6 : wA.drew.cell? ⟨wr.heap.size, 6, none⟩ = some (.slice x.o.sa x.o.slen x.o.scap) := by rw [KA.out.drew.cell]; rfl
      have a7 : wA.drew.cell? ⟨wr.heap.size, 7, none⟩ = some (.int .i64 x.ed.site) := by rw [KA.out.drew.cell]; rfl
      have a8 : wA.drew.cell? ⟨wr.heap.size, 8, none⟩ = some (.int .i64 x.ed.seq) := by rw [KA.out.drew.cell]; rfl
      have a9 : wA.drew.cell? ⟨wr.heap.size, 9, none⟩ = some (.int .i64 x.ed.ctx) := by rw [KA.out.drew.cell]; rfl
      have a10 : wA.drew.cell? ⟨wr.heap.size, 10, none⟩ = some (.int .i64 x.ed.kind) := by rw [KA.out.drew.cell]; rfl
      have a11 : wA.drew.cell? ⟨wr.heap.size, 11, none⟩ = some (.int .i64 x.ed.at_) := by rw [KA.out.drew.cell]; rfl
      have a12 : wA.drew.cell? ⟨wr.heap.size, 12, none⟩ = some (.int .i64 x.ed.len) := by rw [KA.out.drew.cell]; rfl
      have a13 : wA.drew.cell? ⟨wr.heap.size, 13, none⟩ = some (.string x.ed.text) := by rw [KA.out.drew.cell]; rfl
      have HC := Lib.hid (copied_any wA.drew ⟨x.o, x.sp⟩ (HXO.out.grown MA.out.drew) (by have := HSL.out; have := HSC.out; have := HBD.out x (List.mem_of_getElem? HX.out); omega))
      refine wp_region_held_drew (S := fun w' => w'.cell? ⟨wr.heap.size, 0, none⟩ = some (.int .i64 x.o.site) ∧ w'.cell? ⟨wr.heap.size, 1, none⟩ = some (.int .i64 x.o.seq) ∧ w'.cell? ⟨wr.heap.size, 2, none⟩ = some (.int .i64 x.o.num) ∧ w'.cell? ⟨wr.heap.size, 3, none⟩ = some (.int .i64 x.o.kind) ∧ w'.cell? ⟨wr.heap.size, 4, none⟩ = some (.int .i64 x.o.at_) ∧ w'.cell? ⟨wr.heap.size, 5, none⟩ = some (.string x.o.text) ∧ w'.cell? ⟨wr.heap.size, 6, none⟩ = some (.slice x.o.sa x.o.slen x.o.scap) ∧ w'.cell? ⟨wr.heap.size, 7, none⟩ = some (.int .i64 x.ed.site) ∧ w'.cell? ⟨wr.heap.size, 8, none⟩ = some (.int .i64 x.ed.seq) ∧ w'.cell? ⟨wr.heap.size, 9, none⟩ = some (.int .i64 x.ed.ctx) ∧ w'.cell? ⟨wr.heap.size, 10, none⟩ = some (.int .i64 x.ed.kind) ∧ w'.cell? ⟨wr.heap.size, 11, none⟩ = some (.int .i64 x.ed.at_) ∧ w'.cell? ⟨wr.heap.size, 12, none⟩ = some (.int .i64 x.ed.len) ∧ w'.cell? ⟨wr.heap.size, 13, none⟩ = some (.string x.ed.text)) (by kernel_rfl) ⟨a0, a1, a2, a3, a4, a5, a6, a7, a8, a9, a10, a11, a12, a13⟩ (fun hS => ?_)
      clear a0 a1 a2 a3 a4 a5 a6 a7 a8 a9 a10 a11 a12 a13
      refine wpAnyH_take (i := 0) (v := .slice (some ⟨G, 0, none⟩) xll xll) rfl (by kernel_rfl) (by kernel_rfl) (by kernel_rfl) (fun _ _ _ h => h) (Or.inl ⟨by kernel_rfl, ?_⟩) hS ?_
      · rintro w' ⟨q0, q1, q2, q3, q4, q5, q6, q7, q8, q9, q10, q11, q12, q13⟩; go_simp
      try simp only [Act.put, List.setIfInBounds_toArray, List.set_cons_zero, List.set_cons_succ]
      refine wpAnyH_take (i := 1) (v := .int .i64 (k : Int)) rfl (by kernel_rfl) (by kernel_rfl) (by kernel_rfl) (fun _ _ _ h => h) (Or.inl ⟨by kernel_rfl, ?_⟩) hS ?_
      · rintro w' ⟨q0, q1, q2, q3, q4, q5, q6, q7, q8, q9, q10, q11, q12, q13⟩; go_simp
      try simp only [Act.put, List.setIfInBounds_toArray, List.set_cons_zero, List.set_cons_succ]
      refine wpAnyH_take (i := 2) (v := .pointer (some ⟨wr.heap.size, 0, none⟩)) rfl (by kernel_rfl) (by kernel_rfl) (by kernel_rfl) (fun _ _ _ h => h) (Or.inl ⟨by kernel_rfl, ?_⟩) hS ?_
      · rintro w' ⟨q0, q1, q2, q3, q4, q5, q6, q7, q8, q9, q10, q11, q12, q13⟩; go_simp
      try simp only [Act.put, List.setIfInBounds_toArray, List.set_cons_zero, List.set_cons_succ]
      refine wpAnyH_take (i := 3) (v := .agg #[.int .i64 x.o.site, .int .i64 x.o.seq, .int .i64 x.o.num, .int .i64 x.o.kind, .int .i64 x.o.at_, .string x.o.text, .slice x.o.sa x.o.slen x.o.scap]) rfl (by kernel_rfl) (by kernel_rfl) (by kernel_rfl) (fun _ _ _ h => h) (Or.inl ⟨by kernel_rfl, ?_⟩) hS ?_
      · rintro w' ⟨q0, q1, q2, q3, q4, q5, q6, q7, q8, q9, q10, q11, q12, q13⟩; go_simp
      try simp only [Act.put, List.setIfInBounds_toArray, List.set_cons_zero, List.set_cons_succ]
      refine wpAnyH_take (i := 5) (v := .pointer (some ⟨wr.heap.size, 7, none⟩)) rfl (by kernel_rfl) (by kernel_rfl) (by kernel_rfl) (fun _ _ _ h => h) (Or.inl ⟨by kernel_rfl, ?_⟩) hS ?_
      · rintro w' ⟨q0, q1, q2, q3, q4, q5, q6, q7, q8, q9, q10, q11, q12, q13⟩; go_simp
      try simp only [Act.put, List.setIfInBounds_toArray, List.set_cons_zero, List.set_cons_succ]
      refine wpAnyH_take (i := 6) (v := .agg #[.int .i64 x.ed.site, .int .i64 x.ed.seq, .int .i64 x.ed.ctx, .int .i64 x.ed.kind, .int .i64 x.ed.at_, .int .i64 x.ed.len, .string x.ed.text]) rfl (by kernel_rfl) (by kernel_rfl) (by kernel_rfl) (fun _ _ _ h => h) (Or.inl ⟨by kernel_rfl, ?_⟩) hS ?_
      · rintro w' ⟨q0, q1, q2, q3, q4, q5, q6, q7, q8, q9, q10, q11, q12, q13⟩; go_simp
      try simp only [Act.put, List.setIfInBounds_toArray, List.set_cons_zero, List.set_cons_succ]
      refine wpAnyH_ready (rs := [4]) (by kernel_rfl) (by simp) (AllReadyH.cons rfl (fun K hK => ?_) <| AllReadyH.nil)
      go_simp
      refine HC.out.mono ?_
      rintro e w2 ⟨va2, vc2, rfl, ho, m2⟩
      refine hK.out _ _ ⟨by rw [(KA.out.drew.mod m2 (fun e => e)).cell]; rfl, by rw [(KA.out.drew.mod m2 (fun e => e)).cell]; rfl, by rw [(KA.out.drew.mod m2 (fun e => e)).cell]; rfl, by rw [(KA.out.drew.mod m2 (fun e => e)).cell]; rfl, by rw [(KA.out.drew.mod m2 (fun e => e)).cell]; rfl, by rw [(KA.out.drew.mod m2 (fun e => e)).cell]; rfl, by rw [(KA.out.drew.mod m2 (fun e => e)).cell]; rfl, by rw [(KA.out.drew.mod m2 (fun e => e)).cell]; rfl, by rw [(KA.out.drew.mod m2 (fun e => e)).cell]; rfl, by rw [(KA.out.drew.mod m2 (fun e => e)).cell]; rfl, by rw [(KA.out.drew.mod m2 (fun e => e)).cell]; rfl, by rw [(KA.out.drew.mod m2 (fun e => e)).cell]; rfl, by rw [(KA.out.drew.mod m2 (fun e => e)).cell]; rfl, by rw [(KA.out.drew.mod m2 (fun e => e)).cell]; rfl⟩ (fun hS => ?_)
      clear hK K
      try simp only [Act.put, List.setIfInBounds_toArray, List.set_cons_zero, List.set_cons_succ]
      refine wpAnyH_take (i := 7) (v := .agg #[.int .i64 x.o.site, .int .i64 x.o.seq, .int .i64 x.o.num, .int .i64 x.o.kind, .int .i64 x.o.at_, .string x.o.text, .slice va2 x.o.slen vc2, .int .i64 x.ed.site, .int .i64 x.ed.seq, .int .i64 x.ed.ctx, .int .i64 x.ed.kind, .int .i64 x.ed.at_, .int .i64 x.ed.len, .string x.ed.text]) rfl (by kernel_rfl) (by kernel_rfl) (by kernel_rfl) (fun _ _ _ h => h) (Or.inl ⟨by kernel_rfl, ?_⟩) hS ?_
      · rintro w' ⟨q0, q1, q2, q3, q4, q5, q6, q7, q8, q9, q10, q11, q12, q13⟩; go_simp
      try simp only [Act.put, List.setIfInBounds_toArray, List.set_cons_zero, List.set_cons_succ]
      refine wpAnyH_take (i := 8) (v := .pointer (some ⟨G, k * 14, none⟩)) rfl (by kernel_rfl) (by kernel_rfl) (by kernel_rfl) (fun _ _ _ h => h) (Or.inl ⟨by kernel_rfl, ?_⟩) hS ?_
      · rintro w' ⟨q0, q1, q2, q3, q4, q5, q6, q7, q8, q9, q10, q11, q12, q13⟩; (go_simp <;> (intro h; omega))
      try simp only [Act.put, List.setIfInBounds_toArray, List.set_cons_zero, List.set_cons_succ]
      obtain ⟨hs2, ms2, th2⟩ := HHS.out.step (a := va2) (c := vc2) HX.out hlk (MA.out.drew.trans m2) (ownsRow_base ho (Nat.le_trans hGd MA.out.size))
      have FIN := Lib.hid (show Mine.Mod (one G) w5 _ ∧ HalfE _ w.heap.size G E xll (k + 1) from ⟨(MX.out.trans ((MA.out.drew.trans m2).mono (fun _ _ e => e.elim))).trans ms2, hs2⟩)
      have FB := Lib.hid ((KA.out.drew.mod m2 (fun e => e)).mod ms2 (fun e => by have e' : wr.heap.size = G := e; omega))
      dsimp only [EntV.cs] at FIN FB
      clear hs2 ms2 ho m2
      refine wpAnyH_ready (rs := [9]) (by kernel_rfl) (by simp) (AllReadyH.cons rfl (fun J hJ => ?_) <| AllReadyH.nil)
      rw [if_pos (by kernel_rfl)]
      simp only [List.getElem_toArray, List.getElem_cons_succ, List.getElem_cons_zero]
      go_simp
      refine hJ.out _ _ ⟨by rw [FB.out.cell]; rfl, by rw [FB.out.cell]; rfl, by rw [FB.out.cell]; rfl, by rw [FB.out.cell]; rfl, by rw [FB.out.cell]; rfl, by rw [FB.out.cell]; rfl, by rw [FB.out.cell]; rfl, by rw [FB.out.cell]; rfl, by rw [FB.out.cell]; rfl, by rw [FB.out.cell]; rfl, by rw [FB.out.cell]; rfl, by rw [FB.out.cell]; rfl, by rw [FB.out.cell]; rfl, by rw [FB.out.cell]; rfl⟩ (fun hS => ?_)
      clear hJ J th2
      try simp only [Act.put, List.setIfInBounds_toArray, List.set_cons_zero, List.set_cons_succ]
      refine wpAnyH_done (by kernel_rfl) ?_ _
      try simp only [List.getElem_toArray, List.getElem_cons_succ, List.getElem_cons_zero]
      try simp only [Act.put, List.setIfInBounds_toArray, List.set_cons_zero, List.set_cons_succ]
      go_wp2_with fail
      go_roundg (xll - (k + 1))
      all_goals first
        | omega
        | exact ⟨k + 1, rfl, by go_num, by omega, FIN.out.1, Lib.hid FIN.out.2⟩
    · have hkl : xll = k := by omega
      subst hkl
      obtain ⟨Q, hq, hsp, hb⟩ := hst.out
      rw [Nat.sub_self, List.replicate_zero, List.append_nil] at hb
      rw [List.take_of_length_le (by rw [HHE.out.n]; omega)] at hq
      have hQ : Q.length = xll := by rw [hq.1, HHE.out.n]
      have hK := HKH.out.mod mx (fun e => by have e' : w.heap.size = G := e; have := HGK.out; omega)
      have hZ := HKZ.out.mod mx (fun e => by have e' : w.heap.size + 1 = G := e; have := HGK.out; omega)
      have oB := ownsRow_mod HOB.out mx (fun j hj => LBG.out _ _ _ _ _ HOB.out j hj (by decide))
      have oV := ownsRow_mod HOV.out mx (fun j hj => LBG.out _ _ _ _ _ HOV.out j hj (by decide))
      have b4 := hK.cell 4
      simp only [List.getElem?_cons_zero, List.getElem?_cons_succ] at b4
      have f4 := hK.frozen 4
      have mS := (Mine.Mod.refl (one w.heap.size) wr).setCell ⟨w.heap.size, 4, none⟩ (fun _ => rfl) (.slice (some ⟨G, 0, none⟩) xll xll)
      have hK2 := hK.set 4 (.slice (some ⟨G, 0, none⟩) xll xll)
      have hZ2 := hZ.mod mS (fun e => by have e' : w.heap.size + 1 = w.heap.size := e; omega)
      have hGr := HGK.out
      obtain ⟨w6, hw6⟩ : ∃ w6, wr.setCell ⟨w.heap.size, 4, none⟩ (.slice (some ⟨G, 0, none⟩) xll xll) = w6 := ⟨_, rfl⟩
      rw [hw6] at mS hK2 hZ2
      dsimp only [List.set_cons_zero, List.set_cons_succ] at hK2
      have no1 : ∀ {e s n xs v}, wr.ownsRow (w.heap.size + 1 + 1) e s v n xs → ∀ j, v.ownBlock = some j → ¬ one w.heap.size j := fun ho j hj e' => by have e2 : j = w.heap.size := e'; have := (ho.lt j hj).1; omega
      have HB2 := Lib.hid (ownsRow_mod oB mS (no1 oB))
      have HV2 := Lib.hid (ownsRow_mod oV mS (no1 oV))
      have HL2 := Lib.hid (hb.mod mS (fun e => by have e' : G = w.heap.size := e; omega))
      have neS : ∀ {y : EntV}, ownSp wr w.heap.size y → ∀ j, (Value.slice y.o.sa y.o.slen y.o.scap).ownBlock = some j → ¬ one w.heap.size j := by
        intro y hy j hj e
        have e' : j = w.heap.size := e
        subst e'
        obtain ⟨cs2, hb2⟩ := ownsRow_type hy hj
        have e2 := Option.some.inj (hK.symm.trans hb2)
        injection e2 with _ h2 _
        exact absurd h2 (by decide)
      have HS2 := Lib.hid (show ∀ x ∈ Q, ownSp w6 w.heap.size x from fun x hx => ownsRow_mod (hsp x hx) mS (neS (hsp x hx)))
      have MS2 := Lib.hid (mw.transIn mS (fun b hb e => by have e' : b = w.heap.size := e; omega))
      have K2 := Lib.hid hK2
      have Z2 := Lib.hid hZ2
      have HQ := Lib.hid hq
      have HQL := Lib.hid hQ
      clear hst mx mw hq hsp hb hQ hK hZ oB oV mS hK2 hZ2 no1 neS
      go_upto_region 9 with fail
      clear hw6 b4 f4
      have hK := K2.out
      have hZ := Z2.out
      have a0 := hK.cell 0
      have a1 := hK.cell 1
      have a2 := hK.cell 2
      have a3 := hK.cell 3
      have a4 := hK.cell 4
      simp only [List.getElem?_cons_zero, List.getElem?_cons_succ] at a0 a1 a2 a3 a4
      have d0 := hZ.cell 0
      have d1 := hZ.cell 1
      have d2 := hZ.cell 2
      have d3 := hZ.cell 3
      have d4 := hZ.cell 4
      simp only [List.getElem?_cons_zero, List.getElem?_cons_succ] at d0 d1 d2 d3 d4
      have r0 := hZ.frozen 0
      have r1 := hZ.frozen 1
      have r2 := hZ.frozen 2
      have r3 := hZ.frozen 3
      have r4 := hZ.frozen 4
      have KF := Lib.hid (((((hZ.set 0 (.slice ba xbl bc)).set 1 (.slice va xvl vc)).set 2 (.int .i64 xfr)).set 3 (.int .i64 xnum)).set 4 (.slice (some ⟨G, 0, none⟩) xll xll))
      have mT := ((((((Mine.Mod.refl (one (w.heap.size + 1)) w6).setCell ⟨w.heap.size + 1, 0, none⟩ (fun _ => rfl) (.slice ba xbl bc)).setCell ⟨w.heap.size + 1, 1, none⟩ (fun _ => rfl) (.slice va xvl vc)).setCell ⟨w.heap.size + 1, 2, none⟩ (fun _ => rfl) (.int .i64 xfr)).setCell ⟨w.heap.size + 1, 3, none⟩ (fun _ => rfl) (.int .i64 xnum)).setCell ⟨w.heap.size + 1, 4, none⟩ (fun _ => rfl) (.slice (some ⟨G, 0, none⟩) xll xll))
      have no1 : ∀ {e s n xs v}, w6.ownsRow (w.heap.size + 1 + 1) e s v n xs → ∀ j, v.ownBlock = some j → ¬ one (w.heap.size + 1) j := fun ho j hj e' => by have e2 : j = w.heap.size + 1 := e'; have := (ho.lt j hj).1; omega
      have neS : ∀ {y : EntV}, ownSp w6 w.heap.size y → ∀ j, (Value.slice y.o.sa y.o.slen y.o.scap).ownBlock = some j → ¬ one (w.heap.size + 1) j := by
        intro y hy j hj e
        have e' : j = w.heap.size + 1 := e
        subst e'
        obtain ⟨cs2, hb2⟩ := ownsRow_type hy hj
        have e2 := Option.some.inj (hZ.symm.trans hb2)
        injection e2 with _ h2 _
        exact absurd h2 (by decide)
      have HB3 := Lib.hid (ownsRow_base (ownsRow_mod HB2.out mT (no1 HB2.out)) (show w.heap.size ≤ w.heap.size + 1 + 1 by omega))
      have HV3 := Lib.hid (ownsRow_base (ownsRow_mod HV2.out mT (no1 HV2.out)) (show w.heap.size ≤ w.heap.size + 1 + 1 by omega))
      have HL3 := Lib.hid (HL2.out.mod mT (fun e => by have e' : G = w.heap.size + 1 := e; omega))
      have HS3 := Lib.hid (fun x hx => ownsRow_mod (HS2.out x hx) mT (neS (HS2.out x hx)))
      have MS3 := Lib.hid (MS2.out.transIn mT (fun b hb e => by have e' : b = w.heap.size + 1 := e; omega))
      clear hK hZ mT no1 neS
      go_wp2_with fail
      exact bodyPost_ret (results_hh1 rfl _ _ (w.heap.size + 1) [.slice ba xbl bc, .slice va xvl vc, .int .i64 xfr, .int .i64 xnum, .slice (some ⟨G, 0, none⟩) xll xll] rfl rfl (blk_range KF.out)) rfl ⟨⟨ba, xbl, bc, va, xvl, vc, xfr, xnum, some ⟨G, 0, none⟩, xll, xll⟩, Q, rfl, rfl, rfl, rfl, rfl, rfl, HQ.out, ⟨HB3.out, HV3.out, blk_ownsRow (more := []) (by omega) (by simpa using HL3.out) (by rw [flat_length EntV.len, HQL.out]) (Nat.le_refl _) (show xll ≤ maxLen by unfold maxLen; omega) (by rw [flat_length EntV.len, HQL.out]; rfl), HS3.out⟩, MS3.out⟩
end

end Go.Proofs.YtlidmajcdjlcnaaGreatDoor

namespace Go.Proofs.YtlidmajcdjlcnaaGreatDoor
open Go.RowKit Go.Shelf Go.Mine
open Classical

theorem orderL_cons {last p : Int} {V : List Int} {num : Int} {x : EntV} {r : List EntV} : orderL last p V num (x :: r) = if raiseE V x.o.site x.o.seq = 0 then
      (if x.o.num = 0 then (if p = 0 ∨ p = x.o.site then orderL last x.o.site (raiseL V x.o.site) num r else false)
       else (if p = 0 ∧ last < x.o.num ∧ x.o.num ≤ num then orderL x.o.num 0 (raiseL V x.o.site) num r else false))
    else false := rfl

set_option maxHeartbeats 4000000 in
set_option maxRecDepth 1000000 in
theorem order_any (w : World) (h : HistV) (V : List Int) (E : List EntV) (hv : IsVec w h.va h.vl h.vc V) (he : IsEnts w h.la h.ll h.lc E) :
    Calls Tryz.prog 52 #[h.v] w fun e w' => e = .returned (.bool (orderL h.from_ 0 V h.num E)) ∧ Mine.Mod none_ w w' := by
  obtain ⟨R, hR⟩ : ∃ R, R = orderL h.from_ 0 V h.num E := ⟨_, rfl⟩
  rw [← hR]
  have hle := he.le
  have hcap := he.big
  unfold maxLen at hcap
  obtain ⟨xba, xbl, xbc, xva, xvl, xvc, xfr, xnum, xla, xll, xlc⟩ := h
  dsimp only at hle hcap he hv hR
  have HB := Lib.hid hR
  have H := Lib.hid he
  have HV := Lib.hid hv
  have HN := Lib.hid he.n
  clear hR he hv
  obtain ⟨W0, hW0⟩ : ∃ W0, w.alloc (.cells #[.slice xba xbl xbc, .slice xva xvl xvc, .int .i64 xfr, .int .i64 xnum, .slice xla xll xlc] 39) = W0 := ⟨_, rfl⟩
  obtain ⟨K, hK⟩ : ∃ K, w.heap.size = K := ⟨_, rfl⟩
  have m0 : Mine.Mod none_ w W0 := by rw [← hW0]; exact (Mine.Mod.refl none_ w).alloc _
  have k0 : Blk W0 K [.slice xba xbl xbc, .slice xva xvl xvc, .int .i64 xfr, .int .i64 xnum, .slice xla xll xlc] 39 := by rw [← hW0, ← hK]; exact Blk.new (w := w) (cs := [.slice xba xbl xbc, .slice xva xvl xvc, .int .i64 xfr, .int .i64 xnum, .slice xla xll xlc])
  obtain ⟨cs0, hcs0⟩ : ∃ cs0 : List Value, cs0 = [.slice xba xbl xbc, .slice xva xvl xvc, .int .i64 xfr, .int .i64 xnum, .slice xla xll xlc] := ⟨_, rfl⟩
  rw [← hcs0] at k0
  have HC0 := Lib.hid (show ∀ W, Blk W K cs0 39 → W.cell? ⟨K, 0, none⟩ = some (.slice xba xbl xbc) from fun W k => by rw [k.cell, hcs0]; rfl)
  have HC1 := Lib.hid (show ∀ W, Blk W K cs0 39 → W.cell? ⟨K, 1, none⟩ = some (.slice xva xvl xvc) from fun W k => by rw [k.cell, hcs0]; rfl)
  have HC2 := Lib.hid (show ∀ W, Blk W K cs0 39 → W.cell? ⟨K, 2, none⟩ = some (.int .i64 xfr) from fun W k => by rw [k.cell, hcs0]; rfl)
  have HC3 := Lib.hid (show ∀ W, Blk W K cs0 39 → W.cell? ⟨K, 3, none⟩ = some (.int .i64 xnum) from fun W k => by rw [k.cell, hcs0]; rfl)
  have HC4 := Lib.hid (show ∀ W, Blk W K cs0 39 → W.cell? ⟨K, 4, none⟩ = some (.slice xla xll xlc) from fun W k => by rw [k.cell, hcs0]; rfl)
  have M0 := Lib.hid m0
  have K0 := Lib.hid k0
  have hKw : w.heap.size ≤ K := by omega
  have c0 := HC0.out W0 k0
  have c1 := HC1.out W0 k0
  have c2 := HC2.out W0 k0
  have c3 := HC3.out W0 k0
  have c4 := HC4.out W0 k0
  clear m0 k0 hcs0
  go_enter Tryz.func52, Tryz.ntmps52
  go_upto_region 1 with fail
  clear hW0 hK
  go_quiet (fail)
  have MQ := Lib.hid (M0.out.trans ((Mine.Mod.refl none_ W0).drewN nq))
  have KQ := Lib.hid (K0.out.mod ((Mine.Mod.refl none_ W0).drewN nq) (fun e => e))
  generalize W0.drewN nq = WQ at MQ KQ ⊢
  clear c0 c1 c2 c3 c4
  have c4 := HC4.out WQ KQ.out
  go_wp2_with fail
  clear c4
  go_loopg [3, 4, 5, 17] xll (fun g s3 s4 s5 s17 wx => ∃ (k : Nat) (last p : Int) (va : Option Addr) (vn vc : Nat) (V' : List Int), g = xll - k ∧ s3 = .int .i64 last ∧ s4 = .int .i64 p ∧ s5 = .slice va vn vc ∧ s17 = .int .i64 k ∧ k ≤ xll ∧ Mine.Mod none_ w wx ∧ RowKit.Hid (Blk wx K cs0 39 ∧ IsVec wx va vn vc V' ∧ R = orderL last p V' xnum (E.drop k)))
  case atStart => exact ⟨0, xfr, 0, xva, xvl, xvc, V, rfl, rfl, rfl, rfl, rfl, Nat.zero_le _, MQ.out, Lib.hid ⟨KQ.out, HV.out.grown MQ.out, HB.out⟩⟩
  case round =>
    obtain ⟨k, last, p, va, vn, vc, V', rfl, rfl, rfl, rfl, rfl, hk, mx, hst⟩ := hrel
    have MX := Lib.hid mx
    obtain ⟨kx, hv, hR⟩ := hst.out
    by_cases hlk : k < xll
    · obtain ⟨x, hx⟩ : ∃ x, E[k]? = some x := ⟨E[k]'(by rw [HN.out]; exact hlk), by simp⟩
      rw [drop_cons hx, orderL_cons] at hR
      have HR := Lib.hid hR
      have KX := Lib.hid kx
      have hxo := (H.out.grown mx).ok x (List.mem_of_getElem? hx)
      obtain ⟨b, off, rfl, hr⟩ := (H.out.grown mx).ents k x hx
      have c0 := hr 0 _ rfl
      have c1 := hr 1 _ rfl
      have c2 := hr 2 _ rfl
      have c3 := hr 3 _ rfl
      have c4 := hr 4 _ rfl
      have c5 := hr 5 _ rfl
      have c6 := hr 6 _ rfl
      have c7 := hr 7 _ rfl
      have c8 := hr 8 _ rfl
      have c9 := hr 9 _ rfl
      have c10 := hr 10 _ rfl
      have c11 := hr 11 _ rfl
      have c12 := hr 12 _ rfl
      have c13 := hr 13 _ rfl
      rw [Nat.add_zero] at c0
      have mE : Mine.Mod none_ wr (wr.alloc (.cells x.cs.toArray 35)) := (Mine.Mod.refl none_ wr).alloc _
      have ME := Lib.hid mE
      have KE := Lib.hid (Blk.new (w := wr) (cs := x.cs) (t := 35))
      have HS := Lib.hid (show ((-9223372036854775808 ≤ x.o.site ∧ x.o.site ≤ 9223372036854775807)) from hxo.1.i1)
      have HM := Lib.hid (vraise_any _ va vn vc V' x.o.site x.o.seq (hv.grown mE) HS.out)
      have HVI := Lib.hid hv.ok
      dsimp only [EntV.cs] at ME KE HM
      clear kx hv hR hst hx hxo hr mE mx
      go_wp2_with fail
      refine HM.out.mono ?_
      rintro e w1 ⟨hr, m1⟩
      have M1 := Lib.hid (MX.out.trans (ME.out.trans m1))
      have K1 := Lib.hid ((KX.out.mod ME.out (fun e => e)).mod m1 (fun e => e))
      have KE1 := Lib.hid (KE.out.mod m1 (fun e => e))
      have e0 : w1.cell? ⟨wr.heap.size, 0, none⟩ = some (.int .i64 x.o.site) := by rw [KE1.out.cell]; rfl
      have e2 : w1.cell? ⟨wr.heap.size, 2, none⟩ = some (.int .i64 x.o.num) := by rw [KE1.out.cell]; rfl
      have d3 := HC3.out w1 K1.out
      clear m1 c0 c1 c2 c3 c4 c5 c6 c7 c8 c9 c10 c11 c12 c13 HM ME KE KE1 KX MX
      rcases hr with ⟨hne, rfl⟩ | ⟨hz, va', vn', vc', rfl, ho⟩
      · have hb : (raiseE V' x.o.site x.o.seq == 0) = false := by simpa using hne
        have HE := Lib.hid (show R = false by rw [HR.out, if_neg hne])
        generalize raiseE V' x.o.site x.o.seq = ee at hne hb ⊢
        clear HR HVI
        go_wp2_with fail
        go_ret
        exact ⟨by rw [HE.out]; rfl, M1.out⟩
      have HR2 := Lib.hid (HR.out.trans (if_pos hz))
      have hrv := raise_vec hz
      have HV1 := Lib.hid (own_vec ho (raiseL_i64 hrv.1 HVI.out))
      have hs1 := (nameOk_site hrv.2).1
      clear ho hz hrv HR HVI
      by_cases hn : x.o.num = 0
      · have HR3 := Lib.hid (HR2.out.trans (if_pos hn))
        rw [hn] at e2
        clear hn HR2
        by_cases hp : p = 0
        · have HG := Lib.hid (HR3.out.trans (if_pos (Or.inl hp)))
          subst hp
          clear HR3
          go_wp2_with fail
          go_roundg (xll - (k + 1))
          all_goals first
            | omega
            | exact ⟨k + 1, _, _, va', vn', vc', _, rfl, rfl, rfl, rfl, by go_num, by omega, M1.out, Lib.hid ⟨K1.out, HV1.out, HG.out⟩⟩
        have hb1 : (p == 0) = false := by simpa using hp
        by_cases hq : p = x.o.site
        · have HG := Lib.hid (HR3.out.trans (if_pos (Or.inr hq)))
          rw [← hq] at e0 HG HV1 hs1
          clear hq HR3
          go_wp2_with fail
          go_roundg (xll - (k + 1))
          all_goals first
            | omega
            | exact ⟨k + 1, _, _, va', vn', vc', _, rfl, rfl, rfl, rfl, by go_num, by omega, M1.out, Lib.hid ⟨K1.out, HV1.out, HG.out⟩⟩
        have HE := Lib.hid (HR3.out.trans (if_neg (fun e => e.elim hp hq)))
        have hb2 : (p == x.o.site) = false := by simpa using hq
        have hb6 : (p != x.o.site) = true := by simpa using hq
        clear HR3
        go_wp2_with fail
        go_ret
        exact ⟨by rw [HE.out]; rfl, M1.out⟩
      have HR3 := Lib.hid (HR2.out.trans (if_neg hn))
      have hb3 : (x.o.num == 0) = false := by simpa using hn
      have hb4 : (x.o.num != 0) = true := by simpa using hn
      by_cases hp : p = 0
      case neg =>
        have hb1 : (p == 0) = false := by simpa using hp
        have hb5 : (p != 0) = true := by simpa using hp
        have HE := Lib.hid (HR3.out.trans (if_neg (fun e => hp e.1)))
        clear HR3 HR2
        go_wp2_with fail
        go_ret
        exact ⟨by rw [HE.out]; rfl, M1.out⟩
      subst hp
      clear HR2
      cases hl1 : decide (x.o.num ≤ last)
      case true =>
        have HE := Lib.hid (HR3.out.trans (if_neg (fun e => by simp at hl1; omega)))
        clear HR3
        go_wp2_with fail
        go_ret
        exact ⟨by rw [HE.out]; rfl, M1.out⟩
      cases hl2 : decide (xnum < x.o.num)
      case true =>
        have HE := Lib.hid (HR3.out.trans (if_neg (fun e => by simp at hl2; omega)))
        clear HR3
        go_wp2_with fail
        go_ret
        exact ⟨by rw [HE.out]; rfl, M1.out⟩
      have HG := Lib.hid (HR3.out.trans (if_pos (by simp at hl1 hl2; omega)))
      clear HR3
      go_wp2_with fail
      go_roundg (xll - (k + 1))
      all_goals first
        | omega
        | exact ⟨k + 1, _, _, va', vn', vc', _, rfl, rfl, rfl, rfl, by go_num, by omega, M1.out, Lib.hid ⟨K1.out, HV1.out, HG.out⟩⟩
    · have hkl : k = xll := by omega
      rw [List.drop_of_length_le (by rw [HN.out]; omega)] at hR
      have HE := Lib.hid (show R = true from hR)
      clear kx hv hR hst mx
      go_wp2_with fail
      go_ret
      exact ⟨by rw [HE.out]; rfl, MX.out⟩

end Go.Proofs.YtlidmajcdjlcnaaGreatDoor

namespace Go.Proofs.YtlidmajcdjlcnaaGreatDoor
open Go.RowKit Go.Shelf Go.Mine
open Classical

/-- The four questions, one by one. -/
noncomputable def rightB (h : HistV) (B : List CellV) (V : List Int) (E : List EntV) : Nat → Bool
  | 0 => numsOk h
  | 1 => baseOk B V
  | 2 => entsOk E (h.bl : Int)
  | _ => orderL h.from_ 0 V h.num E
theorem right_no {h : HistV} {B : List CellV} {V : List Int} {E : List EntV} {k : Nat} (hb : rightB h B V E k = false) : histOk h B V E = false := by
  unfold histOk
  match k, hb with
  | 0, hb => rw [show numsOk h = false from hb]; rfl
  | 1, hb => rw [show baseOk B V = false from hb, Bool.and_false]; rfl
  | 2, hb => rw [show entsOk E (h.bl : Int) = false from hb, Bool.and_false]; rfl
  | (_ + 3), hb => rw [show orderL h.from_ 0 V h.num E = false from hb, Bool.and_false]
theorem right_all {h : HistV} {B : List CellV} {V : List Int} {E : List EntV} (hb : ∀ j, j < 4 → rightB h B V E j = true) : histOk h B V E = true := by
  unfold histOk
  rw [show numsOk h = true from hb 0 (by omega), show baseOk B V = true from hb 1 (by omega), show entsOk E (h.bl : Int) = true from hb 2 (by omega), show orderL h.from_ 0 V h.num E = true from hb 3 (by omega)]
  rfl

set_option maxHeartbeats 4000000 in
set_option maxRecDepth 1000000 in
theorem hmay_any (w : World) (h : HistV) (B : List CellV) (V : List Int) (E : List EntV) (hh : HistIs w h B V E) (hl : h.bl ≤ 1099511627776) :
    Calls Tryz.prog 21 #[h.v] w fun e w' => e = .returned (.bool (histOk h B V E)) ∧ Mine.Mod none_ w w' := by
  obtain ⟨R, hR⟩ : ∃ R, R = histOk h B V E := ⟨_, rfl⟩
  rw [← hR]
  have C0 := Lib.hid (show ∀ W, Mine.Mod none_ w W → Calls Tryz.prog 49 #[h.v] W fun e w' => e = .returned (.bool (rightB h B V E 0)) ∧ Mine.Mod none_ W w' from fun W m => numbers_any W h)
  have C1 := Lib.hid (show ∀ W, Mine.Mod none_ w W → Calls Tryz.prog 50 #[h.v] W fun e w' => e = .returned (.bool (rightB h B V E 1)) ∧ Mine.Mod none_ W w' from fun W m => base_any W h B V (hh.b.grown m) (hh.v.grown m) hl)
  have C2 := Lib.hid (show ∀ W, Mine.Mod none_ w W → rightB h B V E 0 = true → Calls Tryz.prog 51 #[h.v] W fun e w' => e = .returned (.bool (rightB h B V E 2)) ∧ Mine.Mod none_ W w' from fun W m hn => entries_any W h E (hh.e.grown m) (by
    have hn2 : numsOk h = true := hn
    unfold numsOk at hn2
    simp only [Bool.and_eq_true, decide_eq_true_eq] at hn2
    omega))
  have C3 := Lib.hid (show ∀ W, Mine.Mod none_ w W → Calls Tryz.prog 52 #[h.v] W fun e w' => e = .returned (.bool (rightB h B V E 3)) ∧ Mine.Mod none_ W w' from fun W m => order_any W h V E (hh.v.grown m) (hh.e.grown m))
  have HNO := Lib.hid (show ∀ k, rightB h B V E k = false → R = false from fun k e => hR.trans (right_no e))
  have HAL := Lib.hid (show (∀ j, j < 4 → rightB h B V E j = true) → R = true from fun e => hR.trans (right_all e))
  clear hh hR
  obtain ⟨xba, xbl, xbc, xva, xvl, xvc, xfr, xnum, xla, xll, xlc⟩ := h
  obtain ⟨W0, hW0⟩ : ∃ W0, w.alloc (.cells #[.slice xba xbl xbc, .slice xva xvl xvc, .int .i64 xfr, .int .i64 xnum, .slice xla xll xlc] 39) = W0 := ⟨_, rfl⟩
  obtain ⟨K, hK⟩ : ∃ K, w.heap.size = K := ⟨_, rfl⟩
  have m0 : Mine.Mod none_ w W0 := by rw [← hW0]; exact (Mine.Mod.refl none_ w).alloc _
  have k0 : Blk W0 K [.slice xba xbl xbc, .slice xva xvl xvc, .int .i64 xfr, .int .i64 xnum, .slice xla xll xlc] 39 := by rw [← hW0, ← hK]; exact Blk.new (w := w) (cs := [.slice xba xbl xbc, .slice xva xvl xvc, .int .i64 xfr, .int .i64 xnum, .slice xla xll xlc])
  obtain ⟨cs0, hcs0⟩ : ∃ cs0 : List Value, cs0 = [.slice xba xbl xbc, .slice xva xvl xvc, .int .i64 xfr, .int .i64 xnum, .slice xla xll xlc] := ⟨_, rfl⟩
  rw [← hcs0] at k0
  have HC0 := Lib.hid (show ∀ W, Blk W K cs0 39 → W.cell? ⟨K, 0, none⟩ = some (.slice xba xbl xbc) from fun W k => by rw [k.cell, hcs0]; rfl)
  have HC1 := Lib.hid (show ∀ W, Blk W K cs0 39 → W.cell? ⟨K, 1, none⟩ = some (.slice xva xvl xvc) from fun W k => by rw [k.cell, hcs0]; rfl)
  have HC2 := Lib.hid (show ∀ W, Blk W K cs0 39 → W.cell? ⟨K, 2, none⟩ = some (.int .i64 xfr) from fun W k => by rw [k.cell, hcs0]; rfl)
  have HC3 := Lib.hid (show ∀ W, Blk W K cs0 39 → W.cell? ⟨K, 3, none⟩ = some (.int .i64 xnum) from fun W k => by rw [k.cell, hcs0]; rfl)
  have HC4 := Lib.hid (show ∀ W, Blk W K cs0 39 → W.cell? ⟨K, 4, none⟩ = some (.slice xla xll xlc) from fun W k => by rw [k.cell, hcs0]; rfl)
  have M0 := Lib.hid m0
  have K0 := Lib.hid k0
  have hKw : w.heap.size ≤ K := by omega
  have c0 := HC0.out W0 k0
  have c1 := HC1.out W0 k0
  have c2 := HC2.out W0 k0
  have c3 := HC3.out W0 k0
  have c4 := HC4.out W0 k0
  clear m0 k0 hcs0
  go_enter Tryz.func21, Tryz.ntmps21
  go_upto_region 1 with fail
  clear hW0 hK
  go_wp2_with fail
  obtain ⟨WF, hWF⟩ : ∃ WF, W0.alloc (.cells #[.func (.func 49) #[] #[], .func (.func 50) #[] #[], .func (.func 51) #[] #[], .func (.func 52) #[] #[]] 58) = WF := ⟨_, rfl⟩
  obtain ⟨KF, hKF⟩ : ∃ KF, W0.heap.size = KF := ⟨_, rfl⟩
  have mF : Mine.Mod none_ W0 WF := by rw [← hWF]; exact (Mine.Mod.refl none_ W0).alloc _
  have kF : Blk WF KF [.func (.func 49) #[] #[], .func (.func 50) #[] #[], .func (.func 51) #[] #[], .func (.func 52) #[] #[]] 58 := by rw [← hWF, ← hKF]; exact Blk.new (w := W0) (cs := [.func (.func 49) #[] #[], .func (.func 50) #[] #[], .func (.func 51) #[] #[], .func (.func 52) #[] #[]])
  have MF := Lib.hid (M0.out.trans mF)
  have KKF := Lib.hid (K0.out.mod mF (fun e => e))
  have FF := Lib.hid kF
  rw [hWF, hKF]
  clear c0 c1 c2 c3 c4 mF kF hWF hKF M0 K0
  go_loopg [7] 4 (fun g s7 wx => ∃ k : Nat, g = 4 - k ∧ s7 = .int .i64 k ∧ k ≤ 4 ∧ Mine.Mod none_ w wx ∧ RowKit.Hid (Blk wx K cs0 39 ∧ Blk wx KF [.func (.func 49) #[] #[], .func (.func 50) #[] #[], .func (.func 51) #[] #[], .func (.func 52) #[] #[]] 58 ∧ ∀ j, j < k → rightB ⟨xba, xbl, xbc, xva, xvl, xvc, xfr, xnum, xla, xll, xlc⟩ B V E j = true))
  case atStart => exact ⟨0, rfl, rfl, Nat.zero_le _, MF.out, Lib.hid ⟨KKF.out, FF.out, fun j hj => absurd hj (Nat.not_lt_zero _)⟩⟩
  case round =>
    obtain ⟨k, rfl, rfl, hk, mx, hst⟩ := hrel
    have MX := Lib.hid mx
    obtain ⟨kx, fx, hall⟩ := hst.out
    have KX := Lib.hid kx
    have FX := Lib.hid fx
    have HALL := Lib.hid hall
    by_cases hlk : k < 4
    · have HN := Lib.hid (HNO.out k)
      have HY := Lib.hid (show rightB ⟨xba, xbl, xbc, xva, xvl, xvc, xfr, xnum, xla, xll, xlc⟩ B V E k = true → ∀ j, j < k + 1 → rightB ⟨xba, xbl, xbc, xva, xvl, xvc, xfr, xnum, xla, xll, xlc⟩ B V E j = true from fun e j hj => by
        rcases Nat.lt_succ_iff_lt_or_eq.1 hj with h1 | h1
        · exact hall j h1
        · rw [h1]; exact e)
      have c0 := HC0.out wr kx
      have c1 := HC1.out wr kx
      have c2 := HC2.out wr kx
      have c3 := HC3.out wr kx
      have c4 := HC4.out wr kx
      have k4 : k = 0 ∨ k = 1 ∨ k = 2 ∨ k = 3 := by omega
      clear kx fx hall hst mx hk hlk
      rcases k4 with rfl | rfl | rfl | rfl
      · have d0 : wr.cell? ⟨KF, 0, none⟩ = some (.func (.func 49) #[] #[]) := by rw [FX.out.cell]; rfl
        have HC := Lib.hid (C0.out wr MX.out)
        generalize hbb : rightB ⟨xba, xbl, xbc, xva, xvl, xvc, xfr, xnum, xla, xll, xlc⟩ B V E 0 = bb at HC HN HY
        clear hbb
        cases bb
        · have HE := Lib.hid (show R = false from HN.out rfl)
          go_wp2_with fail
          refine HC.out.mono ?_
          rintro e w1 ⟨rfl, m1⟩
          have M1 := Lib.hid (MX.out.trans m1)
          clear m1
          go_wp2_with fail
          go_ret
          exact ⟨by rw [HE.out]; rfl, M1.out⟩
        · go_wp2_with fail
          refine HC.out.mono ?_
          rintro e w1 ⟨rfl, m1⟩
          have M1 := Lib.hid (MX.out.trans m1)
          have K1 := Lib.hid (KX.out.mod m1 (fun e => e))
          have F1 := Lib.hid (FX.out.mod m1 (fun e => e))
          clear m1
          go_wp2_with fail
          go_roundg (4 - (0 + 1))
          all_goals first
            | omega
            | exact ⟨0 + 1, rfl, by go_num, by omega, M1.out, Lib.hid ⟨K1.out, F1.out, HY.out trivial⟩⟩
      · have d1 : wr.cell? ⟨KF, 1, none⟩ = some (.func (.func 50) #[] #[]) := by rw [FX.out.cell]; rfl
        have HC := Lib.hid (C1.out wr MX.out)
        generalize hbb : rightB ⟨xba, xbl, xbc, xva, xvl, xvc, xfr, xnum, xla, xll, xlc⟩ B V E 1 = bb at HC HN HY
        clear hbb
        cases bb
        · have HE := Lib.hid (show R = false from HN.out rfl)
          go_wp2_with fail
          refine HC.out.mono ?_
          rintro e w1 ⟨rfl, m1⟩
          have M1 := Lib.hid (MX.out.trans m1)
          clear m1
          go_wp2_with fail
          go_ret
          exact ⟨by rw [HE.out]; rfl, M1.out⟩
        · go_wp2_with fail
          refine HC.out.mono ?_
          rintro e w1 ⟨rfl, m1⟩
          have M1 := Lib.hid (MX.out.trans m1)
          have K1 := Lib.hid (KX.out.mod m1 (fun e => e))
          have F1 := Lib.hid (FX.out.mod m1 (fun e => e))
          clear m1
          go_wp2_with fail
          go_roundg (4 - (1 + 1))
          all_goals first
            | omega
            | exact ⟨1 + 1, rfl, by go_num, by omega, M1.out, Lib.hid ⟨K1.out, F1.out, HY.out trivial⟩⟩
      · have d2 : wr.cell? ⟨KF, 2, none⟩ = some (.func (.func 51) #[] #[]) := by rw [FX.out.cell]; rfl
        have HC := Lib.hid (C2.out wr MX.out (HALL.out 0 (by omega)))
        generalize hbb : rightB ⟨xba, xbl, xbc, xva, xvl, xvc, xfr, xnum, xla, xll, xlc⟩ B V E 2 = bb at HC HN HY
        clear hbb
        cases bb
        · have HE := Lib.hid (show R = false from HN.out rfl)
          go_wp2_with fail
          refine HC.out.mono ?_
          rintro e w1 ⟨rfl, m1⟩
          have M1 := Lib.hid (MX.out.trans m1)
          clear m1
          go_wp2_with fail
          go_ret
          exact ⟨by rw [HE.out]; rfl, M1.out⟩
        · go_wp2_with fail
          refine HC.out.mono ?_
          rintro e w1 ⟨rfl, m1⟩
          have M1 := Lib.hid (MX.out.trans m1)
          have K1 := Lib.hid (KX.out.mod m1 (fun e => e))
          have F1 := Lib.hid (FX.out.mod m1 (fun e => e))
          clear m1
          go_wp2_with fail
          go_roundg (4 - (2 + 1))
          all_goals first
            | omega
            | exact ⟨2 + 1, rfl, by go_num, by omega, M1.out, Lib.hid ⟨K1.out, F1.out, HY.out trivial⟩⟩
      · have d3 : wr.cell? ⟨KF, 3, none⟩ = some (.func (.func 52) #[] #[]) := by rw [FX.out.cell]; rfl
        have HC := Lib.hid (C3.out wr MX.out)
        generalize hbb : rightB ⟨xba, xbl, xbc, xva, xvl, xvc, xfr, xnum, xla, xll, xlc⟩ B V E 3 = bb at HC HN HY
        clear hbb
        cases bb
        · have HE := Lib.hid (show R = false from HN.out rfl)
          go_wp2_with fail
          refine HC.out.mono ?_
          rintro e w1 ⟨rfl, m1⟩
          have M1 := Lib.hid (MX.out.trans m1)
          clear m1
          go_wp2_with fail
          go_ret
          exact ⟨by rw [HE.out]; rfl, M1.out⟩
        · go_wp2_with fail
          refine HC.out.mono ?_
          rintro e w1 ⟨rfl, m1⟩
          have M1 := Lib.hid (MX.out.trans m1)
          have K1 := Lib.hid (KX.out.mod m1 (fun e => e))
          have F1 := Lib.hid (FX.out.mod m1 (fun e => e))
          clear m1
          go_wp2_with fail
          go_roundg (4 - (3 + 1))
          all_goals first
            | omega
            | exact ⟨3 + 1, rfl, by go_num, by omega, M1.out, Lib.hid ⟨K1.out, F1.out, HY.out trivial⟩⟩
    · obtain rfl : k = 4 := by omega
      have HE := Lib.hid (show R = true from HAL.out hall)
      clear kx fx hall hst mx
      go_wp2_with fail
      go_ret
      exact ⟨by rw [HE.out]; rfl, MX.out⟩

end Go.Proofs.YtlidmajcdjlcnaaGreatDoor

namespace Go.Proofs.YtlidmajcdjlcnaaGreatDoor
open Go.RowKit Go.Shelf Go.Mine
open Classical

/-- How many have a number. -/
def numN (E : List EntV) : Nat := (E.filter fun x => decide (x.o.num ≠ 0)).length
theorem numN_snoc (l : List EntV) (x : EntV) : numN (l ++ [x]) = numN l + if x.o.num = 0 then 0 else 1 := by
  unfold numN
  rw [List.filter_append, List.length_append]
  by_cases h : x.o.num = 0 <;> simp [h]
theorem numN_le (l : List EntV) : numN l ≤ l.length := List.length_filter_le _ _
set_option maxHeartbeats 4000000 in
set_option maxRecDepth 1000000 in
theorem numbered_any (w : World) (h : HistV) (E : List EntV) (he : IsEnts w h.la h.ll h.lc E) :
    Calls Tryz.prog 37 #[h.v] w fun e w' => e = .returned (.int .i64 (numN E : Int)) ∧ Mine.Mod none_ w w' := by
  have hle := he.le
  have hcap := he.big
  unfold maxLen at hcap
  obtain ⟨R, hR⟩ : ∃ R, R = numN E := ⟨_, rfl⟩
  rw [← hR]
  obtain ⟨xba, xbl, xbc, xva, xvl, xvc, xfr, xnum, xla, xll, xlc⟩ := h
  dsimp only at hle hcap he
  have HB := Lib.hid hR
  have H := Lib.hid he
  have HN := Lib.hid he.n
  clear he hR
  obtain ⟨W0, hW0⟩ : ∃ W0, w.alloc (.cells #[.slice xba xbl xbc, .slice xva xvl xvc, .int .i64 xfr, .int .i64 xnum, .slice xla xll xlc] 39) = W0 := ⟨_, rfl⟩
  obtain ⟨K, hK⟩ : ∃ K, w.heap.size = K := ⟨_, rfl⟩
  have m0 : Mine.Mod none_ w W0 := by rw [← hW0]; exact (Mine.Mod.refl none_ w).alloc _
  have k0 : Blk W0 K [.slice xba xbl xbc, .slice xva xvl xvc, .int .i64 xfr, .int .i64 xnum, .slice xla xll xlc] 39 := by rw [← hW0, ← hK]; exact Blk.new (w := w) (cs := [.slice xba xbl xbc, .slice xva xvl xvc, .int .i64 xfr, .int .i64 xnum, .slice xla xll xlc])
  obtain ⟨cs0, hcs0⟩ : ∃ cs0 : List Value, cs0 = [.slice xba xbl xbc, .slice xva xvl xvc, .int .i64 xfr, .int .i64 xnum, .slice xla xll xlc] := ⟨_, rfl⟩
  rw [← hcs0] at k0
  have HC4 := Lib.hid (show ∀ W, Blk W K cs0 39 → W.cell? ⟨K, 4, none⟩ = some (.slice xla xll xlc) from fun W k => by rw [k.cell, hcs0]; rfl)
  have M0 := Lib.hid m0
  have K0 := Lib.hid k0
  have hKw : w.heap.size ≤ K := by omega
  have c4 := HC4.out W0 k0
  clear m0 k0 hcs0
  go_enter Tryz.func37, Tryz.ntmps37
  go_upto_region 1 with fail
  clear hW0 hK
  go_wp2_with fail
  clear c4
  go_loopg [3, 9] xll (fun g s3 s9 wx => ∃ (k n : Nat), g = xll - k ∧ s3 = .int .i64 (n : Int) ∧ s9 = .int .i64 (k : Int) ∧ k ≤ xll ∧ n ≤ k ∧ Mine.Mod none_ w wx ∧ RowKit.Hid (Blk wx K cs0 39 ∧ n = numN (E.take k)))
  case atStart => exact ⟨0, 0, rfl, rfl, rfl, Nat.zero_le _, Nat.le_refl _, M0.out, Lib.hid ⟨K0.out, rfl⟩⟩
  case round =>
    obtain ⟨k, n, rfl, rfl, rfl, hk, hnk, mx, hst⟩ := hrel
    obtain ⟨kx, hn⟩ := hst.out
    have d4 : wr.cell? ⟨K, 4, none⟩ = some (.slice xla xll xlc) := HC4.out wr kx
    by_cases hlk : k < xll
    · obtain ⟨x, hx⟩ : ∃ x, E[k]? = some x := ⟨E[k]'(by rw [HN.out]; exact hlk), by simp⟩
      have HS := Lib.hid (show numN (E.take (k + 1)) = n + if x.o.num = 0 then 0 else 1 by rw [ents_snoc hx, numN_snoc, hn])
      obtain ⟨b, off, rfl, hr⟩ := (H.out.grown mx).ents k x hx
      have c0 := hr 0 _ rfl
      have c1 := hr 1 _ rfl
      have c2 := hr 2 _ rfl
      have c3 := hr 3 _ rfl
      have c4 := hr 4 _ rfl
      have c5 := hr 5 _ rfl
      have c6 := hr 6 _ rfl
      have c7 := hr 7 _ rfl
      have c8 := hr 8 _ rfl
      have c9 := hr 9 _ rfl
      have c10 := hr 10 _ rfl
      have c11 := hr 11 _ rfl
      have c12 := hr 12 _ rfl
      have c13 := hr 13 _ rfl
      rw [Nat.add_zero] at c0
      have mE : Mine.Mod none_ wr (wr.alloc (.cells x.cs.toArray 35)) := (Mine.Mod.refl none_ wr).alloc _
      have ME := Lib.hid (mx.trans mE)
      have KE := Lib.hid (kx.mod mE (fun e => e))
      dsimp only [EntV.cs] at ME KE
      clear mE
      clear mx kx hn hst hx hr
      by_cases h0 : x.o.num = 0
      · have HG := Lib.hid (show n = numN (E.take (k + 1)) by rw [HS.out, if_pos h0]; rfl)
        have hb : (x.o.num == 0) = true := by simpa using h0
        have hb2 : (x.o.num != 0) = false := by simpa using h0
        clear h0 HS
        go_wp2_with fail
        go_roundg (xll - (k + 1))
        all_goals first
          | omega
          | exact ⟨k + 1, n, rfl, by go_num, by go_num, by omega, by omega, ME.out, Lib.hid ⟨KE.out, HG.out⟩⟩
      · have HG := Lib.hid (show n + 1 = numN (E.take (k + 1)) by rw [HS.out, if_neg h0])
        have hb : (x.o.num == 0) = false := by simpa using h0
        have hb2 : (x.o.num != 0) = true := by simpa using h0
        clear HS
        go_wp2_with fail
        go_roundg (xll - (k + 1))
        all_goals first
          | omega
          | exact ⟨k + 1, n + 1, rfl, by go_num, by go_num, by omega, by omega, ME.out, Lib.hid ⟨KE.out, HG.out⟩⟩
    · have hkl : xll = k := by omega
      subst hkl
      rw [List.take_of_length_le (by rw [HN.out]; omega)] at hn
      have HE := Lib.hid (show R = n by rw [HB.out, hn])
      have MX := Lib.hid mx
      clear mx kx hst hn
      go_wp2_with fail
      go_ret
      exact ⟨by rw [HE.out]; rfl, MX.out⟩

end Go.Proofs.YtlidmajcdjlcnaaGreatDoor

namespace Go.Proofs.YtlidmajcdjlcnaaGreatDoor
open Go.RowKit Go.Shelf Go.Mine
open Classical

theorem like_ops {E E' : List EntV} (h : likeE E E') (n : Int) : runOps (opsOf E') n = runOps (opsOf E) n := by
  induction E generalizing E' n with
  | nil => rw [h.nilr]
  | cons x r ih =>
    obtain ⟨a, c, r', rfl, hr⟩ := h.cons
    have := ih hr
    unfold opsOf at this ⊢
    rw [List.map_cons, List.map_cons, runOps, runOps]
    have e1 : opMay (x.at a c).o (x.at a c).sp n = opMay x.o x.sp n := rfl
    have e2 : addsOf (x.at a c).o = addsOf x.o := rfl
    rw [e1, e2, this]
theorem like_nm {E E' : List EntV} (h : likeE E E') : (opsOf E').map OpS.nm = (opsOf E).map OpS.nm := by
  induction E generalizing E' with
  | nil => rw [h.nilr]
  | cons x r ih =>
    obtain ⟨a, c, r', rfl, hr⟩ := h.cons
    have := ih hr
    unfold opsOf at this ⊢
    rw [List.map_cons, List.map_cons, List.map_cons, List.map_cons, this]
theorem like_run {E E' : List EntV} (h : likeE E E') (n : Int) : listRun (opsOf E') n = listRun (opsOf E) n := by
  unfold listRun
  rw [like_nm h, like_ops h]
theorem like_ent {E E' : List EntV} (h : likeE E E') : E'.all entOk = E.all entOk := by
  induction E generalizing E' with
  | nil => rw [h.nilr]
  | cons x r ih =>
    obtain ⟨a, c, r', rfl, hr⟩ := h.cons
    rw [List.all_cons, List.all_cons, ih hr]
    rfl
theorem like_order {E E' : List EntV} (h : likeE E E') (last p num : Int) (V : List Int) : orderL last p V num E' = orderL last p V num E := by
  induction E generalizing E' last p V with
  | nil => rw [h.nilr]
  | cons x r ih =>
    obtain ⟨a, c, r', rfl, hr⟩ := h.cons
    rw [orderL_cons, orderL_cons]
    rw [ih hr, ih hr]
theorem like_may {h h' : HistV} {B : List CellV} {V : List Int} {E E' : List EntV} (h1 : h'.bl = h.bl) (h2 : h'.ll = h.ll) (h3 : h'.from_ = h.from_) (h4 : h'.num = h.num) (hl : likeE E E') : histOk h' B V E' = histOk h B V E := by
  unfold histOk numsOk entsOk
  rw [h1, h2, h3, h4, like_ent hl, like_run hl, like_order hl]
/-- What may be: its numbers. -/
theorem histOk_nums {h : HistV} {B : List CellV} {V : List Int} {E : List EntV} (hb : histOk h B V E = true) : 0 ≤ h.from_ ∧ h.from_ ≤ h.num ∧ h.num ≤ 1099511627776 ∧ h.ll ≤ 400 := by
  unfold histOk numsOk at hb
  simp only [Bool.and_eq_true, decide_eq_true_eq] at hb
  exact ⟨hb.1.1.1.1.1.1, hb.1.1.1.1.1.2, hb.1.1.1.1.2, hb.1.1.1.2⟩
/-- A history with one entry more, as far as what may be hangs on it. -/
abbrev HistV.plus (h : HistV) (n : Int) : HistV := ⟨h.ba, h.bl, h.bc, h.va, h.vl, h.vc, h.from_, n, h.la, h.ll + 1, h.lc⟩
def numP (h : HistV) (x : EntV) : Int := if x.o.num = 0 then h.num else x.o.num
/-- Add's answer: OK (0) or the error. -/
noncomputable def addE (h : HistV) (B : List CellV) (V : List Int) (E : List EntV) (x : EntV) : Int :=
  if histOk h B V E = true then (if h.ll = 400 then 5 else if x.o.num ≠ 0 ∧ numN E < h.ll then 13 else if x.o.num ≠ 0 ∧ x.o.num ≠ h.num + 1 then 17 else if histOk (h.plus (numP h x)) B V (E ++ [x]) = true then 0 else 1) else 1
abbrev zeroH : Value := .agg #[.slice none 0 0, .slice none 0 0, .int .i64 0, .int .i64 0, .slice none 0 0]
/-- What Add leaves. -/
def AddTo (w : World) (R : Int) (h : HistV) (B : List CellV) (V : List Int) (E : List EntV) (x : EntV) (e : Ending) (w' : World) : Prop :=
  Mine.Mod none_ w w' ∧ (R ≠ 0 → e = .returned (.tuple #[zeroH, .int .i64 R])) ∧ (R = 0 → ∃ (h' : HistV) (E' : List EntV), e = .returned (.tuple #[h'.v, .int .i64 0]) ∧ h'.bl = h.bl ∧ h'.vl = h.vl ∧ h'.ll = h.ll + 1 ∧ h'.from_ = h.from_ ∧ h'.num = numP h x ∧ likeE (E ++ [x]) E' ∧ Made w.heap.size w' h' B V E')

/-- One entry more. -/
theorem app_ent {W : World} {B n vc X : Nat} {va : Option Addr} {xs : List EntV} {x : EntV} (ho : W.ownsRow B 35 14 (.slice va n vc) n (flat EntV.cs xs)) (k : Blk W X x.cs 35) (hb : n ≤ 1000000) (hB : B ≤ W.heap.size) :
    ∃ va' vc' w', (Builtin.append_ #[24, 24] 24 #[.slice va n vc, .slice (some ⟨X, 0, none⟩) 1 1]).run Tryz.prog W = .ok (.slice va' (n + 1) vc') w' ∧
      w'.ownsRow B 35 14 (.slice va' (n + 1) vc') (n + 1) (flat EntV.cs (xs ++ [x])) ∧ Mine.Mod (fun k => (Value.slice va n vc).ownBlock = some k) W w' := by
  obtain ⟨i0, hi0, hz0, hz1, hz2⟩ := info_parts infoEnt
  obtain ⟨v', w', hrun, hown, hgrow, _⟩ := run_append_own (P := Tryz.prog) W B 24 24 35 i0 _ 14 144 Tryz.underlying24 hi0 hz0 hz1 hz2 rfl (by decide) (.slice va n vc) n _ ho ⟨X, 0, none⟩ 1 1 x.cs rfl (World.news_of_block k) (EntV.ones x) (by unfold maxLen; omega) (by omega) hB
  obtain ⟨va', vc', rfl⟩ : ∃ va' vc', v' = .slice va' (n + 1) vc' := by
    rcases ownsRow_blk hown with ⟨_, h0, _⟩ | ⟨g', c', _, rfl, _⟩
    · omega
    · exact ⟨_, c', rfl⟩
  refine ⟨va', vc', w', hrun, ?_, (Mine.Mod.refl _ _).grown hgrow (fun k e _ => e)⟩
  rw [flat_append]
  simpa using hown
/-- A block of another type is not the row's. -/
theorem own_other {w : World} {B e size n g t : Nat} {v : Value} {xs : List Value} {cs : List Value} (h : w.ownsRow B e size v n xs) (k : Blk w g cs t) (ht : t ≠ e) : ¬ v.ownBlock = some g := by
  intro hj
  obtain ⟨cs2, hb2⟩ := ownsRow_type h hj
  have e2 := Option.some.inj (k.symm.trans hb2)
  injection e2 with _ h2 _
  exact ht h2
theorem own_own {w : World} {B B' e e' size size' n n' g : Nat} {v v' : Value} {xs xs' : List Value} (h : w.ownsRow B e size v n xs) (h' : w.ownsRow B' e' size' v' n' xs') (ht : e' ≠ e) (hj : v.ownBlock = some g) : ¬ v'.ownBlock = some g := by
  obtain ⟨cs2, hb2⟩ := ownsRow_type h hj
  exact own_other h' (show Blk w g cs2 e from hb2) (fun e3 => ht e3.symm)
/-- A history made anew, with one entry more. -/
theorem Made.add {B0 : Nat} {W : World} {h : HistV} {B : List CellV} {V : List Int} {E : List EntV} {y : EntV} {X : Nat} (k : Made B0 W h B V E) (ho : ownSp W B0 y) (kx : Blk W X y.cs 35) (hb : h.ll ≤ 1000000) (hB : B0 ≤ W.heap.size) :
    ∃ va' vc' w', (Builtin.append_ #[24, 24] 24 #[.slice h.la h.ll h.lc, .slice (some ⟨X, 0, none⟩) 1 1]).run Tryz.prog W = .ok (.slice va' (h.ll + 1) vc') w' ∧
      Made B0 w' ⟨h.ba, h.bl, h.bc, h.va, h.vl, h.vc, h.from_, h.num, va', h.ll + 1, vc'⟩ B V (E ++ [y]) ∧ Mine.Mod (fun k => (Value.slice h.la h.ll h.lc).ownBlock = some k) W w' := by
  obtain ⟨va', vc', w', hrun, hown, hm⟩ := app_ent k.e kx hb hB
  refine ⟨va', vc', w', hrun, ⟨ownsRow_mod k.b hm (fun j hj => own_own k.b k.e (by decide) hj), ownsRow_mod k.v hm (fun j hj => own_own k.v k.e (by decide) hj), hown, fun x hx => ?_⟩, hm⟩
  rcases List.mem_append.1 hx with hx | hx
  · exact ownsRow_mod (k.s x hx) hm (fun j hj => own_own (k.s x hx) k.e (by decide) hj)
  · rw [List.mem_singleton] at hx
    subst hx
    exact ownsRow_mod ho hm (fun j hj => own_own ho k.e (by decide) hj)
theorem Made.is2 {B0 : Nat} {w w' : World} {h' : HistV} {B : List CellV} {V : List Int} {E E' : List EntV} (k : Made B0 w' h' B V E') (hb : ∀ c ∈ B, c.ok) (hv : ∀ x ∈ V, -9223372036854775808 ≤ x ∧ x ≤ 9223372036854775807) (he : ∀ x ∈ E, x.o.ok w x.sp ∧ x.ed.ok w) (m : Mine.Mod none_ w w') (hl : likeE E E') (i1 : -9223372036854775808 ≤ h'.from_ ∧ h'.from_ ≤ 9223372036854775807) (i2 : -9223372036854775808 ≤ h'.num ∧ h'.num ≤ 9223372036854775807) : HistIs w' h' B V E' :=
  ⟨own_cells k.b hb, own_vec k.v hv, own_ents k.e (fun y hy => by
    obtain ⟨x, hx, a, c, rfl⟩ := hl.back hy
    exact EntV.at_ok (he x hx) m (k.s _ hy)), i1, i2⟩
theorem Made.mod {B0 : Nat} {S : Nat → Prop} {w w' : World} {h : HistV} {B : List CellV} {V : List Int} {E : List EntV} (k : Made B0 w h B V E) (m : Mine.Mod S w w') (hs : ∀ j, S j → ∃ cs, Blk w j cs 39 ∨ Blk w j cs 26) : Made B0 w' h B V E := by
  have key : ∀ {B e size n : Nat} {v : Value} {xs : List Value}, w.ownsRow B e size v n xs → 39 ≠ e → 26 ≠ e → ∀ j, v.ownBlock = some j → ¬ S j := by
    intro B e size n v xs h h1 h2 j hj hS
    obtain ⟨cs, hc | hc⟩ := hs j hS
    · exact own_other h hc h1 hj
    · exact own_other h hc h2 hj
  exact ⟨ownsRow_mod k.b m (key k.b (by decide) (by decide)), ownsRow_mod k.v m (key k.v (by decide) (by decide)), ownsRow_mod k.e m (key k.e (by decide) (by decide)), fun x hx => ownsRow_mod (k.s x hx) m (key (k.s x hx) (by decide) (by decide))⟩
theorem Made.num {B0 : Nat} {w : World} {h : HistV} {B : List CellV} {V : List Int} {E : List EntV} (k : Made B0 w h B V E) (n : Int) : Made B0 w ⟨h.ba, h.bl, h.bc, h.va, h.vl, h.vc, h.from_, n, h.la, h.ll, h.lc⟩ B V E := ⟨k.b, k.v, k.e, k.s⟩
/-- Add, its copy grown by the entry. -/
def AdMid (w : World) (K6 : Nat) (h : HistV) (B : List CellV) (V : List Int) (E : List EntV) (x : EntV) (wx : World) : Prop :=
  ∃ (ba : Option Addr) (bc : Nat) (va : Option Addr) (vc : Nat) (la : Option Addr) (lc : Nat) (E' : List EntV), Blk wx K6 [.slice ba h.bl bc, .slice va h.vl vc, .int .i64 h.from_, .int .i64 h.num, .slice la (h.ll + 1) lc] 39 ∧ likeE (E ++ [x]) E' ∧ Made w.heap.size wx ⟨ba, h.bl, bc, va, h.vl, vc, h.from_, h.num, la, h.ll + 1, lc⟩ B V E' ∧ Mine.Mod none_ w wx ∧ Blk wx (w.heap.size + 1) x.cs 35 ∧ Blk wx (w.heap.size + 1 + 1) [.slice none 0 0, .slice none 0 0, .int .i64 0, .int .i64 0, .slice none 0 0] 39
end Go.Proofs.YtlidmajcdjlcnaaGreatDoor
