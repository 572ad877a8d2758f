/-
  Texts on which the claim rests, one behind the other: Spl1 Nam1 Do1 Car2 Car3 Car4 Car5 Mov1 Car7 Car8 Sta1 Eac1 Fin1 Act1 Car9 Blk1 Car10 Car11 Sta2 Sta3 Open Read1.
-/
import Derived.Test.YtlbkalbelefhmaaDoorStaJ2
import Derived.Lib.OthersKept
import Derived.Lib.TrimUEq
import Derived.Outline
import Derived.Deep.LoopGhost
import Derived.BigQuiet
import Derived.WalkKit
import Derived.ProofKit
import Derived.OpenShut
import Derived.ShutString
import Derived.ChangeOld
import Derived.ChangeSame
import Derived.Deep.Slices
import Derived.Deep.Fields
import Derived.Lib.SmallJoins

namespace Go.Proofs.YtlbkalbelefhmaaDoor
open Go.RowKit Go.Shelf Go.Mine

theorem decodeGo_tl (s : ByteArray) (pos : Nat) (h : pos < s.size) : Lib.decodeGo (tl s pos) = Utf8.decode s pos := by
  have hx : (s.extract pos s.size).data.toList = s.data.toList.drop pos := by
    rw [Lib.extract_data, List.take_of_length_le (by rw [List.length_drop, ← Lib.size_eq]; omega)]
  have hsz : (s.extract pos s.size).size ≠ 0 := by rw [Lib.size_eq, hx, List.length_drop, ← Lib.size_eq]; omega
  unfold Lib.decodeGo tl
  rw [if_neg hsz, ← Lib.decodeL_drop s pos, ← hx]
  rfl

theorem rmay_text (s : ByteArray) (w : World) (ht : txtOk w s) (hsz : s.size < 4611686018427387904) : Calls Tryd.prog 76 #[.string s] w fun e w' => e = .returned (.bool (decide (0 ≤ ulen s))) ∧ Mod none_ w w' := by
  go_enter Tryd.func76, Tryd.ntmps76
  go_wp2_with fail
  refine (len_any s w ht hsz).mono ?_
  rintro e w1 ⟨rfl, m1⟩
  go_wp2_with fail
  go_ret
  exact ⟨rfl, m1⟩

theorem ulen_none {s : ByteArray} (h : runesOf s = none) : ulen s = -1 := by unfold ulen; rw [h]
theorem ulen_some {s : ByteArray} {rs : List Nat} (h : runesOf s = some rs) : ulen s = rs.length := by unfold ulen; rw [h]
abbrev runeCs (rs : List Nat) : List Value := rs.map fun r : Nat => Value.int .i32 (r : Int)
theorem infoI32 : (Tryd.prog.info? 21).map (fun i => (i.zero, i.size, i.bytes)) = some (some (.int .i32 0), 1, 4) := by kernel_rfl

/-- What Split leaves. -/
def SplitTo (w : World) (R : Option (List Nat)) (e : Ending) (w' : World) : Prop := Mod none_ w w' ∧ (R = none → e = .returned (.tuple #[.slice none 0 0, .int .i64 2])) ∧ ∀ rs, R = some rs → ∃ v, e = .returned (.tuple #[v, .int .i64 0]) ∧ w'.ownsRow w.heap.size 21 1 v rs.length (runeCs rs)
set_option maxHeartbeats 2000000 in
set_option maxRecDepth 1000000 in
theorem split_any (s : ByteArray) (w : World) (ht : txtOk w s) (hsz : s.size ≤ 1099511627776) :
    Calls Tryd.prog 50 #[.string s] w (SplitTo w (runesOf s)) := by
  have HM := Lib.hid (rmay_text s w ht (by omega))
  obtain ⟨i0, hi0, hz0, hz1, hz2⟩ := info_parts infoI32
  have HMK := fun (W : World) (hB : w.heap.size ≤ W.heap.size) => run_make_own (P := Tryd.prog) W w.heap.size 39 21 i0 (.int .i32 0) 1 Tryd.underlying39 hi0 hz0 hz1 .i64 .i64 s.size (by rw [hz2]; omega) (by unfold maxLen; omega) hB
  have HMK := Lib.hid HMK
  have HI0 := Lib.hid hi0
  have HZ0 := Lib.hid hz0
  have HZ1 := Lib.hid hz1
  have HZ2 := Lib.hid hz2
  obtain ⟨R, hR⟩ : ∃ R, R = runesOf s := ⟨_, rfl⟩
  rw [← hR]
  have HR := Lib.hid hR
  clear hi0 hz0 hz1 hz2 ht hR
  go_enter Tryd.func50, Tryd.ntmps50
  go_wp2_with fail
  refine HM.out.mono ?_
  rintro e w1 ⟨rfl, m1⟩
  cases R with
  | none =>
    have hu := ulen_none HR.out.symm
    have hd : decide (0 ≤ ulen s) = false := by rw [hu]; rfl
    rw [hd]
    have M1 := Lib.hid m1
    clear hu m1
    go_wp2_with fail
    go_ret2
    exact ⟨M1.out, fun _ => rfl, fun rs h => by cases h⟩
  | some rs =>
    have hu := ulen_some HR.out.symm
    have hd : decide (0 ≤ ulen s) = true := by rw [hu]; simp
    rw [hd]
    obtain ⟨w2, hrun, hown, hgrow⟩ := HMK.out w1 m1.size
    have m2 := m1.grown hgrow (fun k e => by cases e)
    have M2 := Lib.hid m2
    have O2 := Lib.hid hown
    clear hu m1 hd hown hgrow
    go_wp2_with fail
    obtain ⟨K, hK⟩ : ∃ K, K = w2.heap.size := ⟨_, rfl⟩
    have hkw : w.heap.size ≤ K := by rw [hK]; exact M2.out.size
    have mi := M2.out.alloc (.stringIter s 0)
    have hit : (w2.iter s 0).heap[K]? = some (.stringIter s 0) := by rw [hK]; exact World.alloc_heap_new w2 _
    have oi : (w2.iter s 0).ownsRow w.heap.size 21 1 (.slice (some ⟨w1.heap.size, 0, none⟩) 0 s.size) ([] : List Nat).length (runeCs []) := (by simpa using O2.out : w2.ownsRow w.heap.size 21 1 (.slice (some ⟨w1.heap.size, 0, none⟩) 0 s.size) 0 []).alloc _
    have HS := Lib.hid (show 0 ≤ s.size ∧ ∃ rest, rs = [] ++ rest ∧ runesOf (tl s 0) = some rest from ⟨by omega, rs, rfl, by
      have : tl s 0 = s := by unfold tl; simp
      rw [this]; exact HR.out.symm⟩)
    have mi' : Mod none_ w (w2.iter s 0) := mi
    rw [← hK]
    generalize w2.iter s 0 = w3 at mi' hit oi ⊢
    clear hK mi M2 O2
    go_loopg [4] (s.size + 1) (fun g s4 wx => ∃ (pos : Nat) (pre : List Nat), g = s.size + 1 - pos ∧ Mod none_ w wx ∧ wx.heap[K]? = some (.stringIter s pos) ∧ pre.length ≤ pos ∧ wx.ownsRow w.heap.size 21 1 s4 pre.length (runeCs pre) ∧ RowKit.Hid (pos ≤ s.size ∧ ∃ rest, rs = pre ++ rest ∧ runesOf (tl s pos) = some rest))
    case atStart => exact ⟨0, [], rfl, mi', hit, Nat.zero_le _, oi, HS⟩
    case round =>
      obtain ⟨pos, pre, rfl, mx, hix, hpl, ox, hst⟩ := hrel
      obtain ⟨hps, rest, hrs, hrt⟩ := hst.out
      have MX := Lib.hid mx
      have OX := Lib.hid ox
      have HIX := Lib.hid hix
      by_cases hlt : pos < s.size
      · have hnx := fun ty => Lib.run_next_any_at (P := Tryd.prog) wr K s pos ty hix hlt
        have hdg := decodeGo_tl s pos hlt
        have h0 : (tl s pos).size ≠ 0 := by rw [tl_size]; omega
        have hbad : ¬ bad1 (tl s pos) := fun hb => by rw [runesOf_bad h0 hb] at hrt; cases hrt
        rw [runesOf_step h0 hbad, tl_tl, hdg] at hrt
        have hdp := decodeGo_pos h0
        rw [hdg, tl_size] at hdp
        have hty : ((Utf8.decode s pos).1 : Int) = (Utf8.decode s pos).1 := rfl
        generalize Utf8.decode s pos = d at hnx hrt hdp
        obtain ⟨r, nb⟩ := d
        dsimp only at hnx hrt hdp
        obtain ⟨rest', hr1, hr2⟩ := Option.map_eq_some_iff.1 hrt
        have m4 : Mod none_ w (wr.iterAt K s (pos + nb)) := ⟨mx.os, mx.tape, mx.output, by rw [Lib.iterAt_size]; exact mx.size, fun k hk _ => by rw [Lib.iterAt_other _ _ _ _ _ (by omega)]; exact mx.block k hk (fun e => e)⟩
        have h4 := Lib.iterAt_heap wr K s pos (pos + nb) hix
        have mK : Mod (one K) wr (wr.iterAt K s (pos + nb)) := ⟨rfl, rfl, rfl, by rw [Lib.iterAt_size]; exact Nat.le_refl _, fun k hk e => Lib.iterAt_other _ _ _ _ _ e⟩
        have o4 := ownsRow_mod ox mK (fun k hk e => by
          have e' : k = K := e
          subst e'
          obtain ⟨cs, hb⟩ := ownsRow_type ox hk
          unfold Blk at hb
          rw [hix] at hb; cases hb)
        have M4 := Lib.hid m4
        have H4 := Lib.hid h4
        have O4 := Lib.hid o4
        have HST := Lib.hid (show pos + nb ≤ s.size ∧ ∃ rest, rs = (pre ++ [r]) ++ rest ∧ runesOf (tl s (pos + nb)) = some rest from ⟨by omega, rest', by rw [hrs, ← hr2]; simp, hr1⟩)
        have hsz4 := m4.size
        clear mK hst hrs hrt hr1 hr2 mx hix ox hdg h0 hbad m4 h4 o4 hty
        generalize wr.iterAt K s (pos + nb) = w4 at hnx M4 H4 O4 hsz4
        go_wp2_with (at_builtin; refine wpList_append_own _ rfl (.tmp 18) (.tmp 20) 39 rfl w.heap.size 21 i0 _ 1 4 Tryd.underlying39 HI0.out HZ0.out HZ1.out HZ2.out rfl (by decide) _ _ _ rfl (O4.out.alloc _) ⟨w4.heap.size, 0, none⟩ 1 1 [.int .i32 (r : Int)] rfl rfl (World.news_of_block (heap_alloc_new w4 _)) (fun u hu => by rw [List.mem_singleton.1 hu]; rfl) (by unfold maxLen; omega) (by omega) (by rw [World.size_alloc]; omega) ?_; intro v' w5 ho5 hg5 _; have H5 := Lib.hid (show w5.heap[K]? = some (.stringIter s (pos + nb)) by (have hlt4 := lt_of_block H4.out; rw [hg5.block K (by rw [World.size_alloc]; omega) (fun e => by (obtain ⟨cs, hb⟩ := ownsRow_type O4.out e.symm; unfold Blk at hb; rw [H4.out] at hb; cases hb))]; rw [Below.heap_alloc _ _ _ hlt4]; exact H4.out)); have M5 := Lib.hid ((M4.out.alloc (.cells #[.int .i32 (r : Int)] 21)).grown hg5 (fun j e hj => absurd hj (by have := (O4.out.lt j e).1; omega))); have O5 := Lib.hid ho5; clear ho5 hg5)
        go_roundg (s.size + 1 - (pos + nb))
        case measure => omega
        case rel =>
          refine ⟨pos + nb, pre ++ [r], rfl, M5.out, H5.out, by simp; omega, ?_, HST⟩
          have := O5.out
          simpa using this
      · obtain rfl : pos = s.size := by omega
        have hnx := fun ty => Lib.run_next_end_at (P := Tryd.prog) wr K s s.size ty hix (by omega)
        have hr0 : rest = [] := by
          have h0 : (tl s s.size).size = 0 := by rw [tl_size]; omega
          rw [runesOf_nil h0] at hrt
          exact (Option.some.inj hrt).symm
        have HRS := Lib.hid (show rs = pre by rw [hrs, hr0]; simp)
        clear hst hrs hrt hr0 mx hix ox
        go_wp2_with fail
        go_ret2
        exact ⟨MX.out, (fun h => nomatch h), fun rs' h => by obtain rfl := Option.some.inj h; rw [HRS.out]; exact ⟨_, rfl, OX.out⟩⟩
end Go.Proofs.YtlbkalbelefhmaaDoor

namespace Go.Proofs.YtlbkalbelefhmaaDoor
open Go.RowKit Go.Mine Go.Maps
open Classical

theorem cnt_replicate (q : Nat) (x y : Value) : cnt (List.replicate q x) y = if x = y then q else 0 := by
  induction q with
  | zero => simp [cnt]
  | succ q ih =>
    rw [List.replicate_succ', cnt_append, ih, cnt_one]
    by_cases h : x = y <;> simp [h]
variable {P : Program} {k t e : TypeId} {w : World} {b : Nat} {ks : List Value}
/-- 'm[x]', of a name. -/
theorem Names.at_ (h : Names P k w b ks) (K : Keyed P k) (ht : P.underlying t = some (.map k e)) (hz : ∀ w, (zeroValue e).run P w = .ok (.int .i64 0) w) {x : Value} (hx : isKey P k x) :
    (Instr.lookup t (.map (some b)) x false).run P w = .ok (.int .i64 (cnt ks x : Int)) w := by
  obtain ⟨m, n, hm, hmem, hval⟩ := h
  have h1 := hm.lookup K ht (hz w) hx false
  rw [if_neg (by simp)] at h1
  rw [h1]
  cases hmx : m x with
  | none => rw [cnt_zero.2 (fun h => (hmem x).2 h hmx)]; rfl
  | some v => rw [hval x v hmx]; rfl
/-- 'm[x] = q', x new. -/
theorem Names.many (h : Names P k w b ks) (K : Keyed P k) (ht : P.underlying t = some (.map k e)) {x : Value} (hx : isKey P k x) (hn : x ∉ ks) (q : Nat) (hq : 0 < q) :
    ∃ w', (Instr.mapUpdate t (.map (some b)) x (.int .i64 (q : Int))).run P w = .ok () w' ∧ Mod (one b) w w' ∧ Names P k w' b (ks ++ List.replicate q x) := by
  obtain ⟨m, n, hm, hmem, hval⟩ := h
  obtain ⟨w', h1, h2, M⟩ := hm.update (v := .int .i64 (q : Int)) K ht hx
  refine ⟨w', h1, M, _, _, h2, fun y => ?_, fun y v hy => ?_⟩
  · by_cases hyx : y = x
    · subst hyx
      rw [putM_same, List.mem_append]
      simp; omega
    · rw [putM_other hyx, hmem y, List.mem_append]
      exact ⟨.inl, fun h => h.elim id (fun e => absurd (List.eq_of_mem_replicate e) hyx)⟩
  · rw [cnt_append, cnt_replicate]
    by_cases hyx : y = x
    · subst hyx
      rw [putM_same] at hy
      cases hy
      rw [if_pos rfl, cnt_zero.2 hn, Nat.zero_add]
    · rw [putM_other hyx] at hy
      rw [if_neg (fun e => hyx e.symm), Nat.add_zero]
      exact hval y v hy
end Go.Proofs.YtlbkalbelefhmaaDoor

namespace Go.Proofs.YtlbkalbelefhmaaDoor
open Go.RowKit Go.Shelf Go.Mine Go.Maps
open Classical

theorem DocV.flt {w : World} {D MB : Nat} {v : Value} {bl : List BV} (hv : DocV w D v MB bl) {k : Nat} (hk : foot D v bl k) : k < w.heap.size := by
  rcases hk with rfl | hk | ⟨x, hx, rfl | hk⟩
  · exact hv.doc.lt
  · exact (hv.ptrs.lt k hk).2
  · exact (hv.blk x hx).b.lt
  · exact ((hv.blk x hx).o.lt k hk).2
/-- The name of an operation. -/
abbrev OpV.name (o : OpV) : Value := .agg #[.int .i64 o.site, .int .i64 o.seq]
/-- The cells that an insertion brings. -/
def freshC (o : OpV) (rs : List Nat) : List CellV := rs.mapIdx fun (i r : Nat) => ⟨o.site, o.seq, (i : Int), (r : Int), false⟩
def runesD (s : ByteArray) : List Nat := (runesOf s).getD []
theorem runes_le : ∀ (n : Nat) (t : ByteArray), t.size ≤ n → ∀ rs, runesOf t = some rs → ∀ r ∈ rs, r ≤ 1114111
  | 0, t, h, rs, hr, r, hm => by
    rw [runesOf_nil (by omega)] at hr
    cases hr; cases hm
  | n + 1, t, h, rs, hr, r, hm => by
    by_cases h0 : t.size = 0
    · rw [runesOf_nil h0] at hr
      cases hr; cases hm
    · by_cases hb : bad1 t
      · rw [runesOf_bad h0 hb] at hr; cases hr
      · rw [runesOf_step h0 hb] at hr
        obtain ⟨rest, hr1, rfl⟩ := Option.map_eq_some_iff.1 hr
        have hp := decodeGo_pos h0
        have ht0 : tl t 0 = t := by unfold tl; simp
        have hd : Lib.decodeGo t = Utf8.decode t 0 := by
          have := decodeGo_tl t 0 (by omega)
          rwa [ht0] at this
        rcases List.mem_cons.1 hm with rfl | hm
        · rw [hd]; exact Lib.rune_le t 0
        · exact runes_le n _ (by rw [tl_size]; omega) rest hr1 r hm
theorem cell_lt {w : World} {b j : Nat} {v : Value} (h : w.cell? ⟨b, j, none⟩ = some v) : b < w.heap.size := by
  unfold World.cell? at h
  by_cases hb : b < w.heap.size
  · exact hb
  · rw [Array.getElem?_eq_none (by show w.heap.size ≤ b; omega)] at h
    simp at h
theorem freshC_len (o : OpV) (rs : List Nat) : (freshC o rs).length = rs.length := by unfold freshC; simp
theorem freshC_get (o : OpV) (rs : List Nat) (k : Nat) (r : Nat) (h : rs[k]? = some r) : (freshC o rs)[k]? = some ⟨o.site, o.seq, (k : Int), (r : Int), false⟩ := by
  unfold freshC
  rw [List.getElem?_mapIdx, h]; rfl
theorem freshC_ok (o : OpV) (rs : List Nat) (hs : -9223372036854775808 ≤ o.site ∧ o.site ≤ 9223372036854775807) (hq : -9223372036854775808 ≤ o.seq ∧ o.seq ≤ 9223372036854775807) (hl : rs.length ≤ 200) (hr : ∀ r ∈ rs, r ≤ 1114111) : ∀ c ∈ freshC o rs, c.ok := by
  intro c hc
  obtain ⟨i, hi⟩ := List.getElem?_of_mem hc
  have hlt := (List.getElem?_eq_some_iff.1 hi).1
  rw [freshC_len] at hlt
  rw [freshC_get o rs i rs[i] (List.getElem?_eq_getElem hlt)] at hi
  obtain rfl := Option.some.inj hi
  have := hr rs[i] (List.getElem_mem hlt)
  exact ⟨hs, hq, ⟨by simp only; omega, by simp only; omega⟩, ⟨by simp only; omega, by simp only; omega⟩⟩
theorem freshC_names (o : OpV) (rs : List Nat) : (freshC o rs).map CellV.name = List.replicate rs.length o.name := by
  apply List.ext_getElem (by simp [freshC_len])
  intro i h1 h2
  simp [freshC]
def zeroC : CellV := ⟨0, 0, 0, 0, false⟩
/-- The row while it is filled. -/
def halfC (o : OpV) (rs : List Nat) (k : Nat) : List CellV := (freshC o rs).take k ++ List.replicate (rs.length - k) zeroC
theorem halfC_len (o : OpV) (rs : List Nat) (k : Nat) (h : k ≤ rs.length) : (halfC o rs k).length = rs.length := by unfold halfC; simp [freshC_len]; omega
theorem halfC_all (o : OpV) (rs : List Nat) : halfC o rs rs.length = freshC o rs := by
  unfold halfC
  rw [Nat.sub_self, List.take_of_length_le (by rw [freshC_len]; omega)]; simp
theorem halfC_succ (o : OpV) (rs : List Nat) (k r : Nat) (h : rs[k]? = some r) : (halfC o rs k).set k ⟨o.site, o.seq, (k : Int), (r : Int), false⟩ = halfC o rs (k + 1) := by
  have hlt := (List.getElem?_eq_some_iff.1 h).1
  unfold halfC
  rw [List.set_append_right _ _ (by rw [List.length_take]; omega), List.length_take, freshC_len, show k - min k rs.length = 0 by omega]
  obtain ⟨m, hm⟩ : ∃ m, rs.length - k = m + 1 := ⟨rs.length - k - 1, by omega⟩
  rw [hm, List.replicate_succ, List.set_cons_zero, show rs.length - (k + 1) = m by omega, List.take_add_one, freshC_get o rs k r h]
  simp
theorem made_flat (n : Nat) : (madeCells (Value.agg #[.int .i64 0, .int .i64 0, .int .i64 0, .int .i32 0, .bool false]).cells (n * 5)).toList = flat CellV.cs (List.replicate n zeroC) := by
  apply List.ext_getElem?
  intro j
  by_cases hj : j < n * 5
  · have h1 : j = j / 5 * 5 + j % 5 := by omega
    have h2 : (List.replicate n zeroC)[j / 5]? = some zeroC := by rw [List.getElem?_replicate, if_pos (by omega)]
    have h3 := flat_get CellV.len (List.replicate n zeroC) (j / 5) (j % 5) zeroC h2 (by omega)
    rw [← h1] at h3
    rw [h3]
    have hm : j % 5 < 5 := by omega
    simp only [madeCells, Value.cells, Array.toList_map, Array.toList_range, List.getElem?_map, List.getElem?_range hj, Option.map_some, List.size_toArray, List.length_cons, List.length_nil, Nat.zero_add, Nat.reduceAdd, zeroC]
    have : j % 5 = 0 ∨ j % 5 = 1 ∨ j % 5 = 2 ∨ j % 5 = 3 ∨ j % 5 = 4 := by omega
    rcases this with e | e | e | e | e <;> rw [e] <;> rfl
  · rw [List.getElem?_eq_none (by simp [madeCells]; omega), List.getElem?_eq_none (by rw [flat_length CellV.len, List.length_replicate]; omega)]
theorem st_cellW (ρ : Operand → Value) (dst : Option Tmp) (x y : Operand) (ty : TypeId) (pos : String) (after : Array Edge) (guard : Option (Nat × Bool)) :
    execOp ρ { dst, op := .store 63 x y, type := ty, pos, after, guard } = (do stRow 63 (ρ x) (ρ y); pure .skip) := rfl
theorem cellSize : (Tryd.prog.info? 63).map (·.size) = some 5 := by kernel_rfl
theorem run_st_cellW (w : World) (g o : Nat) (a b c d : Int) (e : Bool) (h : w.there g o 5) : (stRow 63 (.pointer (some ⟨g, o, none⟩)) (.agg #[.int .i64 a, .int .i64 b, .int .i64 c, .int .i32 d, .bool e])).run Tryd.prog w = .ok () (w.setCells g o [.int .i64 a, .int .i64 b, .int .i64 c, .int .i32 d, .bool e]) :=
  run_stRow cellSize w g o _ rfl (CellV.ones ⟨a, b, c, d, e⟩) h
attribute [local go_sem ↓] st_cellW
attribute [local go_sem] run_st_cellW World.there_drew setCells_drew
/-- Do's answer, and what it leaves. -/
noncomputable def doE (o : OpV) (sp : List (Int × Int)) (l : List CellV) : Int := if opMay o sp l.length = true then (if o.kind = 2 then 0 else if o.name ∈ l.map CellV.name then 15 else 0) else 1
noncomputable def doL (o : OpV) (sp : List (Int × Int)) (l : List CellV) : List CellV := if opMay o sp l.length = true then (if o.kind = 2 then markS sp 0 l else if o.name ∈ l.map CellV.name then l else l.take o.at_.toNat ++ freshC o (runesD o.text) ++ l.drop o.at_.toNat) else l
def DoTo (w : World) (S : Nat → Prop) (D : Nat) (l : List CellV) (er : Int) (e : Ending) (w' : World) : Prop := e = .returned (.int .i64 er) ∧ Mod S w w' ∧ DocS w' (grew S w w') D l

theorem markBl_ne (l : List (Int × Int)) : ∀ (bl : List BV) (p : Nat), (∀ x ∈ bl, x.c ≠ []) → ∀ x ∈ markBl l p bl, x.c ≠ []
  | [], _, _, x, hx => by cases hx
  | y :: r, p, h, x, hx => by
    rw [markBl] at hx
    rcases List.mem_cons.1 hx with rfl | hx
    · intro e
      have := markS_len l p y.c
      have h2 := h y (by simp)
      simp only at e
      rw [e] at this
      exact h2 (List.eq_nil_of_length_eq_zero this.symm)
    · exact markBl_ne l r _ (fun z hz => h z (List.mem_cons_of_mem _ hz)) x hx
/-- A document that was marked. -/
theorem DocS.marked {w w1 w2 : World} {S : Nat → Prop} {D MB : Nat} {v : Value} {bl : List BV} {sp : List (Int × Int)} {l : List CellV} (m1 : Mod none_ w w1) (hv : DocV w1 D v MB bl) (hn : Names Tryd.prog 33 w1 MB (l.map CellV.name)) (hl : cellsOf bl = l) (hf : ∀ k, foot D v bl k → S k) (hmb : S MB) (hne : ∀ x ∈ bl, x.c ≠ [])
    (m2 : Mod (foot D v bl) w1 w2) (hv2 : DocV w2 D v MB (markBl sp 0 bl)) : DoTo w S D (markS sp 0 l) 0 (.returned (.int .i64 0)) w2 := by
  refine ⟨rfl, (m1.mono (fun _ _ e => e.elim)).trans (m2.mono (fun k _ hk => hf k hk)), v, MB, markBl sp 0 bl, hv2, ?_, by rw [markBl_cells, hl], fun k hk => .inl (hf k ((foot_congr (markBl_foot sp bl 0) k).1 hk)), .inl hmb, markBl_ne sp bl 0 hne⟩
  have := hn.mod m2 (foot_names hv hn)
  unfold markS
  rw [markP_names]; exact this

theorem do_put {w wr w7 w8 : World} {S : Nat → Prop} {D MB p k : Nat} {v v' : Value} {bl bl' : List BV} {l : List CellV} {o : OpV} {rs : List Nat} (mw : Mod none_ w wr) (hf : ∀ k, foot D v bl k → S k) (hmb : S MB) (hl : cellsOf bl = l)
    (m7 : Mod (foot D v bl) wr w7) (hv7 : DocV w7 D v' MB bl') (hn7 : Names Tryd.prog 33 w7 MB (l.map CellV.name)) (hl7 : cellsOf bl' = (cellsOf bl).take p ++ freshC o rs ++ (cellsOf bl).drop p) (hf7 : ∀ k, foot D v' bl' k → foot D v bl k ∨ wr.heap.size ≤ k) (hne7 : ∀ x ∈ bl', x.c ≠ [])
    (m8 : Mod (one MB) w7.drew w8) (hn8 : Names Tryd.prog 33 w8 MB (l.map CellV.name ++ List.replicate k o.name)) (hk : k = rs.length) : DoTo w S D (l.take p ++ freshC o rs ++ l.drop p) 0 (.returned (.int .i64 0)) w8 := by
  have m8' : Mod (one MB) w7 w8 := ((Mod.refl (one MB) w7).drew).trans m8
  have hv8 := hv7.mod m8' (fun k hk e => by
    have e' : k = MB := e
    subst e'
    exact foot_names hv7 hn7 hk)
  refine ⟨rfl, ((mw.mono (fun _ _ e => e.elim)).trans (m7.mono (fun k _ hk => hf k hk))).trans (m8'.mono (fun k _ e => by have e' : k = MB := e; rw [e']; exact hmb)), v', MB, bl', hv8, ?_, by rw [hl7, hl], fun k hk => ?_, .inl hmb, hne7⟩
  · refine hn8.perm ?_
    rw [List.map_append, List.map_append, freshC_names, ← hk]
    conv => lhs; rw [← List.take_append_drop p l, List.map_append]
    rw [List.append_assoc, List.append_assoc]
    exact (List.perm_append_comm).append_left _
  · rcases hf7 k hk with h | h
    · exact .inl (hf k h)
    · exact .inr ⟨Nat.le_trans mw.size h, hv8.flt hk⟩

set_option maxHeartbeats 4000000 in
set_option maxRecDepth 1000000 in
theorem do_any (w : World) (S : Nat → Prop) (D : Nat) (l : List CellV) (o : OpV) (sp : List (Int × Int)) (h : DocS w S D l) (hlen : l.length ≤ 20000) (hok : ∀ c ∈ l, c.ok) (ho : o.ok w sp) (hsz : o.text.size ≤ 1099511627776) (hfar : ∀ b off, o.sa = some ⟨b, off, none⟩ → 0 < o.slen → ¬ S b) :
    Calls Tryd.prog 17 #[.pointer (some ⟨D, 0, none⟩), o.v] w (DoTo w S D (doL o sp l) (doE o sp l)) := by
  obtain ⟨E, hE⟩ : ∃ E, E = doE o sp l := ⟨_, rfl⟩
  obtain ⟨L, hL⟩ : ∃ L, L = doL o sp l := ⟨_, rfl⟩
  rw [← hE, ← hL]
  have HE := Lib.hid hE
  have HL := Lib.hid hL
  obtain ⟨W0, hW0⟩ : ∃ W0, w.alloc (.cells o.cs.toArray 36) = W0 := ⟨_, rfl⟩
  obtain ⟨m0, kB⟩ := opBox1 hW0
  have HO := Lib.hid (ho.grown m0)
  have HD := Lib.hid (h.grown m0)
  have HI := Lib.hid h
  have M0 := Lib.hid m0
  have KB := Lib.hid kB
  have c0 : W0.cell? ⟨w.heap.size, 0, none⟩ = some (.int .i64 o.site) := by rw [kB.cell]; rfl
  have c1 : W0.cell? ⟨w.heap.size, 1, none⟩ = some (.int .i64 o.seq) := by rw [kB.cell]; rfl
  have c2 : W0.cell? ⟨w.heap.size, 2, none⟩ = some (.int .i64 o.num) := by rw [kB.cell]; rfl
  have c3 : W0.cell? ⟨w.heap.size, 3, none⟩ = some (.int .i64 o.kind) := by rw [kB.cell]; rfl
  have c4 : W0.cell? ⟨w.heap.size, 4, none⟩ = some (.int .i64 o.at_) := by rw [kB.cell]; rfl
  have c5 : W0.cell? ⟨w.heap.size, 5, none⟩ = some (.string o.text) := by rw [kB.cell]; rfl
  have c6 : W0.cell? ⟨w.heap.size, 6, none⟩ = some (.slice o.sa o.slen o.scap) := by rw [kB.cell]; rfl
  have HOK := Lib.hid hok
  have HFAR := Lib.hid hfar
  have hin : inB (l.length : Int) 0 20000 = true := by simp [inB]; omega
  have HSI := Lib.hid (fun W (m : Mod none_ W0 W) => size_any W 0 D l (HD.out.grown m).is (by omega))
  have HMA := Lib.hid (fun W (m : Mod none_ W0 W) => may_any o (l.length : Int) W sp (HO.out.grown m) hin)
  clear h ho hE hL m0 kB hok hfar hin
  go_enter Tryd.func17, Tryd.ntmps17
  go_upto_region 1 with fail
  clear hW0
  obtain ⟨X, hX⟩ : ∃ X, X = w.heap.size := ⟨_, rfl⟩
  rw [← hX] at KB c0 c1 c2 c3 c4 c5 c6 ⊢
  have HX := Lib.hid hX
  clear hX
  obtain ⟨M, hM⟩ : ∃ M, M = opMay o sp l.length := ⟨_, rfl⟩
  rw [← hM] at HMA
  have HM := Lib.hid hM
  clear hM
  cases M with
  | false =>
    have HE1 := Lib.hid (show E = 1 by rw [HE.out]; unfold doE; rw [if_neg (by rw [← HM.out]; simp)])
    have HL1 := Lib.hid (show L = l by rw [HL.out]; unfold doL; rw [if_neg (by rw [← HM.out]; simp)])
    go_region_held3 (fun w' => Mod none_ W0 w' ∧ w'.cell? ⟨X, 0, none⟩ = some (.int .i64 o.site) ∧ w'.cell? ⟨X, 1, none⟩ = some (.int .i64 o.seq) ∧ w'.cell? ⟨X, 2, none⟩ = some (.int .i64 o.num) ∧ w'.cell? ⟨X, 3, none⟩ = some (.int .i64 o.kind) ∧ w'.cell? ⟨X, 4, none⟩ = some (.int .i64 o.at_) ∧ w'.cell? ⟨X, 5, none⟩ = some (.string o.text) ∧ w'.cell? ⟨X, 6, none⟩ = some (.slice o.sa o.slen o.scap))
      (first
        | exact ⟨Mod.drew (Mod.refl none_ W0), c0, c1, c2, c3, c4, c5, c6⟩
        | assumption
        | (obtain ⟨q, q0, q1, q2, q3, q4, q5, q6⟩ := ‹Mod none_ W0 _ ∧ _›; exact ⟨q.trans m1, m1.cell (fun e => e) q0, m1.cell (fun e => e) q1, m1.cell (fun e => e) q2, m1.cell (fun e => e) q3, m1.cell (fun e => e) q4, m1.cell (fun e => e) q5, m1.cell (fun e => e) q6⟩))
      (first
        | (go_at_call 18; refine (HSI.out _ (And.left (by assumption))).mono ?_; rintro e w1 ⟨rfl, m1⟩)
        | (go_at_call 48; refine (HMA.out _ (And.left (by assumption))).mono ?_; rintro e w1 ⟨rfl, m1⟩))
    go_wp2_with fail
    go_ret
    refine ⟨by rw [HE1.out]; rfl, (M0.out.trans (And.left (by assumption))).mono (fun _ _ e => e.elim), ?_⟩
    rw [HL1.out]
    exact (HI.out.grown (M0.out.trans (And.left (by assumption)))).mono (fun k _ hk => .inl hk)
  | true =>
    go_region_held3 (fun w' => Mod none_ W0 w' ∧ w'.cell? ⟨X, 0, none⟩ = some (.int .i64 o.site) ∧ w'.cell? ⟨X, 1, none⟩ = some (.int .i64 o.seq) ∧ w'.cell? ⟨X, 2, none⟩ = some (.int .i64 o.num) ∧ w'.cell? ⟨X, 3, none⟩ = some (.int .i64 o.kind) ∧ w'.cell? ⟨X, 4, none⟩ = some (.int .i64 o.at_) ∧ w'.cell? ⟨X, 5, none⟩ = some (.string o.text) ∧ w'.cell? ⟨X, 6, none⟩ = some (.slice o.sa o.slen o.scap))
      (first
        | exact ⟨Mod.drew (Mod.refl none_ W0), c0, c1, c2, c3, c4, c5, c6⟩
        | assumption
        | (obtain ⟨q, q0, q1, q2, q3, q4, q5, q6⟩ := ‹Mod none_ W0 _ ∧ _›; exact ⟨q.trans m1, m1.cell (fun e => e) q0, m1.cell (fun e => e) q1, m1.cell (fun e => e) q2, m1.cell (fun e => e) q3, m1.cell (fun e => e) q4, m1.cell (fun e => e) q5, m1.cell (fun e => e) q6⟩))
      (first
        | (go_at_call 18; refine (HSI.out _ (And.left (by assumption))).mono ?_; rintro e w1 ⟨rfl, m1⟩)
        | (go_at_call 48; refine (HMA.out _ (And.left (by assumption))).mono ?_; rintro e w1 ⟨rfl, m1⟩))
    obtain ⟨q, q0, q1, q2, q3, q4, q5, q6⟩ := ‹Mod none_ W0 _ ∧ _›
    have hDS := HD.out.grown q
    have hOS := HO.out.grown q
    have M1 := Lib.hid (M0.out.trans q)
    by_cases hk : o.kind = 2
    · have hkd : (o.kind == 2) = true := by simp [hk]
      have hsp : spansOk sp = true := by
        have := HM.out
        unfold opMay at this
        rw [if_neg (by omega), if_pos hk] at this
        simp [delOk] at this
        exact this.2.1.2
      have HE1 := Lib.hid (show E = 0 by rw [HE.out]; unfold doE; rw [if_pos HM.out.symm, if_pos hk])
      have HL1 := Lib.hid (show L = markS sp 0 l by rw [HL.out]; unfold doL; rw [if_pos HM.out.symm, if_pos hk])
      obtain ⟨v, MB, bl, hv, hn, hl, hf, hmb, hne⟩ := hDS.ex
      have HMK := Lib.hid (mark_any _ D MB v bl o.sa o.slen o.scap sp hv (by rw [hl]; omega) ⟨hOS.sp, fun b off e h0 hk => HFAR.out b off e h0 (hf _ hk)⟩ hsp)
      have FIN := Lib.hid (fun w2 (m2 : Mod (foot D v bl) _ w2) (hv2 : DocV w2 D v MB (markBl sp 0 bl)) => DocS.marked (sp := sp) M1.out hv hn hl hf hmb hne m2 hv2)
      clear hv hn hl hf hmb hne hsp hk hDS hOS q
      go_wp2_with fail
      refine HMK.out.mono ?_
      rintro e w2 ⟨rfl, m2, hv2⟩
      have FIN := Lib.hid (FIN.out w2 m2 hv2)
      clear m2 hv2
      go_wp2_with fail
      go_ret
      rw [HE1.out, HL1.out]
      exact FIN.out
    · have hkd : (o.kind == 2) = false := by simp [hk]
      have hop := HM.out
      unfold opMay at hop
      have hk1 : o.kind = 1 := by
        apply Classical.byContradiction
        intro hh
        rw [if_neg hh, if_neg hk] at hop
        simp at hop
      rw [if_pos hk1] at hop
      have hins : insOk o (l.length : Int) = true := by
        simp only [Bool.and_eq_true, Bool.true_eq] at hop
        exact hop.2
      have hnm := key_name hOS.i1 hOS.i2
      obtain ⟨v, MB, bl, hv0, hn0, hl, hf, hmb, hne⟩ := HI.out.ex
      have hv := hv0.grown M1.out
      have hn := hn0.mod M1.out (fun e => e)
      have HXF := Lib.hid (show ¬ foot D v bl X from fun hh => by have := hv0.flt hh; have := HX.out; omega)
      have HXM := Lib.hid (show X ≠ MB from fun e => by have := hn0.lt; have := HX.out; omega)
      have HV0 := Lib.hid hv0
      have HN0 := Lib.hid hn0
      clear hv0 hn0
      have d1 := hv.doc.cell 1
      simp only [List.getElem?_cons_zero, List.getElem?_cons_succ] at d1
      have hlk := (hn.mod (Mod.drew (Mod.refl none_ _)) (fun e => e)).at_ kName Tryd.underlying88 zInt hnm
      by_cases hmem : o.name ∈ l.map CellV.name
      · have HE1 := Lib.hid (show E = 15 by rw [HE.out]; unfold doE; rw [if_pos HM.out.symm, if_neg hk, if_pos hmem])
        have HL1 := Lib.hid (show L = l by rw [HL.out]; unfold doL; rw [if_pos HM.out.symm, if_neg hk, if_pos hmem])
        have hc0 : 0 < cnt (l.map CellV.name) o.name := Nat.pos_of_ne_zero (fun e => cnt_zero.1 e hmem)
        obtain ⟨C, hC⟩ : ∃ C, C = cnt (l.map CellV.name) o.name := ⟨_, rfl⟩
        rw [← hC] at hlk hc0
        have hcd : decide ((0 : Int) < (C : Int)) = true := by simp; omega
        have FIN := Lib.hid (HI.out.grown M1.out)
        clear hC hv hn hl hf hmb hne hop hk hk1 hins hDS hOS hmem hnm
        go_wp2_with fail
        go_region_law (fail)
        all_goals go_wp2_with fail
        all_goals go_ret
        all_goals rw [HE1.out, HL1.out]
        all_goals exact ⟨rfl, (M1.out.drew).mono (fun _ _ e => e.elim), (FIN.out.grown (Mod.drew (Mod.refl none_ _))).mono (fun k _ hk => .inl hk)⟩
      · have hcz := cnt_zero.2 hmem
        rw [hcz] at hlk
        simp only [Int.ofNat_zero, Int.natCast_zero] at hlk
        have HINS := Lib.hid hins
        obtain ⟨rs, hrs, hr0, hr1, hr2, hp0, hp1⟩ : ∃ rs, runesOf o.text = some rs ∧ 0 < rs.length ∧ rs.length ≤ 200 ∧ l.length + rs.length ≤ 20000 ∧ 0 ≤ o.at_ ∧ o.at_ ≤ l.length := by
          have hi := hins
          unfold insOk textOk inB at hi
          simp only [Bool.and_eq_true, decide_eq_true_eq] at hi
          cases hrr : runesOf o.text with
          | none => rw [ulen_none hrr] at hi; omega
          | some rs => rw [ulen_some hrr] at hi; exact ⟨rs, rfl, by omega, by omega, by omega, by omega, by omega⟩
        have HRL := Lib.hid (show ∀ r ∈ rs, r ≤ 1114111 from runes_le _ o.text (Nat.le_refl _) rs hrs)
        have HRS := Lib.hid hrs
        obtain ⟨p, hp⟩ : ∃ p : Nat, o.at_ = (p : Int) := ⟨o.at_.toNat, by omega⟩
        have hpl : p ≤ l.length := by omega
        rw [hp] at q4
        have HP := Lib.hid hp
        obtain ⟨n, hnr⟩ : ∃ n, n = rs.length := ⟨_, rfl⟩
        rw [← hnr] at hr0 hr1 hr2
        have HNR := Lib.hid hnr
        obtain ⟨i0, hi0, hz0, hz1, hz2⟩ := info_parts infoCell
        have HMK := Lib.hid (fun (W : World) => run_make_full (P := Tryd.prog) W W.heap.size 22 63 i0 _ 5 Tryd.underlying22 hi0 hz0 hz1 .i64 .i64 n (by rw [hz2]; omega) (by unfold maxLen; omega) (Nat.le_refl _))
        have HE1 := Lib.hid (show E = 0 by rw [HE.out]; unfold doE; rw [if_pos HM.out.symm, if_neg hk, if_neg hmem])
        have HL1 := Lib.hid (show L = l.take p ++ freshC o rs ++ l.drop p by rw [HL.out]; unfold doL runesD; rw [if_pos HM.out.symm, if_neg hk, if_neg hmem, hrs, hp]; rfl)
        clear hrs hp hnr hp0 hp1 hi0 hz0 hz1 hz2
        have HMEM := Lib.hid hmem
        have HHV := Lib.hid hv
        have HHN := Lib.hid hn
        have HHL := Lib.hid hl
        have HHF := Lib.hid hf
        have HHM := Lib.hid hmb
        have HHNE := Lib.hid hne
        have HOS := Lib.hid hOS
        have HKN := Lib.hid hnm
        have HK := Lib.hid hk
        clear hv hn hl hf hmb hne hop hk hk1 hins hDS hOS hmem hnm hcz
        go_wp2_with fail
        go_region_law (fail)
        all_goals go_wp2_with fail
        all_goals (
          refine (split_any o.text _ (by exact (HOS.out.grown ((Mod.refl none_ _).drew)).tx) (by omega)).mono ?_
          rintro e w4 ⟨m4, -, h4⟩
          obtain ⟨v4, rfl, own4⟩ := h4 rs HRS.out
          have M4 := Lib.hid ((M1.out.drew).trans m4)
          have r0 := (((Mod.refl none_ _).drew).trans m4).cell (fun e => e) q0
          have r1 := (((Mod.refl none_ _).drew).trans m4).cell (fun e => e) q1
          have r4 := (((Mod.refl none_ _).drew).trans m4).cell (fun e => e) q4
          have r5 := (((Mod.refl none_ _).drew).trans m4).cell (fun e => e) d1
          rcases ownsRow_blk own4 with ⟨-, hz, -⟩ | ⟨g4, cc4, more, hv4, hg4, k4, hnc, hcm, -⟩
          · exfalso; have := HNR.out; omega
          subst hv4
          rw [← HNR.out] at hnc ⊢
          obtain ⟨w5, hrun, own5, hgr5⟩ := HMK.out w4
          obtain ⟨G, hG⟩ : ∃ G, G = w4.heap.size := ⟨_, rfl⟩
          rw [made_flat, ← hG] at own5
          rw [← hG] at hrun
          have hXG : X < G := by rw [hG]; exact cell_lt r0
          have hDG : D < G := by rw [hG]; exact cell_lt r5
          have hgG : g4 < G := by rw [hG]; exact k4.lt
          have hwG : w.heap.size ≤ G := by rw [hG]; exact M4.out.size
          have m5 : Mod none_ w4 w5 := (Mod.refl none_ w4).grown hgr5 (fun k e => by cases e)
          rcases ownsRow_blk own5 with ⟨hh, -⟩ | ⟨G', c5, more5, he, -, k5, -, -, hl5⟩
          · cases hh
          have e1 : G' = G := by cases he; rfl
          have e2 : c5 = n := by cases he; rfl
          rw [e1] at k5
          rw [e2] at hl5
          have hm5 : more5 = [] := by
            rw [flat_length CellV.len, List.length_replicate] at hl5
            exact List.eq_nil_of_length_eq_zero (by omega)
          subst hm5
          have KR := Lib.hid (k4.mod m5 (fun e => e))
          have M5 := Lib.hid (M4.out.trans m5)
          have s0 := m5.cell (fun e => e) r0
          have s1 := m5.cell (fun e => e) r1
          have s4 := m5.cell (fun e => e) r4
          have s5 := m5.cell (fun e => e) r5
          have hi0 : halfC o rs 0 = List.replicate n zeroC := by unfold halfC; rw [← HNR.out]; simp
          have hst : Blk w5 G (flat CellV.cs (halfC o rs 0)) 63 := by rw [hi0]; simpa using k5
          have HST := Lib.hid hst
          have HWG := Lib.hid hwG
          clear m4 m5 own4 own5 k4 k5 hgr5 r0 r1 r4 r5 hi0 hst hG hwG hl5 he h4 e1 e2
          go_wp2_with fail
          go_loopg [8, 9, 45] n (fun g s8 s9 s45 wx => ∃ k : Nat, g = n - k ∧ s45 = .int .i64 k ∧ k ≤ n ∧ Mod (one G) w5 wx ∧ RowKit.Hid (Blk wx G (flat CellV.cs (halfC o rs k)) 63))
          case atStart => exact ⟨0, rfl, rfl, Nat.zero_le _, Mod.refl _ _, HST⟩
          case round =>
            obtain ⟨k, rfl, rfl, hkn, mx, hb⟩ := hrel
            by_cases hlt : k < n
            · have hd : decide ((k : Int) < (n : Int)) = true := by simp; omega
              obtain ⟨r, hr⟩ : ∃ r, rs[k]? = some r := ⟨_, List.getElem?_eq_getElem (by have := HNR.out; omega)⟩
              have t0 := mx.cell (show ¬ one G X from fun e => by have : X = G := e; omega) s0
              have t1 := mx.cell (show ¬ one G X from fun e => by have : X = G := e; omega) s1
              have hrow := (KR.out.mod mx (show ¬ one G g4 from fun e => by have : g4 = G := e; omega)).cell k
              rw [List.getElem?_append_left (by simp; have := HNR.out; omega), List.getElem?_map, hr, Option.map_some] at hrow
              have hll : (halfC o rs k).length = n := by rw [halfC_len o rs k (by have := HNR.out; omega)]; exact HNR.out.symm
              have hth := hb.out.there (k * 5) 5 (by rw [flat_length CellV.len, hll]; omega)
              obtain ⟨kp, mp⟩ := Blk.put CellV.len (more := []) (by simpa using hb.out) k (by omega) ⟨o.site, o.seq, (k : Int), (r : Int), false⟩
              rw [halfC_succ o rs k r hr, List.append_nil] at kp
              have MP := Lib.hid (mx.trans mp)
              have KP := Lib.hid kp
              clear mx hb hr hll kp mp
              go_wp2_with fail
              go_roundg (n - (k + 1))
              case measure => omega
              case rel => exact ⟨k + 1, rfl, by simp, by omega, MP.out, KP⟩
            · obtain rfl : k = n := by omega
              have hd : decide ((k : Int) < (k : Int)) = false := by simp
              have t0 := mx.cell (show ¬ one G X from fun e => by have : X = G := e; omega) s0
              have t1 := mx.cell (show ¬ one G X from fun e => by have : X = G := e; omega) s1
              have t4 := mx.cell (show ¬ one G X from fun e => by have : X = G := e; omega) s4
              have hfr : Blk wr G (flat CellV.cs (freshC o rs)) 63 := by
                have := hb.out
                rw [HNR.out, halfC_all] at this; exact this
              have mw : Mod none_ w wr := M5.out.transIn mx (fun x hx e => by have : x = G := e; have := HWG.out; omega)
              have INS := Lib.hid (insert_any wr D MB p G k k v bl (freshC o rs) (HV0.out.grown mw) HHNE.out (by rw [HHL.out]; omega) (by rw [HHL.out]; omega) hfr (fun hh => by have := HV0.out.flt hh; have := HWG.out; omega) (by rw [freshC_len]; exact HNR.out.symm) hr0 (by rw [HHL.out]; exact HOK.out) (freshC_ok o rs HOS.out.i1 HOS.out.i2 (by have := HNR.out; omega) HRL.out))
              have MW := Lib.hid mw
              clear mx hb hfr mw
              go_wp2_with fail
              refine INS.out.mono ?_
              rintro e w7 ⟨rfl, m7, v', bl', hv7, hl7, hf7, hne7⟩
              have u0 := m7.cell HXF.out t0
              have u1 := m7.cell HXF.out t1
              have u5 := hv7.doc.cell 1
              simp only [List.getElem?_cons_zero, List.getElem?_cons_succ] at u5
              have hn7 : Names Tryd.prog 33 w7 MB (l.map CellV.name) := (HN0.out.mod MW.out (fun e => e)).mod m7 (foot_names HV0.out HN0.out)
              obtain ⟨w8, hup, m8, hn8⟩ := (hn7.mod (Mod.drew (Mod.refl none_ _)) (fun e => e)).many kName Tryd.underlying88 HKN.out HMEM.out k hr0
              have FIN := Lib.hid (do_put (p := p) MW.out HHF.out HHM.out HHL.out m7 hv7 hn7 hl7 hf7 hne7 m8 hn8 HNR.out)
              clear m7 hv7 hn7 hl7 hf7 hne7 m8 hn8 t0 t1 t4
              go_wp2_with fail
              go_region_law (fail)
              all_goals go_wp2_with fail
              all_goals go_ret
              all_goals (rw [HE1.out, HL1.out]; exact FIN.out))
end Go.Proofs.YtlbkalbelefhmaaDoor

namespace Go.Proofs.YtlbkalbelefhmaaDoor
open Go.RowKit Go.Mine

theorem ix0 (a t : Int) (w : World) : (Instr.index 24 (.agg #[.int .i64 a, .int .i64 t]) (.int .i64 0)).run Tryd.prog w = .ok (.int .i64 a) w := by kernel_rfl
theorem ix1 (a t : Int) (w : World) : (Instr.index 24 (.agg #[.int .i64 a, .int .i64 t]) (.int .i64 1)).run Tryd.prog w = .ok (.int .i64 t) w := by kernel_rfl
attribute [local go_sem] ix0 ix1

set_option maxHeartbeats 2000000 in
set_option maxRecDepth 1000000 in
theorem cmay_any (s a t size : Int) (w : World) : Calls Tryd.prog 63 #[.agg #[.int .i64 s, .int .i64 a, .int .i64 t], .int .i64 size] w fun e w' => e = .returned (.bool (markOk s a t size)) ∧ Mod none_ w w' := by
  obtain ⟨W0, hW0⟩ : ∃ W0, w.alloc (.cells #[.int .i64 s, .int .i64 a, .int .i64 t] 66) = W0 := ⟨_, rfl⟩
  have kB : Blk W0 w.heap.size [.int .i64 s, .int .i64 a, .int .i64 t] 66 := by rw [← hW0]; exact Blk.new
  have M0 := Lib.hid (show Mod none_ w W0 by rw [← hW0]; exact (Mod.refl none_ w).alloc _)
  have c0 : W0.cell? ⟨w.heap.size, 0, none⟩ = some (.int .i64 s) := by rw [kB.cell]; rfl
  have c1 : W0.cell? ⟨w.heap.size, 1, none⟩ = some (.int .i64 a) := by rw [kB.cell]; rfl
  have c2 : W0.cell? ⟨w.heap.size, 2, none⟩ = some (.int .i64 t) := by rw [kB.cell]; rfl
  obtain ⟨R, hR⟩ : ∃ R, R = markOk s a t size := ⟨_, rfl⟩
  rw [← hR]
  have HR := Lib.hid hR
  clear hR kB
  go_enter Tryd.func63, Tryd.ntmps63
  go_upto_region 1 with fail
  clear hW0
  go_wp2_with fail
  refine (cwithin_any size 0 20000 _).mono ?_
  rintro e w1 ⟨rfl, rfl⟩
  cases h1 : inB size 0 20000
  · go_wp2_with fail
    go_ret
    exact ⟨by rw [HR.out]; simp [markOk, h1], M0.out⟩
  go_wp2_with fail
  refine (cwithin_any s 1 16 _).mono ?_
  rintro e w1 ⟨rfl, rfl⟩
  cases h2 : inB s 1 16
  · go_wp2_with fail
    go_ret
    exact ⟨by rw [HR.out]; simp [markOk, h1, h2], M0.out⟩
  go_wp2_with fail
  refine (places_any s a t _).mono ?_
  rintro e w2 ⟨rfl, m2⟩
  have M2 := Lib.hid (M0.out.trans m2)
  clear m2
  go_wp2_with fail
  go_loopg [18] 2 (fun g s18 wx => ∃ k : Nat, g = 2 - k ∧ s18 = .int .i64 k ∧ k ≤ 2 ∧ wx = w2 ∧ (1 ≤ k → RowKit.Hid (inB a 0 size = true)) ∧ (2 ≤ k → RowKit.Hid (inB t 0 size = true)))
  case atStart => exact ⟨0, rfl, rfl, by omega, rfl, fun h => by omega, fun h => by omega⟩
  case round =>
    obtain ⟨k, rfl, rfl, hk, rfl, ha, ht⟩ := hrel
    match k, hk, ha, ht with
    | 0, _, _, _ =>
      go_wp2_with fail
      refine (cwithin_any a 0 size _).mono ?_
      rintro e w1 ⟨rfl, rfl⟩
      cases h3 : inB a 0 size
      · go_wp2_with fail
        go_ret
        exact ⟨by rw [HR.out]; simp [markOk, h1, h2, h3], M2.out⟩
      · go_wp2_with fail
        go_roundg 1
        case measure => omega
        case rel => exact ⟨1, rfl, by go_num, by omega, rfl, fun _ => Lib.hid h3, fun h => by omega⟩
    | 1, _, ha, _ =>
      have h3 := ha (Nat.le_refl _)
      go_wp2_with fail
      refine (cwithin_any t 0 size _).mono ?_
      rintro e w1 ⟨rfl, rfl⟩
      cases h4 : inB t 0 size
      · go_wp2_with fail
        go_ret
        exact ⟨by rw [HR.out]; simp [markOk, h1, h2, h3.out, h4], M2.out⟩
      · go_wp2_with fail
        go_roundg 0
        case measure => omega
        case rel => exact ⟨2, rfl, by go_num, by omega, rfl, fun _ => h3, fun _ => Lib.hid h4⟩
    | 2, _, ha, ht =>
      have h3 := ha (by omega)
      have h4 := ht (Nat.le_refl _)
      go_wp2_with fail
      go_ret
      exact ⟨by rw [HR.out]; simp [markOk, h1, h2, h3.out, h4.out], M2.out⟩

end Go.Proofs.YtlbkalbelefhmaaDoor

namespace Go.Proofs.YtlbkalbelefhmaaDoor
open Go.RowKit Go.Mine

/-- Where a place is behind n cells inserted. -/
def pointOf (p at_ n : Int) (stays : Bool) : Int := if at_ < p ∨ (p = at_ ∧ stays = false) then p + n else p

theorem point_any (at_ n p : Int) (stays : Bool) (w : World) (hb : -9223372036854775808 ≤ p + n ∧ p + n ≤ 9223372036854775807) :
    Calls Tryd.prog 85 #[.agg #[.int .i64 at_, .int .i64 n], .int .i64 p, .bool stays] w fun e w' => e = .returned (.int .i64 (pointOf p at_ n stays)) ∧ Mod none_ w w' := by
  have M0 := Lib.hid ((Mod.refl none_ w).alloc (.cells #[.int .i64 at_, .int .i64 n] 151))
  by_cases h1 : at_ < p
  · have hR : pointOf p at_ n stays = p + n := by unfold pointOf; rw [if_pos (.inl h1)]
    rw [hR]
    go_enter Tryd.func85, Tryd.ntmps85
    go_wp2
    go_ret
    exact ⟨rfl, M0.out⟩
  · by_cases h2 : p = at_
    · cases stays
      · have hR : pointOf p at_ n false = p + n := by unfold pointOf; rw [if_pos (.inr ⟨h2, rfl⟩)]
        rw [hR]
        subst h2
        go_enter Tryd.func85, Tryd.ntmps85
        go_wp2
        go_ret
        exact ⟨rfl, M0.out⟩
      · have hR : pointOf p at_ n true = p := by unfold pointOf; rw [if_neg]; rintro (h | ⟨_, h⟩); exact h1 h; cases h
        rw [hR]
        subst h2
        go_enter Tryd.func85, Tryd.ntmps85
        go_wp2
        go_ret
        exact ⟨rfl, M0.out⟩
    · have hR : pointOf p at_ n stays = p := by unfold pointOf; rw [if_neg]; rintro (h | ⟨h, _⟩); exact h1 h; exact h2 h
      rw [hR]
      have hb2 : (p == at_) = false := by simpa using h2
      go_enter Tryd.func85, Tryd.ntmps85
      go_wp2
      go_ret
      exact ⟨rfl, M0.out⟩

set_option maxHeartbeats 4000000 in
set_option maxRecDepth 1000000 in
theorem ipoint_any (o : OpV) (p size : Int) (stays : Bool) (w : World) (l : List (Int × Int)) (h : o.ok w l) (hk : o.kind = 1) (h1 : inB size 0 20000 = true) (h2 : nameOk o.site o.seq = true) (h3 : inB o.num 0 1099511627776 = true) (h4 : insOk o size = true) (hp : 0 ≤ p ∧ p ≤ size) :
    Calls Tryd.prog 65 #[.int .i64 p, o.v, .int .i64 size, .bool stays] w fun e w' => e = .returned (.tuple #[.int .i64 (pointOf p o.at_ (addsOf o) stays), .int .i64 0]) ∧ Mod none_ w w' := by
  have hs : 0 ≤ size ∧ size ≤ 20000 := by simpa [inB] using h1
  have hu : 0 ≤ addsOf o ∧ addsOf o ≤ 20000 := by
    have : ulen o.text ≤ 20000 - size := by simp [insOk] at h4; exact h4.2
    unfold addsOf; rw [if_pos hk]; omega
  obtain ⟨W0, hW0⟩ : ∃ W0, w.alloc (.cells o.cs.toArray 36) = W0 := ⟨_, rfl⟩
  obtain ⟨m0, kB⟩ := opBox1 hW0
  have HM := Lib.hid (mayIns_any o size W0 l (h.grown m0) hk h1 h2 h3)
  rw [h4] at HM
  have H0 := Lib.hid (h.grown m0)
  have M0 := Lib.hid m0
  have c0 : W0.cell? ⟨w.heap.size, 0, none⟩ = some (.int .i64 o.site) := by rw [kB.cell]; rfl
  have c1 : W0.cell? ⟨w.heap.size, 1, none⟩ = some (.int .i64 o.seq) := by rw [kB.cell]; rfl
  have c2 : W0.cell? ⟨w.heap.size, 2, none⟩ = some (.int .i64 o.num) := by rw [kB.cell]; rfl
  have c3 : W0.cell? ⟨w.heap.size, 3, none⟩ = some (.int .i64 o.kind) := by rw [kB.cell]; rfl
  have c4 : W0.cell? ⟨w.heap.size, 4, none⟩ = some (.int .i64 o.at_) := by rw [kB.cell]; rfl
  have c5 : W0.cell? ⟨w.heap.size, 5, none⟩ = some (.string o.text) := by rw [kB.cell]; rfl
  have c6 : W0.cell? ⟨w.heap.size, 6, none⟩ = some (.slice o.sa o.slen o.scap) := by rw [kB.cell]; rfl
  have KB := Lib.hid kB
  have hk1 : decide (o.kind = 1) = true := by simpa using hk
  have hk2 : (o.kind == 1) = true := by simpa using hk
  have hpd : decide (p < 0) = false := by simp; omega
  have hpd2 : decide (size < p) = false := by simp; omega
  clear h m0 kB hk h1 h2 h3 h4
  go_enter Tryd.func65, Tryd.ntmps65
  go_upto_region 1 with fail
  clear hW0
  go_wp2_with fail
  refine HM.out.mono ?_
  rintro e w1 ⟨rfl, m1⟩
  have k1 := KB.out.mod m1 (fun e => e)
  have M1 := Lib.hid (M0.out.trans m1)
  have H1 := Lib.hid (H0.out.grown m1)
  have d0 : w1.cell? ⟨w.heap.size, 0, none⟩ = some (.int .i64 o.site) := by rw [k1.cell]; rfl
  have d1 : w1.cell? ⟨w.heap.size, 1, none⟩ = some (.int .i64 o.seq) := by rw [k1.cell]; rfl
  have d2 : w1.cell? ⟨w.heap.size, 2, none⟩ = some (.int .i64 o.num) := by rw [k1.cell]; rfl
  have d3 : w1.cell? ⟨w.heap.size, 3, none⟩ = some (.int .i64 o.kind) := by rw [k1.cell]; rfl
  have d4 : w1.cell? ⟨w.heap.size, 4, none⟩ = some (.int .i64 o.at_) := by rw [k1.cell]; rfl
  have d5 : w1.cell? ⟨w.heap.size, 5, none⟩ = some (.string o.text) := by rw [k1.cell]; rfl
  have d6 : w1.cell? ⟨w.heap.size, 6, none⟩ = some (.slice o.sa o.slen o.scap) := by rw [k1.cell]; rfl
  clear c0 c1 c2 c3 c4 c5 c6 m1 k1
  go_upto_region 5 with fail
  have hH := H1.out
  go_region_held3 (fun w' => Mod none_ w1 w' ∧ w'.cell? ⟨w.heap.size, 0, none⟩ = some (.int .i64 o.site) ∧ w'.cell? ⟨w.heap.size, 1, none⟩ = some (.int .i64 o.seq) ∧ w'.cell? ⟨w.heap.size, 2, none⟩ = some (.int .i64 o.num) ∧ w'.cell? ⟨w.heap.size, 3, none⟩ = some (.int .i64 o.kind) ∧ w'.cell? ⟨w.heap.size, 4, none⟩ = some (.int .i64 o.at_) ∧ w'.cell? ⟨w.heap.size, 5, none⟩ = some (.string o.text) ∧ w'.cell? ⟨w.heap.size, 6, none⟩ = some (.slice o.sa o.slen o.scap))
    (first
      | exact ⟨Mod.drew (Mod.refl none_ w1), d0, d1, d2, d3, d4, d5, d6⟩
      | assumption
      | (obtain ⟨q, q0, q1, q2, q3, q4, q5, q6⟩ := ‹Mod none_ w1 _ ∧ _›; exact ⟨q.trans m1, m1.cell (fun e => e) q0, m1.cell (fun e => e) q1, m1.cell (fun e => e) q2, m1.cell (fun e => e) q3, m1.cell (fun e => e) q4, m1.cell (fun e => e) q5, m1.cell (fun e => e) q6⟩))
    (first
      | (go_at_call 66; refine (adds_any o _ _ (hH.grown (And.left (by assumption)))).mono ?_; rintro e w2 ⟨rfl, m1⟩)
      | (go_at_call 85; refine (point_any o.at_ (addsOf o) p stays _ (by omega)).mono ?_; rintro e w2 ⟨rfl, m1⟩))
  go_wp2_with fail
  go_ret2
  exact ⟨rfl, M1.out.trans (And.left (by assumption))⟩

end Go.Proofs.YtlbkalbelefhmaaDoor

namespace Go.Proofs.YtlbkalbelefhmaaDoor
open Go.RowKit Go.Mine

set_option maxHeartbeats 4000000 in
set_option maxRecDepth 1000000 in
theorem at_any (s a t x y : Int) (w : World) : Calls Tryd.prog 62 #[.agg #[.int .i64 s, .int .i64 a, .int .i64 t], .agg #[.int .i64 x, .int .i64 y]] w fun e w' => e = .returned (.agg #[.int .i64 s, .int .i64 x, .int .i64 y]) ∧ Mod none_ w w' := by
  obtain ⟨W0, hW0⟩ : ∃ W0, ((w.alloc (.cells #[.int .i64 s, .int .i64 a, .int .i64 t] 66)).alloc (.cells #[.int .i64 x, .int .i64 y] 24)).alloc (.cells #[.int .i64 0, .int .i64 0, .int .i64 0] 66) = W0 := ⟨_, rfl⟩
  have M0 := Lib.hid (show Mod none_ w W0 by rw [← hW0]; exact (((Mod.refl none_ w).alloc _).alloc _).alloc _)
  have k0 : Blk W0 w.heap.size [.int .i64 s, .int .i64 a, .int .i64 t] 66 := by
    rw [← hW0]
    exact ((Blk.new (w := w) (cs := [.int .i64 s, .int .i64 a, .int .i64 t]) (t := 66)).mod ((Mod.refl none_ _).alloc _) (fun e => e)).mod ((Mod.refl none_ _).alloc _) (fun e => e)
  have k1 : Blk W0 (w.heap.size + 1) [.int .i64 x, .int .i64 y] 24 := by
    have := Blk.new (w := w.alloc (.cells #[.int .i64 s, .int .i64 a, .int .i64 t] 66)) (cs := [.int .i64 x, .int .i64 y]) (t := 24)
    rw [World.size_alloc] at this
    rw [← hW0]
    exact this.mod ((Mod.refl none_ _).alloc _) (fun e => e)
  have k2 : Blk W0 (w.heap.size + 1 + 1) [.int .i64 0, .int .i64 0, .int .i64 0] 66 := by
    have := Blk.new (w := (w.alloc (.cells #[.int .i64 s, .int .i64 a, .int .i64 t] 66)).alloc (.cells #[.int .i64 x, .int .i64 y] 24)) (cs := [.int .i64 0, .int .i64 0, .int .i64 0]) (t := 66)
    rw [World.size_alloc, World.size_alloc] at this
    rw [← hW0]
    exact this
  have c0 : W0.cell? ⟨w.heap.size, 0, none⟩ = some (.int .i64 s) := by rw [k0.cell]; rfl
  have c1 : W0.cell? ⟨w.heap.size, 1, none⟩ = some (.int .i64 a) := by rw [k0.cell]; rfl
  have c2 : W0.cell? ⟨w.heap.size, 2, none⟩ = some (.int .i64 t) := by rw [k0.cell]; rfl
  have f1 := k0.frozen 1
  have f2 := k0.frozen 2
  have e0 : W0.cell? ⟨w.heap.size + 1, 0, none⟩ = some (.int .i64 x) := by rw [k1.cell]; rfl
  have e1 : W0.cell? ⟨w.heap.size + 1, 1, none⟩ = some (.int .i64 y) := by rw [k1.cell]; rfl
  have g0 : W0.cell? ⟨w.heap.size + 1 + 1, 0, none⟩ = some (.int .i64 0) := by rw [k2.cell]; rfl
  have g1 : W0.cell? ⟨w.heap.size + 1 + 1, 1, none⟩ = some (.int .i64 0) := by rw [k2.cell]; rfl
  have g2 : W0.cell? ⟨w.heap.size + 1 + 1, 2, none⟩ = some (.int .i64 0) := by rw [k2.cell]; rfl
  have h0 := k2.frozen 0
  have h1 := k2.frozen 1
  have h2 := k2.frozen 2
  have K2 := Lib.hid k2
  have K0 := Lib.hid k0
  clear k0 k1 k2
  go_enter Tryd.func62, Tryd.ntmps62
  go_upto_region 1 with fail
  clear hW0
  go_region_law (fail)
  all_goals
    have kk0 := ((K0.out.set 1 (.int .i64 x)).set 2 (.int .i64 y)).drew
    have mm := ((Mod.refl (one w.heap.size) W0).setCell ⟨w.heap.size, 1, none⟩ (fun _ => rfl) (.int .i64 x)).setCell ⟨w.heap.size, 2, none⟩ (fun _ => rfl) (.int .i64 y)
    have kk2 := (K2.out.mod mm (fun e => by have e' : w.heap.size + 1 + 1 = w.heap.size := e; omega)).drew
    have M1 := Lib.hid ((M0.out.transIn mm (fun b hb e => by have e' : b = w.heap.size := e; omega)).drew)
    generalize ((W0.setCell ⟨w.heap.size, 1, none⟩ (.int .i64 x)).setCell ⟨w.heap.size, 2, none⟩ (.int .i64 y)).drew = W1 at kk0 kk2 M1 ⊢
    clear c0 c1 c2 f1 f2 e0 e1 g0 g1 g2 h0 h1 h2 mm
    have c0 : W1.cell? ⟨w.heap.size, 0, none⟩ = some (.int .i64 s) := by rw [kk0.cell]; rfl
    have c1 : W1.cell? ⟨w.heap.size, 1, none⟩ = some (.int .i64 x) := by rw [kk0.cell]; rfl
    have c2 : W1.cell? ⟨w.heap.size, 2, none⟩ = some (.int .i64 y) := by rw [kk0.cell]; rfl
    have g0 : W1.cell? ⟨w.heap.size + 1 + 1, 0, none⟩ = some (.int .i64 0) := by rw [kk2.cell]; rfl
    have g1 : W1.cell? ⟨w.heap.size + 1 + 1, 1, none⟩ = some (.int .i64 0) := by rw [kk2.cell]; rfl
    have g2 : W1.cell? ⟨w.heap.size + 1 + 1, 2, none⟩ = some (.int .i64 0) := by rw [kk2.cell]; rfl
    have h0 := kk2.frozen 0
    have h1 := kk2.frozen 1
    have h2 := kk2.frozen 2
    have KF := Lib.hid (((kk2.set 0 (.int .i64 s)).set 1 (.int .i64 x)).set 2 (.int .i64 y))
    have MF := Lib.hid (((M1.out.setCell ⟨w.heap.size + 1 + 1, 0, none⟩ (fun h => absurd h (by simp; omega)) (.int .i64 s)).setCell ⟨w.heap.size + 1 + 1, 1, none⟩ (fun h => absurd h (by simp; omega)) (.int .i64 x)).setCell ⟨w.heap.size + 1 + 1, 2, none⟩ (fun h => absurd h (by simp; omega)) (.int .i64 y))
    clear kk0 kk2
    go_wp2_with fail
    exact bodyPost_ret (results_mk1 rfl _ _ (w.heap.size + 1 + 1) [.int .i64 s, .int .i64 x, .int .i64 y] rfl rfl (blk_range KF.out)) rfl ⟨rfl, MF.out⟩

end Go.Proofs.YtlbkalbelefhmaaDoor

namespace Go.Proofs.YtlbkalbelefhmaaDoor
open Go.RowKit Go.Mine

/-- What is answered when cells are dropped. -/
def dropV (s a t : Int) (l : List (Int × Int)) : Value := if markOk s a t 20000 && spansOk l then .tuple #[.agg #[.int .i64 s, .int .i64 (a - aheadOf l a), .int .i64 (t - aheadOf l t)], .int .i64 0] else .tuple #[.agg #[.int .i64 0, .int .i64 0, .int .i64 0], .int .i64 1]

/-- The two places behind k of them. -/
def twoAt (k : Nat) (a t x y : Int) : List Value := match k with
  | 0 => [.int .i64 a, .int .i64 t]
  | 1 => [.int .i64 x, .int .i64 t]
  | _ => [.int .i64 x, .int .i64 y]

set_option maxHeartbeats 4000000 in
set_option maxRecDepth 1000000 in
theorem cdrop_any (s a t : Int) (w : World) (sa : Option Addr) (len cap : Nat) (l : List (Int × Int)) (h : IsSpans w sa len cap l) (hlen : len ≤ 1000000) :
    Calls Tryd.prog 38 #[.agg #[.int .i64 s, .int .i64 a, .int .i64 t], .slice sa len cap] w fun e w' => e = .returned (dropV s a t l) ∧ Mod none_ w w' := by
  obtain ⟨W0, hW0⟩ : ∃ W0, (w.alloc (.cells #[.int .i64 s, .int .i64 a, .int .i64 t] 66)).alloc (.cells #[.int .i64 0, .int .i64 0, .int .i64 0] 66) = W0 := ⟨_, rfl⟩
  have m0 : Mod none_ w W0 := by rw [← hW0]; exact ((Mod.refl none_ w).alloc _).alloc _
  have k0 : Blk W0 w.heap.size [.int .i64 s, .int .i64 a, .int .i64 t] 66 := by
    rw [← hW0]
    exact (Blk.new (w := w) (cs := [.int .i64 s, .int .i64 a, .int .i64 t]) (t := 66)).mod ((Mod.refl none_ _).alloc _) (fun e => e)
  have k1 : Blk W0 (w.heap.size + 1) [.int .i64 0, .int .i64 0, .int .i64 0] 66 := by
    have := Blk.new (w := w.alloc (.cells #[.int .i64 s, .int .i64 a, .int .i64 t] 66)) (cs := [.int .i64 0, .int .i64 0, .int .i64 0]) (t := 66)
    rw [World.size_alloc] at this
    rw [← hW0]
    exact this
  have M0 := Lib.hid m0
  have HW := Lib.hid h
  have H0 := Lib.hid (h.grown m0)
  have K0 := Lib.hid k0
  have K1 := Lib.hid k1
  have c0 : W0.cell? ⟨w.heap.size, 0, none⟩ = some (.int .i64 s) := by rw [k0.cell]; rfl
  have c1 : W0.cell? ⟨w.heap.size, 1, none⟩ = some (.int .i64 a) := by rw [k0.cell]; rfl
  have c2 : W0.cell? ⟨w.heap.size, 2, none⟩ = some (.int .i64 t) := by rw [k0.cell]; rfl
  obtain ⟨R, hR⟩ : ∃ R, R = dropV s a t l := ⟨_, rfl⟩
  rw [← hR]
  have HR := Lib.hid hR
  clear hR h m0 k0 k1
  go_enter Tryd.func38, Tryd.ntmps38
  go_upto_region 1 with fail
  clear hW0
  go_wp2_with fail
  refine (cmay_any s a t 20000 _).mono ?_
  rintro e w1 ⟨rfl, m1⟩
  have M1 := Lib.hid (M0.out.trans m1)
  have H1 := Lib.hid (H0.out.grown m1)
  have k0 := K0.out.mod m1 (fun e => e)
  have k1 := K1.out.mod m1 (fun e => e)
  have c0 : w1.cell? ⟨w.heap.size, 0, none⟩ = some (.int .i64 s) := by rw [k0.cell]; rfl
  have c1 : w1.cell? ⟨w.heap.size, 1, none⟩ = some (.int .i64 a) := by rw [k0.cell]; rfl
  have c2 : w1.cell? ⟨w.heap.size, 2, none⟩ = some (.int .i64 t) := by rw [k0.cell]; rfl
  have d0 : w1.cell? ⟨w.heap.size + 1, 0, none⟩ = some (.int .i64 0) := by rw [k1.cell]; rfl
  have d1 : w1.cell? ⟨w.heap.size + 1, 1, none⟩ = some (.int .i64 0) := by rw [k1.cell]; rfl
  have d2 : w1.cell? ⟨w.heap.size + 1, 2, none⟩ = some (.int .i64 0) := by rw [k1.cell]; rfl
  have h0 := k1.frozen 0
  have h1 := k1.frozen 1
  have h2 := k1.frozen 2
  cases hmk : markOk s a t 20000
  · have HE := Lib.hid (show R = .tuple #[.agg #[.int .i64 0, .int .i64 0, .int .i64 0], .int .i64 1] by rw [HR.out]; unfold dropV; rw [hmk]; rfl)
    have KF := Lib.hid (((k1.set 0 (.int .i64 0)).set 1 (.int .i64 0)).set 2 (.int .i64 0))
    have MF := Lib.hid (((M1.out.setCell ⟨w.heap.size + 1, 0, none⟩ (fun h => absurd h (by simp)) (.int .i64 0)).setCell ⟨w.heap.size + 1, 1, none⟩ (fun h => absurd h (by simp)) (.int .i64 0)).setCell ⟨w.heap.size + 1, 2, none⟩ (fun h => absurd h (by simp)) (.int .i64 0))
    clear k0 k1 m1
    go_wp2_with fail
    exact bodyPost_ret (results_mkt rfl _ _ (w.heap.size + 1) [.int .i64 0, .int .i64 0, .int .i64 0] rfl rfl (blk_range KF.out)) rfl ⟨by rw [HE.out]; rfl, MF.out⟩
  have K01 := Lib.hid k0
  have K11 := Lib.hid k1
  clear k0 k1 m1
  go_wp2_with fail
  refine (spansMay_any _ sa len cap l H1.out).mono ?_
  rintro e w2 ⟨rfl, m2⟩
  have M2 := Lib.hid (M1.out.trans m2)
  have H2 := Lib.hid (H1.out.grown m2)
  have k0 := K01.out.mod m2 (fun e => e)
  have k1 := K11.out.mod m2 (fun e => e)
  clear c0 c1 c2 d0 d1 d2 h0 h1 h2
  have c0 : w2.cell? ⟨w.heap.size, 0, none⟩ = some (.int .i64 s) := by rw [k0.cell]; rfl
  have c1 : w2.cell? ⟨w.heap.size, 1, none⟩ = some (.int .i64 a) := by rw [k0.cell]; rfl
  have c2 : w2.cell? ⟨w.heap.size, 2, none⟩ = some (.int .i64 t) := by rw [k0.cell]; rfl
  have d0 : w2.cell? ⟨w.heap.size + 1, 0, none⟩ = some (.int .i64 0) := by rw [k1.cell]; rfl
  have d1 : w2.cell? ⟨w.heap.size + 1, 1, none⟩ = some (.int .i64 0) := by rw [k1.cell]; rfl
  have d2 : w2.cell? ⟨w.heap.size + 1, 2, none⟩ = some (.int .i64 0) := by rw [k1.cell]; rfl
  have h0 := k1.frozen 0
  have h1 := k1.frozen 1
  have h2 := k1.frozen 2
  cases hok : spansOk l
  · have HE := Lib.hid (show R = .tuple #[.agg #[.int .i64 0, .int .i64 0, .int .i64 0], .int .i64 1] by rw [HR.out]; unfold dropV; rw [hmk, hok]; rfl)
    have KF := Lib.hid (((k1.set 0 (.int .i64 0)).set 1 (.int .i64 0)).set 2 (.int .i64 0))
    have MF := Lib.hid (((M2.out.setCell ⟨w.heap.size + 1, 0, none⟩ (fun h => absurd h (by simp)) (.int .i64 0)).setCell ⟨w.heap.size + 1, 1, none⟩ (fun h => absurd h (by simp)) (.int .i64 0)).setCell ⟨w.heap.size + 1, 2, none⟩ (fun h => absurd h (by simp)) (.int .i64 0))
    clear k0 k1 m2
    go_wp2_with fail
    exact bodyPost_ret (results_mkt rfl _ _ (w.heap.size + 1) [.int .i64 0, .int .i64 0, .int .i64 0] rfl rfl (blk_range KF.out)) rfl ⟨by rw [HE.out]; rfl, MF.out⟩
  have HE := Lib.hid (show R = .tuple #[.agg #[.int .i64 s, .int .i64 (a - aheadOf l a), .int .i64 (t - aheadOf l t)], .int .i64 0] by rw [HR.out]; unfold dropV; rw [hmk, hok]; rfl)
  have hmk' : ((0 ≤ a ∧ a ≤ 20000) ∧ (0 ≤ t ∧ t ≤ 20000)) := by
    simp [markOk, inB] at hmk; omega
  have HL := Lib.hid (fun p => aheadOf_le l p (fun x hx => by have := spansFrom_ok l (-1) hok x hx; omega))
  have hN := H2.out.n
  have HOK := Lib.hid hok
  have K02 := Lib.hid k0
  have K12 := Lib.hid k1
  clear k0 k1 m2 hmk hok
  go_wp2_with fail
  refine (places_any s a t _).mono ?_
  rintro e w3 ⟨rfl, m3⟩
  go_wp2_with fail
  have hP := Lib.hid (M2.out.trans m3)
  obtain ⟨P, hPe⟩ : ∃ P, P = w3.heap.size := ⟨_, rfl⟩
  have kP : Blk (w3.alloc (.cells #[.int .i64 a, .int .i64 t] 24)) P [.int .i64 a, .int .i64 t] 24 := by rw [hPe]; exact Blk.new
  have mP := Lib.hid (m3.alloc (.cells #[.int .i64 a, .int .i64 t] 24))
  have MP := Lib.hid (M2.out.trans mP.out)
  have hPw : w.heap.size + 2 ≤ P := by have := K12.out.lt; have := m3.size; omega
  rw [← hPe]
  clear hPe m3
  generalize w3.alloc (.cells #[.int .i64 a, .int .i64 t] 24) = wP at kP mP MP ⊢
  have KP0 := Lib.hid (K02.out.mod mP.out (fun e => e))
  have KP1 := Lib.hid (K12.out.mod mP.out (fun e => e))
  clear c0 c1 c2 d0 d1 d2 h0 h1 h2
  go_loopg [19] 2 (fun g s19 wx => ∃ k : Nat, g = 2 - k ∧ s19 = .int .i64 k ∧ k ≤ 2 ∧ Mod (one P) wP wx ∧ Blk wx P (twoAt k a t (a - aheadOf l a) (t - aheadOf l t)) 24)
  case atStart => exact ⟨0, rfl, rfl, by omega, Mod.refl _ _, kP⟩
  case round =>
    obtain ⟨k, rfl, rfl, hk, mx, kx⟩ := hrel
    match k, hk, kx with
    | 0, _, kx =>
      have kx0 : Blk wr P [.int .i64 a, .int .i64 t] 24 := kx
      have q0 : wr.cell? ⟨P, 0, none⟩ = some (.int .i64 a) := by rw [kx0.cell]; rfl
      have q1 : wr.cell? ⟨P, 1, none⟩ = some (.int .i64 t) := by rw [kx0.cell]; rfl
      have r0 := kx0.frozen 0
      have r1 := kx0.frozen 1
      have KX := Lib.hid kx0
      have MX := Lib.hid mx
      have MW := Lib.hid (MP.out.transIn mx (fun b hb e => by have e' : b = P := e; omega))
      have hA := HL.out a
      clear kx kx0 mx
      go_upto_region 7 with fail
      go_region_law ((try go_simp); go_at_call 67; refine (ahead_any _ sa len cap l a (by exact HW.out.grown (Mod.drew MW.out)) hlen (by omega)).mono ?_; rintro e w4 ⟨rfl, m4⟩; rw [if_pos HOK.out]; have q2 := m4.cell (p := ⟨P, 0, none⟩) (fun e => e) q0; have q3 := m4.cell (p := ⟨P, 1, none⟩) (fun e => e) q1; have KX4 := Lib.hid (KX.out.drew.mod m4 (fun e => e)); have r2 := KX4.out.frozen 0; have r3 := KX4.out.frozen 1; have MX4 := Lib.hid ((Mod.drew MX.out).trans (m4.mono (fun _ _ e => e.elim))); clear m4)
      all_goals go_wp2_with fail
      all_goals go_roundg 1
      all_goals first
        | omega
        | exact ⟨1, rfl, by go_num, by omega, by exact (MX4.out.setCell ⟨P, 0, none⟩ (fun _ => rfl) _), by exact (KX4.out.set 0 (.int .i64 (a - aheadOf l a)))⟩
    | 1, _, kx =>
      have kx0 : Blk wr P [.int .i64 (a - aheadOf l a), .int .i64 t] 24 := kx
      have q0 : wr.cell? ⟨P, 0, none⟩ = some (.int .i64 (a - aheadOf l a)) := by rw [kx0.cell]; rfl
      have q1 : wr.cell? ⟨P, 1, none⟩ = some (.int .i64 t) := by rw [kx0.cell]; rfl
      have r0 := kx0.frozen 0
      have r1 := kx0.frozen 1
      have KX := Lib.hid kx0
      have MX := Lib.hid mx
      have MW := Lib.hid (MP.out.transIn mx (fun b hb e => by have e' : b = P := e; omega))
      have hA := HL.out t
      clear kx kx0 mx
      go_upto_region 7 with fail
      go_region_law ((try go_simp); go_at_call 67; refine (ahead_any _ sa len cap l t (by exact HW.out.grown (Mod.drew MW.out)) hlen (by omega)).mono ?_; rintro e w4 ⟨rfl, m4⟩; rw [if_pos HOK.out]; have q2 := m4.cell (p := ⟨P, 0, none⟩) (fun e => e) q0; have q3 := m4.cell (p := ⟨P, 1, none⟩) (fun e => e) q1; have KX4 := Lib.hid (KX.out.drew.mod m4 (fun e => e)); have r2 := KX4.out.frozen 0; have r3 := KX4.out.frozen 1; have MX4 := Lib.hid ((Mod.drew MX.out).trans (m4.mono (fun _ _ e => e.elim))); clear m4)
      all_goals go_wp2_with fail
      all_goals go_roundg 0
      all_goals first
        | omega
        | exact ⟨2, rfl, by go_num, by omega, by exact (MX4.out.setCell ⟨P, 1, none⟩ (fun _ => rfl) _), by exact (KX4.out.set 1 (.int .i64 (t - aheadOf l t)))⟩
    | 2, _, kx =>
      have kx0 : Blk wr P [.int .i64 (a - aheadOf l a), .int .i64 (t - aheadOf l t)] 24 := kx
      have kA := KP0.out.mod mx (fun e => by have e' : w.heap.size = P := e; omega)
      have kB := KP1.out.mod mx (fun e => by have e' : w.heap.size + 1 = P := e; omega)
      have MW := Lib.hid (MP.out.transIn mx (fun b hb e => by have e' : b = P := e; omega))
      have c0 : wr.cell? ⟨w.heap.size, 0, none⟩ = some (.int .i64 s) := by rw [kA.cell]; rfl
      have c1 : wr.cell? ⟨w.heap.size, 1, none⟩ = some (.int .i64 a) := by rw [kA.cell]; rfl
      have c2 : wr.cell? ⟨w.heap.size, 2, none⟩ = some (.int .i64 t) := by rw [kA.cell]; rfl
      have q0 : wr.cell? ⟨P, 0, none⟩ = some (.int .i64 (a - aheadOf l a)) := by rw [kx0.cell]; rfl
      have q1 : wr.cell? ⟨P, 1, none⟩ = some (.int .i64 (t - aheadOf l t)) := by rw [kx0.cell]; rfl
      have KB := Lib.hid kB
      clear kA kB kx kx0 mx kP
      go_wp2_with fail
      refine (at_any s a t (a - aheadOf l a) (t - aheadOf l t) _).mono ?_
      rintro e w5 ⟨rfl, m5⟩
      have k1 := KB.out.mod m5 (fun e => e)
      have M5 := Lib.hid (MW.out.trans m5)
      have d0 : w5.cell? ⟨w.heap.size + 1, 0, none⟩ = some (.int .i64 0) := by rw [k1.cell]; rfl
      have d1 : w5.cell? ⟨w.heap.size + 1, 1, none⟩ = some (.int .i64 0) := by rw [k1.cell]; rfl
      have d2 : w5.cell? ⟨w.heap.size + 1, 2, none⟩ = some (.int .i64 0) := by rw [k1.cell]; rfl
      have h0 := k1.frozen 0
      have h1 := k1.frozen 1
      have h2 := k1.frozen 2
      have KF := Lib.hid (((k1.set 0 (.int .i64 s)).set 1 (.int .i64 (a - aheadOf l a))).set 2 (.int .i64 (t - aheadOf l t)))
      have MF := Lib.hid (((M5.out.setCell ⟨w.heap.size + 1, 0, none⟩ (fun h => absurd h (by simp)) (.int .i64 s)).setCell ⟨w.heap.size + 1, 1, none⟩ (fun h => absurd h (by simp)) (.int .i64 (a - aheadOf l a))).setCell ⟨w.heap.size + 1, 2, none⟩ (fun h => absurd h (by simp)) (.int .i64 (t - aheadOf l t)))
      clear k1 m5
      go_wp2_with fail
      exact bodyPost_ret (results_mkt rfl _ _ (w.heap.size + 1) [.int .i64 s, .int .i64 (a - aheadOf l a), .int .i64 (t - aheadOf l t)] rfl rfl (blk_range KF.out)) rfl ⟨by rw [HE.out]; rfl, MF.out⟩

end Go.Proofs.YtlbkalbelefhmaaDoor

namespace Go.Proofs.YtlbkalbelefhmaaDoor
open Go.RowKit Go.Mine

/-- Where a place is behind an operation. -/
def movP (o : OpV) (p : Int) (stays : Bool) : Int := if o.kind = 1 then pointOf p o.at_ (addsOf o) stays else p

set_option maxHeartbeats 4000000 in
set_option maxRecDepth 1000000 in
theorem ipointDel_any (o : OpV) (p size : Int) (stays : Bool) (w : World) (l : List (Int × Int)) (h : o.ok w l) (h1 : inB size 0 20000 = true) (h4 : opMay o l size = true) (hk : ¬ o.kind = 1) (hp : 0 ≤ p ∧ p ≤ size) :
    Calls Tryd.prog 65 #[.int .i64 p, o.v, .int .i64 size, .bool stays] w fun e w' => e = .returned (.tuple #[.int .i64 p, .int .i64 0]) ∧ Mod none_ w w' := by
  obtain ⟨W0, hW0⟩ : ∃ W0, w.alloc (.cells o.cs.toArray 36) = W0 := ⟨_, rfl⟩
  obtain ⟨m0, kB⟩ := opBox1 hW0
  have HM := Lib.hid (may_any o size W0 l (h.grown m0) h1)
  rw [h4] at HM
  have M0 := Lib.hid m0
  have c0 : W0.cell? ⟨w.heap.size, 0, none⟩ = some (.int .i64 o.site) := by rw [kB.cell]; rfl
  have c1 : W0.cell? ⟨w.heap.size, 1, none⟩ = some (.int .i64 o.seq) := by rw [kB.cell]; rfl
  have c2 : W0.cell? ⟨w.heap.size, 2, none⟩ = some (.int .i64 o.num) := by rw [kB.cell]; rfl
  have c3 : W0.cell? ⟨w.heap.size, 3, none⟩ = some (.int .i64 o.kind) := by rw [kB.cell]; rfl
  have c4 : W0.cell? ⟨w.heap.size, 4, none⟩ = some (.int .i64 o.at_) := by rw [kB.cell]; rfl
  have c5 : W0.cell? ⟨w.heap.size, 5, none⟩ = some (.string o.text) := by rw [kB.cell]; rfl
  have c6 : W0.cell? ⟨w.heap.size, 6, none⟩ = some (.slice o.sa o.slen o.scap) := by rw [kB.cell]; rfl
  have KB := Lib.hid kB
  have hk1 : decide (o.kind = 1) = false := by simpa using hk
  have hk2 : (o.kind == 1) = false := by simpa using hk
  have hpd : decide (p < 0) = false := by simp; omega
  have hpd2 : decide (size < p) = false := by simp; omega
  clear h m0 kB hk h1 h4
  go_enter Tryd.func65, Tryd.ntmps65
  go_upto_region 1 with fail
  clear hW0
  go_wp2_with fail
  refine HM.out.mono ?_
  rintro e w1 ⟨rfl, m1⟩
  have k1 := KB.out.mod m1 (fun e => e)
  have M1 := Lib.hid (M0.out.trans m1)
  have d3 : w1.cell? ⟨w.heap.size, 3, none⟩ = some (.int .i64 o.kind) := by rw [k1.cell]; rfl
  clear c0 c1 c2 c3 c4 c5 c6 m1 k1
  go_wp2_with fail
  go_ret2
  exact ⟨rfl, M1.out⟩

theorem ipointA_any (o : OpV) (p size : Int) (stays : Bool) (w : World) (l : List (Int × Int)) (h : o.ok w l) (h1 : inB size 0 20000 = true) (h4 : opMay o l size = true) (hp : 0 ≤ p ∧ p ≤ size) :
    Calls Tryd.prog 65 #[.int .i64 p, o.v, .int .i64 size, .bool stays] w fun e w' => e = .returned (.tuple #[.int .i64 (movP o p stays), .int .i64 0]) ∧ Mod none_ w w' := by
  unfold movP
  by_cases hk : o.kind = 1
  · rw [if_pos hk]
    have h4' := h4
    unfold opMay at h4'
    rw [if_pos hk] at h4'
    simp only [Bool.and_eq_true] at h4'
    exact ipoint_any o p size stays w l h hk h1 h4'.1.1 h4'.1.2 h4'.2 hp
  · rw [if_neg hk]
    exact ipointDel_any o p size stays w l h h1 h4 hk hp

set_option maxHeartbeats 4000000 in
set_option maxRecDepth 1000000 in
theorem move_any (o : OpV) (s a t size : Int) (w : World) (l : List (Int × Int)) (h : o.ok w l) (h1 : inB size 0 20000 = true) (h4 : opMay o l size = true) (hm : markOk s a t size = true) :
    Calls Tryd.prog 34 #[.agg #[.int .i64 s, .int .i64 a, .int .i64 t], o.v, .int .i64 size] w fun e w' => e = .returned (.tuple #[.agg #[.int .i64 s, .int .i64 (movP o a (o.site != s)), .int .i64 (movP o t (o.site != s))], .int .i64 0]) ∧ Mod none_ w w' := by
  obtain ⟨A, hA⟩ : ∃ A, A = movP o a (o.site != s) := ⟨_, rfl⟩
  obtain ⟨T, hT⟩ : ∃ T, T = movP o t (o.site != s) := ⟨_, rfl⟩
  rw [← hA, ← hT]
  have HA := Lib.hid hA
  have HT := Lib.hid hT
  have hab : (0 ≤ a ∧ a ≤ size) ∧ (0 ≤ t ∧ t ≤ size) := by simp [markOk, inB] at hm; omega
  obtain ⟨W0, hW0⟩ : ∃ W0, ((w.alloc (.cells #[.int .i64 s, .int .i64 a, .int .i64 t] 66)).alloc (.cells o.cs.toArray 36)).alloc (.cells #[.int .i64 0, .int .i64 0, .int .i64 0] 66) = W0 := ⟨_, rfl⟩
  have m0 : Mod none_ w W0 := by rw [← hW0]; exact (((Mod.refl none_ w).alloc _).alloc _).alloc _
  have k0 : Blk W0 w.heap.size [.int .i64 s, .int .i64 a, .int .i64 t] 66 := by
    rw [← hW0]
    exact ((Blk.new (w := w) (cs := [.int .i64 s, .int .i64 a, .int .i64 t]) (t := 66)).mod ((Mod.refl none_ _).alloc _) (fun e => e)).mod ((Mod.refl none_ _).alloc _) (fun e => e)
  have k1 : Blk W0 (w.heap.size + 1) o.cs 36 := by
    have := Blk.new (w := w.alloc (.cells #[.int .i64 s, .int .i64 a, .int .i64 t] 66)) (cs := o.cs) (t := 36)
    rw [World.size_alloc] at this
    rw [← hW0]
    exact this.mod ((Mod.refl none_ _).alloc _) (fun e => e)
  have k2 : Blk W0 (w.heap.size + 1 + 1) [.int .i64 0, .int .i64 0, .int .i64 0] 66 := by
    have := Blk.new (w := (w.alloc (.cells #[.int .i64 s, .int .i64 a, .int .i64 t] 66)).alloc (.cells o.cs.toArray 36)) (cs := [.int .i64 0, .int .i64 0, .int .i64 0]) (t := 66)
    rw [World.size_alloc, World.size_alloc] at this
    rw [← hW0]
    exact this
  obtain ⟨X, hX⟩ : ∃ X, X = w.heap.size := ⟨_, rfl⟩
  rw [← hX] at k0 k1 k2
  have HX := Lib.hid hX
  have M0 := Lib.hid m0
  have K0 := Lib.hid k0
  have K1 := Lib.hid k1
  have K2 := Lib.hid k2
  have HO := Lib.hid h
  have H0 := Lib.hid h
  have a0 := k0.cell 0
  have a1 := k0.cell 1
  have a2 := k0.cell 2
  have d0 := k1.cell 0
  have d1 := k1.cell 1
  have d2 := k1.cell 2
  have d3 := k1.cell 3
  have d4 := k1.cell 4
  have d5 := k1.cell 5
  have d6 := k1.cell 6
  simp only [OpV.cs, List.getElem?_cons_zero, List.getElem?_cons_succ] at a0 a1 a2 d0 d1 d2 d3 d4 d5 d6
  have HM := Lib.hid (cmay_any s a t size)
  rw [hm] at HM
  have HQ1 := Lib.hid h1
  have HQ4 := Lib.hid h4
  clear hA hT m0 k0 k1 k2 hm h h1 h4 HO
  go_enter Tryd.func34, Tryd.ntmps34
  go_upto_region 1 with fail
  clear hW0
  rw [← hX]
  clear hX
  go_wp2_with fail
  refine (HM.out _).mono ?_
  rintro e w1 ⟨rfl, m1⟩
  have k1 := K1.out.mod m1 (fun e => e)
  have M1 := Lib.hid (M0.out.trans m1)
  clear d0 d1 d2 d3 d4 d5 d6 a0 a1 a2
  have d0 := k1.cell 0
  have d1 := k1.cell 1
  have d2 := k1.cell 2
  have d3 := k1.cell 3
  have d4 := k1.cell 4
  have d5 := k1.cell 5
  have d6 := k1.cell 6
  simp only [OpV.cs, List.getElem?_cons_zero, List.getElem?_cons_succ] at d0 d1 d2 d3 d4 d5 d6
  have HI := Lib.hid (may_any o size w1 l (H0.out.grown M1.out) HQ1.out)
  rw [HQ4.out] at HI
  have K01 := Lib.hid (K0.out.mod m1 (fun e => e))
  have K11 := Lib.hid k1
  have K21 := Lib.hid (K2.out.mod m1 (fun e => e))
  clear m1 k1
  go_wp2_with fail
  refine HI.out.mono ?_
  rintro e w2 ⟨rfl, m2⟩
  have k0 := K01.out.mod m2 (fun e => e)
  have M2 := Lib.hid (M1.out.trans m2)
  have K12 := Lib.hid (K11.out.mod m2 (fun e => e))
  have K22 := Lib.hid (K21.out.mod m2 (fun e => e))
  have a0 := k0.cell 0
  have a1 := k0.cell 1
  have a2 := k0.cell 2
  simp only [List.getElem?_cons_zero, List.getElem?_cons_succ] at a0 a1 a2
  have K02 := Lib.hid k0
  clear d0 d1 d2 d3 d4 d5 d6 m2 k0
  go_wp2_with fail
  refine (places_any s a t _).mono ?_
  rintro e w3 ⟨rfl, m3⟩
  go_wp2_with fail
  obtain ⟨P, hPe⟩ : ∃ P, P = w3.heap.size := ⟨_, rfl⟩
  have kP : Blk (w3.alloc (.cells #[.int .i64 a, .int .i64 t] 24)) P [.int .i64 a, .int .i64 t] 24 := by rw [hPe]; exact Blk.new
  have mP := Lib.hid (m3.alloc (.cells #[.int .i64 a, .int .i64 t] 24))
  have MP := Lib.hid (M2.out.trans mP.out)
  have hPw : X + 2 < P := by have := K22.out.lt; have := m3.size; omega
  rw [← hPe]
  clear hPe m3
  generalize w3.alloc (.cells #[.int .i64 a, .int .i64 t] 24) = wP at kP mP MP ⊢
  have KP0 := Lib.hid (K02.out.mod mP.out (fun e => e))
  have KP1 := Lib.hid (K12.out.mod mP.out (fun e => e))
  have KP2 := Lib.hid (K22.out.mod mP.out (fun e => e))
  clear a0 a1 a2
  go_loopg [25] 2 (fun g s25 wx => ∃ k : Nat, g = 2 - k ∧ s25 = .int .i64 k ∧ k ≤ 2 ∧ Mod (one P) wP wx ∧ Blk wx P (twoAt k a t A T) 24)
  case atStart => exact ⟨0, rfl, rfl, by omega, Mod.refl _ _, kP⟩
  case round =>
    obtain ⟨k, rfl, rfl, hk2, mx, kx⟩ := hrel
    match k, hk2, kx with
    | 0, _, kx =>
      have kx0 : Blk wr P [.int .i64 a, .int .i64 t] 24 := kx
      have kA := KP0.out.mod mx (fun e => by have e' : X = P := e; omega)
      have kB := KP1.out.mod mx (fun e => by have e' : X + 1 = P := e; omega)
      have MW := Lib.hid (MP.out.transIn mx (fun b hb e => by have e' : b = P := e; have := HX.out; omega))
      have KX := Lib.hid kx0
      have MX := Lib.hid mx
      have q0 := kx0.cell 0
      have a0 := kA.cell 0
      have d0 := kB.cell 0
      have d1 := kB.cell 1
      have d2 := kB.cell 2
      have d3 := kB.cell 3
      have d4 := kB.cell 4
      have d5 := kB.cell 5
      have d6 := kB.cell 6
      simp only [OpV.cs, List.getElem?_cons_zero, List.getElem?_cons_succ] at q0 a0 d0 d1 d2 d3 d4 d5 d6
      have hH := H0.out.grown MW.out
      clear kx kx0 kA kB mx
      go_upto_region 7 with fail
      go_region_held3 (fun w' => Mod none_ wr w' ∧ w'.cell? ⟨P, 0, none⟩ = some (.int .i64 a) ∧ w'.cell? ⟨X, 0, none⟩ = some (.int .i64 s) ∧ w'.cell? ⟨X + 1, 0, none⟩ = some (.int .i64 o.site) ∧ w'.cell? ⟨X + 1, 1, none⟩ = some (.int .i64 o.seq) ∧ w'.cell? ⟨X + 1, 2, none⟩ = some (.int .i64 o.num) ∧ w'.cell? ⟨X + 1, 3, none⟩ = some (.int .i64 o.kind) ∧ w'.cell? ⟨X + 1, 4, none⟩ = some (.int .i64 o.at_) ∧ w'.cell? ⟨X + 1, 5, none⟩ = some (.string o.text) ∧ w'.cell? ⟨X + 1, 6, none⟩ = some (.slice o.sa o.slen o.scap))
        (first
          | exact ⟨Mod.drew (Mod.refl none_ wr), q0, a0, d0, d1, d2, d3, d4, d5, d6⟩
          | assumption
          | (obtain ⟨q, qa, qb, q0, q1, q2, q3, q4, q5, q6⟩ := ‹Mod none_ wr _ ∧ _›; exact ⟨q.trans m1, m1.cell (fun e => e) qa, m1.cell (fun e => e) qb, m1.cell (fun e => e) q0, m1.cell (fun e => e) q1, m1.cell (fun e => e) q2, m1.cell (fun e => e) q3, m1.cell (fun e => e) q4, m1.cell (fun e => e) q5, m1.cell (fun e => e) q6⟩))
        (first
          | (go_at_call 65; refine (ipointA_any o a size _ _ _ (hH.grown (And.left (by assumption))) HQ1.out HQ4.out (by omega)).mono ?_; rintro e w4 ⟨rfl, m1⟩))
      rename_i hHeld
      have M4 := And.left hHeld
      have k4 := KX.out.mod M4 (fun e => e)
      have x0 := k4.cell 0
      have x1 := k4.cell 1
      simp only [List.getElem?_cons_zero, List.getElem?_cons_succ] at x0 x1
      have r0 := k4.frozen 0
      have r1 := k4.frozen 1
      have K4 := Lib.hid k4
      have M5 := Lib.hid (MX.out.trans (M4.mono (T := one P) (fun _ _ e => e.elim)))
      clear hHeld M4 k4 m1
      rw [← HA.out]
      go_wp2_with fail
      go_roundg 1
      all_goals first
        | omega
        | exact ⟨1, rfl, by go_num, by omega, M5.out.setCell ⟨P, 0, none⟩ (fun _ => rfl) _, K4.out.set 0 (.int .i64 A)⟩
    | 1, _, kx =>
      have kx0 : Blk wr P [.int .i64 A, .int .i64 t] 24 := kx
      have kA := KP0.out.mod mx (fun e => by have e' : X = P := e; omega)
      have kB := KP1.out.mod mx (fun e => by have e' : X + 1 = P := e; omega)
      have MW := Lib.hid (MP.out.transIn mx (fun b hb e => by have e' : b = P := e; have := HX.out; omega))
      have KX := Lib.hid kx0
      have MX := Lib.hid mx
      have q0 := kx0.cell 1
      have a0 := kA.cell 0
      have d0 := kB.cell 0
      have d1 := kB.cell 1
      have d2 := kB.cell 2
      have d3 := kB.cell 3
      have d4 := kB.cell 4
      have d5 := kB.cell 5
      have d6 := kB.cell 6
      simp only [OpV.cs, List.getElem?_cons_zero, List.getElem?_cons_succ] at q0 a0 d0 d1 d2 d3 d4 d5 d6
      have hH := H0.out.grown MW.out
      clear kx kx0 kA kB mx
      go_upto_region 7 with fail
      go_region_held3 (fun w' => Mod none_ wr w' ∧ w'.cell? ⟨P, 1, none⟩ = some (.int .i64 t) ∧ w'.cell? ⟨X, 0, none⟩ = some (.int .i64 s) ∧ w'.cell? ⟨X + 1, 0, none⟩ = some (.int .i64 o.site) ∧ w'.cell? ⟨X + 1, 1, none⟩ = some (.int .i64 o.seq) ∧ w'.cell? ⟨X + 1, 2, none⟩ = some (.int .i64 o.num) ∧ w'.cell? ⟨X + 1, 3, none⟩ = some (.int .i64 o.kind) ∧ w'.cell? ⟨X + 1, 4, none⟩ = some (.int .i64 o.at_) ∧ w'.cell? ⟨X + 1, 5, none⟩ = some (.string o.text) ∧ w'.cell? ⟨X + 1, 6, none⟩ = some (.slice o.sa o.slen o.scap))
        (first
          | exact ⟨Mod.drew (Mod.refl none_ wr), q0, a0, d0, d1, d2, d3, d4, d5, d6⟩
          | assumption
          | (obtain ⟨q, qa, qb, q0, q1, q2, q3, q4, q5, q6⟩ := ‹Mod none_ wr _ ∧ _›; exact ⟨q.trans m1, m1.cell (fun e => e) qa, m1.cell (fun e => e) qb, m1.cell (fun e => e) q0, m1.cell (fun e => e) q1, m1.cell (fun e => e) q2, m1.cell (fun e => e) q3, m1.cell (fun e => e) q4, m1.cell (fun e => e) q5, m1.cell (fun e => e) q6⟩))
        (first
          | (go_at_call 65; refine (ipointA_any o t size _ _ _ (hH.grown (And.left (by assumption))) HQ1.out HQ4.out (by omega)).mono ?_; rintro e w4 ⟨rfl, m1⟩))
      rename_i hHeld
      have M4 := And.left hHeld
      have k4 := KX.out.mod M4 (fun e => e)
      have x0 := k4.cell 0
      have x1 := k4.cell 1
      simp only [List.getElem?_cons_zero, List.getElem?_cons_succ] at x0 x1
      have r0 := k4.frozen 0
      have r1 := k4.frozen 1
      have K4 := Lib.hid k4
      have M5 := Lib.hid (MX.out.trans (M4.mono (T := one P) (fun _ _ e => e.elim)))
      clear hHeld M4 k4 m1
      rw [← HT.out]
      go_wp2_with fail
      go_roundg 0
      all_goals first
        | omega
        | exact ⟨2, rfl, by go_num, by omega, M5.out.setCell ⟨P, 1, none⟩ (fun _ => rfl) _, K4.out.set 1 (.int .i64 T)⟩
    | 2, _, kx =>
      have kx0 : Blk wr P [.int .i64 A, .int .i64 T] 24 := kx
      have kA := KP0.out.mod mx (fun e => by have e' : X = P := e; omega)
      have kB := KP2.out.mod mx (fun e => by have e' : X + 1 + 1 = P := e; omega)
      have MW := Lib.hid (MP.out.transIn mx (fun b hb e => by have e' : b = P := e; have := HX.out; omega))
      have a0 := kA.cell 0
      have a1 := kA.cell 1
      have a2 := kA.cell 2
      have q0 := kx0.cell 0
      have q1 := kx0.cell 1
      simp only [List.getElem?_cons_zero, List.getElem?_cons_succ] at a0 a1 a2 q0 q1
      have KB := Lib.hid kB
      clear kA kB kx kx0 mx kP
      go_wp2_with fail
      refine (at_any s a t A T _).mono ?_
      rintro e w5 ⟨rfl, m5⟩
      have k1 := KB.out.mod m5 (fun e => e)
      have M5 := Lib.hid (MW.out.trans m5)
      have d0 := k1.cell 0
      have d1 := k1.cell 1
      have d2 := k1.cell 2
      simp only [List.getElem?_cons_zero, List.getElem?_cons_succ] at d0 d1 d2
      have r0 := k1.frozen 0
      have r1 := k1.frozen 1
      have r2 := k1.frozen 2
      have KF := Lib.hid (((k1.set 0 (.int .i64 s)).set 1 (.int .i64 A)).set 2 (.int .i64 T))
      have MF := Lib.hid (((M5.out.setCell ⟨X + 1 + 1, 0, none⟩ (fun h => absurd h (by have := HX.out; simp; omega)) (.int .i64 s)).setCell ⟨X + 1 + 1, 1, none⟩ (fun h => absurd h (by have := HX.out; simp; omega)) (.int .i64 A)).setCell ⟨X + 1 + 1, 2, none⟩ (fun h => absurd h (by have := HX.out; simp; omega)) (.int .i64 T))
      clear k1 m5
      go_wp2_with fail
      exact bodyPost_ret (results_mkt rfl _ _ (X + 1 + 1) [.int .i64 s, .int .i64 A, .int .i64 T] rfl rfl (blk_range KF.out)) rfl ⟨rfl, MF.out⟩

end Go.Proofs.YtlbkalbelefhmaaDoor

namespace Go.Proofs.YtlbkalbelefhmaaDoor
open Go.RowKit Go.Mine

def gapBad (l : List CellV) (i : Int) : Bool := decide (i < 0) || decide ((liveN l : Int) < i)
def gapN (l : List CellV) (i : Int) : Int := if gapBad l i then 0 else if i = liveN l then l.length else gapPos l i.toNat
theorem gapV_bad {l : List CellV} {i : Int} (h : gapBad l i = true) : gapV l i = .tuple #[.int .i64 0, .int .i64 3] := by
  unfold gapV gapBad at *; rw [if_pos (by simpa using h)]
theorem gapV_ok {l : List CellV} {i : Int} (h : gapBad l i = false) : gapV l i = .tuple #[.int .i64 (gapN l i), .int .i64 0] := by
  have h1 : ¬ (i < 0 ∨ (liveN l : Int) < i) := by unfold gapBad at h; simp at h; omega
  unfold gapV gapN
  rw [if_neg h1, h]
  simp only [Bool.false_eq_true, if_false]
  split <;> rfl

/-- What asks answers, asked of Gap. -/
def asksV (l : List CellV) (i j : Int) : Value := if gapBad l i || gapBad l j then .tuple #[.agg #[.int .i64 0, .int .i64 0], .int .i64 3] else .tuple #[.agg #[.int .i64 (gapN l i), .int .i64 (gapN l j)], .int .i64 0]

set_option maxHeartbeats 4000000 in
set_option maxRecDepth 1000000 in
theorem asks_any (w : World) (B D : Nat) (l : List CellV) (i j : Int) (h : DocIs w B D l) (hlen : l.length ≤ 1099511627776) :
    Calls Tryd.prog 61 #[.pointer (some ⟨D, 0, none⟩), .func (.func 14) #[] #[], .agg #[.int .i64 i, .int .i64 j]] w fun e w' => e = .returned (asksV l i j) ∧ Mod none_ w w' := by
  obtain ⟨W0, hW0⟩ : ∃ W0, ((w.alloc (.cells #[.int .i64 i, .int .i64 j] 24)).alloc (.cells #[.int .i64 0, .int .i64 0] 24)).alloc (.cells #[.int .i64 0, .int .i64 0] 24) = W0 := ⟨_, rfl⟩
  have m0 : Mod none_ w W0 := by rw [← hW0]; exact (((Mod.refl none_ w).alloc _).alloc _).alloc _
  have k0 : Blk W0 w.heap.size [.int .i64 i, .int .i64 j] 24 := by
    rw [← hW0]
    exact ((Blk.new (w := w) (cs := [.int .i64 i, .int .i64 j]) (t := 24)).mod ((Mod.refl none_ _).alloc _) (fun e => e)).mod ((Mod.refl none_ _).alloc _) (fun e => e)
  have k1 : Blk W0 (w.heap.size + 1) [.int .i64 0, .int .i64 0] 24 := by
    have := Blk.new (w := w.alloc (.cells #[.int .i64 i, .int .i64 j] 24)) (cs := [.int .i64 0, .int .i64 0]) (t := 24)
    rw [World.size_alloc] at this
    rw [← hW0]
    exact this.mod ((Mod.refl none_ _).alloc _) (fun e => e)
  have k2 : Blk W0 (w.heap.size + 1 + 1) [.int .i64 0, .int .i64 0] 24 := by
    have := Blk.new (w := (w.alloc (.cells #[.int .i64 i, .int .i64 j] 24)).alloc (.cells #[.int .i64 0, .int .i64 0] 24)) (cs := [.int .i64 0, .int .i64 0]) (t := 24)
    rw [World.size_alloc, World.size_alloc] at this
    rw [← hW0]
    exact this
  obtain ⟨X, hX⟩ : ∃ X, X = w.heap.size := ⟨_, rfl⟩
  rw [← hX] at k0 k1 k2
  have M0 := Lib.hid m0
  have K0 := Lib.hid k0
  have K1 := Lib.hid k1
  have K2 := Lib.hid k2
  have HD := Lib.hid h
  obtain ⟨R, hR⟩ : ∃ R, R = asksV l i j := ⟨_, rfl⟩
  rw [← hR]
  have HR := Lib.hid hR
  clear hR h m0 k0 k1 k2
  go_enter Tryd.func61, Tryd.ntmps61
  go_upto_region 2 with fail
  clear hW0
  rw [← hX]
  have HX := Lib.hid hX
  clear hX
  go_wp2_with fail
  go_loopg [12] 2 (fun g s12 wx => ∃ k : Nat, g = 2 - k ∧ s12 = .int .i64 k ∧ k ≤ 2 ∧ Mod (one (X + 1 + 1)) W0 wx ∧ Blk wx (X + 1 + 1) (twoAt k 0 0 (gapN l i) (gapN l j)) 24 ∧ RowKit.Hid ((1 ≤ k → gapBad l i = false) ∧ (2 ≤ k → gapBad l j = false)))
  case atStart => exact ⟨0, rfl, rfl, by omega, Mod.refl _ _, K2.out, Lib.hid ⟨fun h => absurd h (by omega), fun h => absurd h (by omega)⟩⟩
  case round =>
    obtain ⟨k, rfl, rfl, hk, mx, kx, hst⟩ := hrel
    match k, hk, kx, hst with
    | 0, _, kx, hst =>
      have kx0 : Blk wr (X + 1 + 1) [.int .i64 0, .int .i64 0] 24 := kx
      have ka := K0.out.mod mx (fun e => by have e' : X = X + 1 + 1 := e; omega)
      have kb := K1.out.mod mx (fun e => by have e' : X + 1 = X + 1 + 1 := e; omega)
      have c0 : wr.cell? ⟨X, 0, none⟩ = some (.int .i64 i) := by rw [ka.cell]; rfl
      have c1 : wr.cell? ⟨X, 1, none⟩ = some (.int .i64 j) := by rw [ka.cell]; rfl
      have KX := Lib.hid kx0
      have KB := Lib.hid kb
      have MX := Lib.hid mx
      have MW := Lib.hid (M0.out.transIn mx (fun b hb e => by have e' : b = X + 1 + 1 := e; have := HX.out; omega))
      have HG := gap_any wr B D l i (HD.out.grown MW.out) hlen
      cases hb : gapBad l i
      · rw [gapV_ok hb] at HG
        have HG := Lib.hid HG
        have HST := Lib.hid (show (1 ≤ 1 → gapBad l i = false) ∧ (2 ≤ 1 → gapBad l j = false) from ⟨fun _ => hb, fun hh => absurd hh (by omega)⟩)
        clear kx kx0 mx ka kb hst hb
        go_wp2_with fail
        refine HG.out.mono ?_
        rintro e w4 ⟨rfl, m4⟩
        have k4 := KX.out.mod m4 (fun e => e)
        have q0 := k4.cell 0
        have q1 := k4.cell 1
        simp only [List.getElem?_cons_zero, List.getElem?_cons_succ] at q0 q1
        have r0 := k4.frozen 0
        have r1 := k4.frozen 1
        have M4 := Lib.hid (MX.out.trans (m4.mono (T := one (X + 1 + 1)) (fun _ _ e => e.elim)))
        have K4 := Lib.hid k4
        clear m4 k4
        go_wp2_with fail
        go_roundg 1
        all_goals first
          | omega
          | exact ⟨1, rfl, by go_num, by omega, M4.out.setCell ⟨X + 1 + 1, 0, none⟩ (fun _ => rfl) _, K4.out.set 0 (.int .i64 (gapN l i)), HST⟩
      · rw [gapV_bad hb] at HG
        have HG := Lib.hid HG
        have HE := Lib.hid (show R = .tuple #[.agg #[.int .i64 0, .int .i64 0], .int .i64 3] by rw [HR.out]; unfold asksV; rw [hb]; simp)
        clear kx kx0 mx ka kb hst hb
        go_wp2_with fail
        refine HG.out.mono ?_
        rintro e w4 ⟨rfl, m4⟩
        have k4 := KB.out.mod m4 (fun e => e)
        have q0 := k4.cell 0
        have q1 := k4.cell 1
        simp only [List.getElem?_cons_zero, List.getElem?_cons_succ] at q0 q1
        have r0 := k4.frozen 0
        have r1 := k4.frozen 1
        have KF := Lib.hid ((k4.set 0 (.int .i64 0)).set 1 (.int .i64 0))
        have MF := Lib.hid ((((MW.out.trans m4).setCell ⟨X + 1, 0, none⟩ (fun h => absurd h (by have := HX.out; simp; omega)) (.int .i64 0))).setCell ⟨X + 1, 1, none⟩ (fun h => absurd h (by have := HX.out; simp; omega)) (.int .i64 0))
        clear m4 k4
        go_wp2_with fail
        exact bodyPost_ret (results_prt rfl _ _ (X + 1) [.int .i64 0, .int .i64 0] rfl rfl (blk_range KF.out)) rfl ⟨by rw [HE.out]; rfl, MF.out⟩
    | 1, _, kx, hst =>
      have kx0 : Blk wr (X + 1 + 1) [.int .i64 (gapN l i), .int .i64 0] 24 := kx
      have ka := K0.out.mod mx (fun e => by have e' : X = X + 1 + 1 := e; omega)
      have kb := K1.out.mod mx (fun e => by have e' : X + 1 = X + 1 + 1 := e; omega)
      have c0 : wr.cell? ⟨X, 0, none⟩ = some (.int .i64 i) := by rw [ka.cell]; rfl
      have c1 : wr.cell? ⟨X, 1, none⟩ = some (.int .i64 j) := by rw [ka.cell]; rfl
      have KX := Lib.hid kx0
      have KB := Lib.hid kb
      have MX := Lib.hid mx
      have MW := Lib.hid (M0.out.transIn mx (fun b hb e => by have e' : b = X + 1 + 1 := e; have := HX.out; omega))
      have HG := gap_any wr B D l j (HD.out.grown MW.out) hlen
      cases hb : gapBad l j
      · rw [gapV_ok hb] at HG
        have HG := Lib.hid HG
        have HST := Lib.hid (show (1 ≤ 2 → gapBad l i = false) ∧ (2 ≤ 2 → gapBad l j = false) from ⟨fun _ => hst.out.1 (by omega), fun hh => hb⟩)
        clear kx kx0 mx ka kb hst hb
        go_wp2_with fail
        refine HG.out.mono ?_
        rintro e w4 ⟨rfl, m4⟩
        have k4 := KX.out.mod m4 (fun e => e)
        have q0 := k4.cell 0
        have q1 := k4.cell 1
        simp only [List.getElem?_cons_zero, List.getElem?_cons_succ] at q0 q1
        have r0 := k4.frozen 0
        have r1 := k4.frozen 1
        have M4 := Lib.hid (MX.out.trans (m4.mono (T := one (X + 1 + 1)) (fun _ _ e => e.elim)))
        have K4 := Lib.hid k4
        clear m4 k4
        go_wp2_with fail
        go_roundg 0
        all_goals first
          | omega
          | exact ⟨2, rfl, by go_num, by omega, M4.out.setCell ⟨X + 1 + 1, 1, none⟩ (fun _ => rfl) _, K4.out.set 1 (.int .i64 (gapN l j)), HST⟩
      · rw [gapV_bad hb] at HG
        have HG := Lib.hid HG
        have HE := Lib.hid (show R = .tuple #[.agg #[.int .i64 0, .int .i64 0], .int .i64 3] by rw [HR.out]; unfold asksV; rw [hb]; simp)
        clear kx kx0 mx ka kb hst hb
        go_wp2_with fail
        refine HG.out.mono ?_
        rintro e w4 ⟨rfl, m4⟩
        have k4 := KB.out.mod m4 (fun e => e)
        have q0 := k4.cell 0
        have q1 := k4.cell 1
        simp only [List.getElem?_cons_zero, List.getElem?_cons_succ] at q0 q1
        have r0 := k4.frozen 0
        have r1 := k4.frozen 1
        have KF := Lib.hid ((k4.set 0 (.int .i64 0)).set 1 (.int .i64 0))
        have MF := Lib.hid ((((MW.out.trans m4).setCell ⟨X + 1, 0, none⟩ (fun h => absurd h (by have := HX.out; simp; omega)) (.int .i64 0))).setCell ⟨X + 1, 1, none⟩ (fun h => absurd h (by have := HX.out; simp; omega)) (.int .i64 0))
        clear m4 k4
        go_wp2_with fail
        exact bodyPost_ret (results_prt rfl _ _ (X + 1) [.int .i64 0, .int .i64 0] rfl rfl (blk_range KF.out)) rfl ⟨by rw [HE.out]; rfl, MF.out⟩
    | 2, _, kx, hst =>
      have kx0 : Blk wr (X + 1 + 1) [.int .i64 (gapN l i), .int .i64 (gapN l j)] 24 := kx
      have kb := K1.out.mod mx (fun e => by have e' : X + 1 = X + 1 + 1 := e; omega)
      have MW := Lib.hid (M0.out.transIn mx (fun b hb e => by have e' : b = X + 1 + 1 := e; have := HX.out; omega))
      have HE := Lib.hid (show R = .tuple #[.agg #[.int .i64 (gapN l i), .int .i64 (gapN l j)], .int .i64 0] by
        rw [HR.out]; unfold asksV; rw [hst.out.1 (by omega), hst.out.2 (by omega)]; rfl)
      have q0 := kx0.cell 0
      have q1 := kx0.cell 1
      have p0 := kb.cell 0
      have p1 := kb.cell 1
      simp only [List.getElem?_cons_zero, List.getElem?_cons_succ] at q0 q1 p0 p1
      have r0 := kb.frozen 0
      have r1 := kb.frozen 1
      have KF := Lib.hid ((kb.set 0 (.int .i64 (gapN l i))).set 1 (.int .i64 (gapN l j)))
      have MF := Lib.hid ((((MW.out).setCell ⟨X + 1, 0, none⟩ (fun h => absurd h (by have := HX.out; simp; omega)) (.int .i64 (gapN l i)))).setCell ⟨X + 1, 1, none⟩ (fun h => absurd h (by have := HX.out; simp; omega)) (.int .i64 (gapN l j)))
      clear kx kx0 mx kb hst
      go_wp2_with fail
      exact bodyPost_ret (results_prt rfl _ _ (X + 1) [.int .i64 (gapN l i), .int .i64 (gapN l j)] rfl rfl (blk_range KF.out)) rfl ⟨by rw [HE.out]; rfl, MF.out⟩

end Go.Proofs.YtlbkalbelefhmaaDoor

namespace Go.Proofs.YtlbkalbelefhmaaDoor
open Go.RowKit Go.Mine

/-- What Put answers. -/
def putV (l : List CellV) (s i j : Int) : Value := if inB s 1 16 then (if gapBad l i || gapBad l j then .tuple #[.agg #[.int .i64 0, .int .i64 0, .int .i64 0], .int .i64 3] else .tuple #[.agg #[.int .i64 s, .int .i64 (gapN l i), .int .i64 (gapN l j)], .int .i64 0]) else .tuple #[.agg #[.int .i64 0, .int .i64 0, .int .i64 0], .int .i64 1]

set_option maxHeartbeats 4000000 in
set_option maxRecDepth 1000000 in
theorem put_any (w : World) (B D : Nat) (l : List CellV) (s i j : Int) (h : DocIs w B D l) (hlen : l.length ≤ 1099511627776) :
    Calls Tryd.prog 32 #[.pointer (some ⟨D, 0, none⟩), .int .i64 s, .int .i64 i, .int .i64 j] w fun e w' => e = .returned (putV l s i j) ∧ Mod none_ w w' := by
  obtain ⟨W0, hW0⟩ : ∃ W0, w.alloc (.cells #[.int .i64 0, .int .i64 0, .int .i64 0] 66) = W0 := ⟨_, rfl⟩
  have m0 : Mod none_ w W0 := by rw [← hW0]; exact (Mod.refl none_ w).alloc _
  have k0 : Blk W0 w.heap.size [.int .i64 0, .int .i64 0, .int .i64 0] 66 := by
    rw [← hW0]
    exact Blk.new (w := w) (cs := [.int .i64 0, .int .i64 0, .int .i64 0]) (t := 66)
  have c0 := k0.cell 0
  have c1 := k0.cell 1
  have c2 := k0.cell 2
  simp only [List.getElem?_cons_zero, List.getElem?_cons_succ] at c0 c1 c2
  have f0 := k0.frozen 0
  have f1 := k0.frozen 1
  have f2 := k0.frozen 2
  have M0 := Lib.hid m0
  have K0 := Lib.hid k0
  have HD := Lib.hid (h.grown m0)
  obtain ⟨R, hR⟩ : ∃ R, R = putV l s i j := ⟨_, rfl⟩
  rw [← hR]
  have HR := Lib.hid hR
  clear hR h m0 k0
  go_enter Tryd.func32, Tryd.ntmps32
  go_upto_region 1 with fail
  clear hW0
  go_wp2_with fail
  refine (cwithin_any s 1 16 _).mono ?_
  rintro e w1 ⟨rfl, rfl⟩
  cases hs : inB s 1 16
  · have HE := Lib.hid (show R = .tuple #[.agg #[.int .i64 0, .int .i64 0, .int .i64 0], .int .i64 1] by rw [HR.out]; unfold putV; rw [hs]; rfl)
    have KF := Lib.hid (((K0.out.set 0 (.int .i64 0)).set 1 (.int .i64 0)).set 2 (.int .i64 0))
    have MF := Lib.hid (((M0.out.setCell ⟨w.heap.size, 0, none⟩ (fun h => absurd h (by simp)) (.int .i64 0)).setCell ⟨w.heap.size, 1, none⟩ (fun h => absurd h (by simp)) (.int .i64 0)).setCell ⟨w.heap.size, 2, none⟩ (fun h => absurd h (by simp)) (.int .i64 0))
    go_wp2_with fail
    exact bodyPost_ret (results_mkt rfl _ _ w.heap.size [.int .i64 0, .int .i64 0, .int .i64 0] rfl rfl (blk_range KF.out)) rfl ⟨by rw [HE.out]; rfl, MF.out⟩
  have HA := asks_any w1 B D l i j HD.out hlen
  clear c0 c1 c2 f0 f1 f2
  cases hb : gapBad l i || gapBad l j
  · have HE := Lib.hid (show R = .tuple #[.agg #[.int .i64 s, .int .i64 (gapN l i), .int .i64 (gapN l j)], .int .i64 0] by rw [HR.out]; unfold putV; rw [hs, hb]; rfl)
    rw [show asksV l i j = .tuple #[.agg #[.int .i64 (gapN l i), .int .i64 (gapN l j)], .int .i64 0] by unfold asksV; rw [hb]; rfl] at HA
    have HA := Lib.hid HA
    clear hs hb
    go_wp2_with fail
    refine HA.out.mono ?_
    rintro e w2 ⟨rfl, m2⟩
    have kB := Blk.new (w := w2) (cs := [.int .i64 (gapN l i), .int .i64 (gapN l j)]) (t := 24)
    have mB := (Mod.refl none_ w2).alloc (.cells #[.int .i64 (gapN l i), .int .i64 (gapN l j)] 24)
    have MB := Lib.hid ((M0.out.trans m2).trans mB)
    have K2 := Lib.hid ((K0.out.mod m2 (fun e => e)).mod mB (fun e => e))
    clear m2 mB
    go_upto_region 4 with fail
    generalize w2.alloc (.cells #[.int .i64 (gapN l i), .int .i64 (gapN l j)] 24) = w3 at kB MB K2 ⊢
    have q0 := kB.cell 0
    have q1 := kB.cell 1
    simp only [List.getElem?_cons_zero, List.getElem?_cons_succ] at q0 q1
    clear kB
    go_wp2_with fail
    refine (at_any s 0 0 (gapN l i) (gapN l j) _).mono ?_
    rintro e w4 ⟨rfl, m4⟩
    have k4 := K2.out.mod m4 (fun e => e)
    have M4 := Lib.hid (MB.out.trans m4)
    have c0 := k4.cell 0
    have c1 := k4.cell 1
    have c2 := k4.cell 2
    simp only [List.getElem?_cons_zero, List.getElem?_cons_succ] at c0 c1 c2
    have f0 := k4.frozen 0
    have f1 := k4.frozen 1
    have f2 := k4.frozen 2
    have KF := Lib.hid (((k4.set 0 (.int .i64 s)).set 1 (.int .i64 (gapN l i))).set 2 (.int .i64 (gapN l j)))
    have MF := Lib.hid (((M4.out.setCell ⟨w.heap.size, 0, none⟩ (fun h => absurd h (by simp)) (.int .i64 s)).setCell ⟨w.heap.size, 1, none⟩ (fun h => absurd h (by simp)) (.int .i64 (gapN l i))).setCell ⟨w.heap.size, 2, none⟩ (fun h => absurd h (by simp)) (.int .i64 (gapN l j)))
    clear m4 k4
    go_wp2_with fail
    exact bodyPost_ret (results_mkt rfl _ _ w.heap.size [.int .i64 s, .int .i64 (gapN l i), .int .i64 (gapN l j)] rfl rfl (blk_range KF.out)) rfl ⟨by rw [HE.out]; rfl, MF.out⟩
  · have HE := Lib.hid (show R = .tuple #[.agg #[.int .i64 0, .int .i64 0, .int .i64 0], .int .i64 3] by rw [HR.out]; unfold putV; rw [hs, hb]; rfl)
    rw [show asksV l i j = .tuple #[.agg #[.int .i64 0, .int .i64 0], .int .i64 3] by unfold asksV; rw [hb]; rfl] at HA
    have HA := Lib.hid HA
    clear hs hb
    go_wp2_with fail
    refine HA.out.mono ?_
    rintro e w2 ⟨rfl, m2⟩
    have mB := (Mod.refl none_ w2).alloc (.cells #[.int .i64 0, .int .i64 0] 24)
    have MB := Lib.hid ((M0.out.trans m2).trans mB)
    have k4 := (K0.out.mod m2 (fun e => e)).mod mB (fun e => e)
    clear m2 mB
    go_upto_region 4 with fail
    generalize w2.alloc (.cells #[.int .i64 0, .int .i64 0] 24) = w3 at MB k4 ⊢
    have c0 := k4.cell 0
    have c1 := k4.cell 1
    have c2 := k4.cell 2
    simp only [List.getElem?_cons_zero, List.getElem?_cons_succ] at c0 c1 c2
    have f0 := k4.frozen 0
    have f1 := k4.frozen 1
    have f2 := k4.frozen 2
    have KF := Lib.hid (((k4.set 0 (.int .i64 0)).set 1 (.int .i64 0)).set 2 (.int .i64 0))
    have MF := Lib.hid (((MB.out.setCell ⟨w.heap.size, 0, none⟩ (fun h => absurd h (by simp)) (.int .i64 0)).setCell ⟨w.heap.size, 1, none⟩ (fun h => absurd h (by simp)) (.int .i64 0)).setCell ⟨w.heap.size, 2, none⟩ (fun h => absurd h (by simp)) (.int .i64 0))
    clear k4
    go_wp2_with fail
    exact bodyPost_ret (results_mkt rfl _ _ w.heap.size [.int .i64 0, .int .i64 0, .int .i64 0] rfl rfl (blk_range KF.out)) rfl ⟨by rw [HE.out]; rfl, MF.out⟩

end Go.Proofs.YtlbkalbelefhmaaDoor

namespace Go.Proofs.YtlbkalbelefhmaaDoor
open Go.RowKit Go.Shelf Go.Mine Go.Maps
open Classical

/-- Cells that a document may have. -/
structure Cl (l : List CellV) : Prop where
  ids : (l.map CellV.id).Nodup
  ok : ∀ c ∈ l, c.ok
  big : l.length ≤ 20000

theorem ins_runes {o : OpV} {n : Int} (h : insOk o n = true) : ∃ rs, runesOf o.text = some rs ∧ runesD o.text = rs ∧ ulen o.text = rs.length ∧ 1 ≤ rs.length ∧ rs.length ≤ 200 ∧ (rs.length : Int) ≤ 20000 - n ∧ 0 ≤ o.at_ ∧ o.at_ ≤ n ∧ ∀ r ∈ rs, r ≤ 1114111 := by
  simp only [insOk, Bool.and_eq_true, decide_eq_true_eq, inB, textOk] at h
  obtain ⟨⟨⟨h1, h2, h3⟩, h4⟩, h5⟩ := h
  cases hr : runesOf o.text with
  | none => rw [ulen_none hr] at h3; omega
  | some rs =>
    have hu := ulen_some hr
    exact ⟨rs, rfl, by unfold runesD; rw [hr]; rfl, hu, by omega, by omega, by omega, h1.1, h1.2, runes_le _ o.text (Nat.le_refl _) rs hr⟩

theorem markS_ids (sp : List (Int × Int)) (l : List CellV) : (markS sp 0 l).map CellV.id = l.map CellV.id := by
  unfold markS
  apply List.ext_getElem?
  intro i
  rw [List.getElem?_map, List.getElem?_map, markP_get]
  cases l[i]? with
  | none => rfl
  | some c => simp only [Option.map_some]; split <;> rfl

theorem fresh_ids (o : OpV) (rs : List Nat) : ((freshC o rs).map CellV.id).Nodup := by
  unfold List.Nodup
  rw [List.pairwise_iff_getElem]
  intro i j hi hj hij e
  simp [freshC, CellV.id] at e
  omega
theorem fresh_name {o : OpV} {rs : List Nat} {c : CellV} (h : c ∈ freshC o rs) : c.site = o.site ∧ c.seq = o.seq := by
  unfold freshC at h
  rw [List.mem_mapIdx] at h
  obtain ⟨i, hi, rfl⟩ := h
  exact ⟨rfl, rfl⟩

/-- An operation that may be and is carried out: what it is. -/
theorem doE_zero {o : OpV} {sp : List (Int × Int)} {l : List CellV} (h : doE o sp l = 0) : opMay o sp l.length = true ∧ ((¬ o.kind = 1 ∧ doL o sp l = markS sp 0 l) ∨ (o.kind = 1 ∧ insOk o l.length = true ∧ o.name ∉ l.map CellV.name ∧ doL o sp l = l.take o.at_.toNat ++ freshC o (runesD o.text) ++ l.drop o.at_.toNat)) := by
  unfold doE at h
  by_cases hm : opMay o sp l.length = true
  · rw [if_pos hm] at h
    refine ⟨hm, ?_⟩
    unfold doL
    rw [if_pos hm]
    have hm' := hm
    unfold opMay at hm'
    simp only [Bool.and_eq_true] at hm'
    by_cases hk : o.kind = 2
    · rw [if_pos hk]
      exact .inl ⟨by omega, rfl⟩
    · rw [if_neg hk] at h ⊢
      by_cases hn : o.name ∈ l.map CellV.name
      · rw [if_pos hn] at h; omega
      · rw [if_neg hn]
        have h3 := hm'.2
        by_cases hk1 : o.kind = 1
        · rw [if_pos hk1] at h3
          exact .inr ⟨hk1, h3, hn, rfl⟩
        · rw [if_neg hk1, if_neg hk] at h3; cases h3
  · rw [if_neg hm] at h; omega

/-- An operation that is refused leaves the cells. -/
theorem doL_same {o : OpV} {sp : List (Int × Int)} {l : List CellV} (h : ¬ doE o sp l = 0) : doL o sp l = l := by
  unfold doE at h
  unfold doL
  by_cases hm : opMay o sp l.length = true
  · rw [if_pos hm] at h ⊢
    by_cases hk : o.kind = 2
    · rw [if_pos hk] at h; exact absurd rfl h
    · rw [if_neg hk] at h ⊢
      by_cases hn : o.name ∈ l.map CellV.name
      · rw [if_pos hn]
      · rw [if_neg hn] at h; exact absurd rfl h
  · rw [if_neg hm]

theorem Cl.doL {o : OpV} {sp : List (Int × Int)} {l : List CellV} (h : Cl l) (hs : -9223372036854775808 ≤ o.site ∧ o.site ≤ 9223372036854775807) (hq : -9223372036854775808 ≤ o.seq ∧ o.seq ≤ 9223372036854775807) : Cl (doL o sp l) := by
  by_cases he : doE o sp l = 0
  · rcases (doE_zero he).2 with ⟨_, e⟩ | ⟨_, hi, hn, e⟩
    · rw [e]
      exact ⟨by rw [markS_ids]; exact h.ids, fun c hc => markP_ok h.ok c hc, by rw [markS_len]; exact h.big⟩
    · rw [e]
      obtain ⟨rs, hr, hd, hu, h1, h2, h3, h4, h5, h6⟩ := ins_runes hi
      rw [hd]
      refine ⟨?_, ?_, ?_⟩
      · have hp : ((l.take o.at_.toNat ++ freshC o rs ++ l.drop o.at_.toNat).map CellV.id).Perm ((l ++ freshC o rs).map CellV.id) := by
          refine List.Perm.map _ ?_
          conv => rhs; rw [← List.take_append_drop o.at_.toNat l]
          rw [List.append_assoc, List.append_assoc]
          exact (List.perm_append_comm).append_left _
        rw [hp.nodup_iff, List.map_append, List.nodup_append]
        refine ⟨h.ids, fresh_ids o rs, ?_⟩
        intro a ha b hb hab
        subst hab
        obtain ⟨c, hc, rfl⟩ := List.mem_map.1 ha
        obtain ⟨d, hd', e2⟩ := List.mem_map.1 hb
        obtain ⟨e3, e4⟩ := fresh_name hd'
        simp [CellV.id] at e2
        exact hn (List.mem_map.2 ⟨c, hc, by simp [CellV.name, OpV.name, ← e2.1, ← e2.2.1, e3, e4]⟩)
      · intro c hc
        simp only [List.mem_append] at hc
        rcases hc with (hc | hc) | hc
        · exact h.ok c (List.mem_of_mem_take hc)
        · exact freshC_ok o rs hs hq h2 h6 c hc
        · exact h.ok c (List.mem_of_mem_drop hc)
      · simp only [List.length_append, List.length_take, List.length_drop, freshC_len]
        have := h.big
        omega
  · rw [doL_same he]; exact h

/-- A place right behind the cell of a name. -/
def behind (s q f : Int) (l : List CellV) (p : Int) : Prop := ∃ (i : Nat) (c : CellV), l[i]? = some c ∧ c.site = s ∧ c.seq = q ∧ c.off = f ∧ p = (i : Int) + 1
theorem behind.doL {s q f p : Int} {o : OpV} {sp : List (Int × Int)} {l : List CellV} (h : behind s q f l p) (he : doE o sp l = 0) : behind s q f (doL o sp l) (movP o p true) := by
  obtain ⟨i, c, hc, h1, h2, h3, hp⟩ := h
  have hlt := (List.getElem?_eq_some_iff.1 hc).1
  rcases (doE_zero he).2 with ⟨hk, e⟩ | ⟨hk, hi, hn, e⟩
  · rw [e]
    unfold movP
    rw [if_neg hk]
    refine ⟨i, _, by unfold markS; rw [markP_get, hc]; rfl, ?_, ?_, ?_, hp⟩
    all_goals split <;> assumption
  · rw [e]
    obtain ⟨rs, hr, hd, hu, g1, g2, g3, g4, g5, g6⟩ := ins_runes hi
    rw [hd]
    have hadd : addsOf o = rs.length := by unfold addsOf; rw [if_pos hk, hu]; omega
    unfold movP pointOf
    rw [if_pos hk, hadd]
    obtain ⟨at_, hat⟩ : ∃ n : Nat, o.at_ = n := ⟨o.at_.toNat, by omega⟩
    rw [hat] at g5 ⊢
    have hat2 : at_ ≤ l.length := by omega
    simp only [Int.toNat_natCast]
    by_cases hia : at_ ≤ i
    · rw [if_pos (.inl (by omega))]
      refine ⟨i + rs.length, c, ?_, h1, h2, h3, by rw [hp]; omega⟩
      rw [List.append_assoc, List.getElem?_append_right (by rw [List.length_take]; omega), List.length_take, Nat.min_eq_left hat2, List.getElem?_append_right (by rw [freshC_len]; omega), freshC_len, List.getElem?_drop, ← hc]
      congr 1; omega
    · rw [if_neg (by rintro (h | ⟨_, h⟩); omega; cases h)]
      refine ⟨i, c, ?_, h1, h2, h3, hp⟩
      rw [List.append_assoc, List.getElem?_append_left (by rw [List.length_take]; omega), List.getElem?_take, if_pos (by omega)]
      exact hc
theorem movP_zero {o : OpV} {sp : List (Int × Int)} {l : List CellV} (he : doE o sp l = 0) : movP o 0 true = 0 := by
  rcases (doE_zero he).2 with ⟨hk, e⟩ | ⟨hk, hi, hn, e⟩
  · unfold movP; rw [if_neg hk]
  · obtain ⟨rs, hr, hd, hu, g1, g2, g3, g4, g5, g6⟩ := ins_runes hi
    unfold movP pointOf
    rw [if_pos hk, if_neg (by rintro (h | ⟨_, h⟩); omega; cases h)]

theorem gapPos_lt_len : ∀ (l : List CellV) (i : Nat), i < liveN l → gapPos l i < l.length
  | [], i, h => by simp [liveN] at h
  | c :: r, i, h => by
    rw [liveN_cons] at h
    rw [gapPos, List.length_cons]
    cases hg : c.gone
    · rw [hg] at h
      simp only [Bool.false_eq_true, if_false] at h ⊢
      by_cases h0 : i = 0
      · rw [if_pos h0]; omega
      · rw [if_neg h0]
        have := gapPos_lt_len r (i - 1) (by omega)
        omega
    · rw [hg] at h
      simp only [if_true] at h ⊢
      have := gapPos_lt_len r i (by omega)
      omega
theorem gapN_le {l : List CellV} {i : Int} (h : gapBad l i = false) : 0 ≤ gapN l i ∧ gapN l i ≤ l.length := by
  unfold gapN
  rw [if_neg (by simp [h])]
  unfold gapBad at h
  simp at h
  split
  · omega
  · have := gapPos_lt_len l i.toNat (by omega)
    omega
end Go.Proofs.YtlbkalbelefhmaaDoor

namespace Go.Proofs.YtlbkalbelefhmaaDoor
open Go.RowKit Go.Shelf Go.Mine
attribute [local go_sem] Oper.semAt_some

theorem each_any (D : Nat) (w : World) : Calls Tryd.prog 43 #[.pointer (some ⟨D, 0, none⟩)] w fun e w' =>
    e = .returned (.func (.func 71) #[] #[.pointer (some ⟨w.heap.size, 0, none⟩)]) ∧ w' = w.alloc (.cells #[.pointer (some ⟨D, 0, none⟩)] 27) := by
  go_enter Tryd.func43, Tryd.ntmps43
  go_wp2
  go_ret
  exact ⟨rfl, rfl⟩

/-- A cell's place: its number; its block's array, its place there. -/
structure CPos where
  p : Nat
  g : Nat
  i : Nat
def CPos.at_ (bl : List BV) (x : CPos) : Prop := ∃ k b, bl[k]? = some b ∧ (cellsOf (bl.take k)).length + x.i = x.p ∧ x.i < b.c.length ∧ b.v.ownBlock = some x.g
theorem CPos.get {w : World} {D MB : Nat} {v : Value} {bl : List BV} {x : CPos} (h : DocV w D v MB bl) (hx : x.at_ bl) : ∃ c, (cellsOf bl)[x.p]? = some c ∧ ∀ j, j < 5 → w.cell? ⟨x.g, x.i * 5 + j, none⟩ = c.cs[j]? := by
  obtain ⟨k, b, hk, hp, hi, hg⟩ := hx
  have hci : b.c[x.i]? = some b.c[x.i] := List.getElem?_eq_getElem hi
  rcases ownsRow_blk (h.blk b (List.mem_of_getElem? hk)).o with ⟨h1, _⟩ | ⟨g, cap, more, hv, _, hb, _⟩
  · rw [h1] at hg; cases hg
  · rw [hv] at hg
    obtain rfl : g = x.g := Option.some.inj hg
    refine ⟨b.c[x.i], ?_, fun j hj => Blk.elem CellV.len hb x.i j _ hci hj⟩
    rw [cellsOf_step hk, ← hp, List.getElem?_append_right (by omega), Nat.add_sub_cancel_left, List.getElem?_append_left hi, hci]
def CPos.enc (x : CPos) : Array Value := #[.int .i64 (x.p : Int), .pointer (some ⟨x.g, x.i * 5, none⟩)]

set_option maxHeartbeats 4000000 in
set_option maxRecDepth 1000000 in
theorem each1_any (n D MB bs : Nat) (v : Value) (bl : List BV) (hlen : (cellsOf bl).length ≤ 1099511627776) (I : Nat → World → Prop)
    (hIs : ∀ i W, I i W → Blk W bs [.pointer (some ⟨D, 0, none⟩)] 27 ∧ DocV W D v MB bl)
    (l : Nat) (J : Nat → World → Prop) (Jx : Code → Nat → World → Prop) (W : World) (hJI : ∀ s W, J s W → I s W)
    (hY : ∀ st (x : CPos) W1, J st W1 → (x.p = st ∧ x.at_ bl) → YieldAt Fence.wide (n - 1) Tryd.prog l x.enc W1 fun e W' => (e = .returned (.bool true) ∧ J (st + 1) W') ∨ (e = .returned (.bool false) ∧ ∃ c, Jx c (st + 1) W'))
    (h0 : J 0 W) :
    CallsIn Fence.wide n Tryd.prog 71 (#[.func (.yield l) #[] #[]] ++ #[.pointer (some ⟨bs, 0, none⟩)]) W fun e W' => (∃ v, e = .returned v) ∧ (J (cellsOf bl).length W' ∨ (∃ c st, Jx c st W')) := by
  obtain ⟨ks, kd⟩ := hIs _ _ (hJI _ _ h0)
  obtain ⟨va, vc, rfl, hvc, hvm⟩ := kd.form
  unfold maxLen at hvm
  have c0 : W.cell? ⟨bs, 0, none⟩ = some (.pointer (some ⟨D, 0, none⟩)) := by rw [ks.cell]; rfl
  have cd : W.cell? ⟨D, 0, none⟩ = some (.slice va bl.length vc) := kd.doc.cell 0
  clear ks kd
  refine callsIn_of_wp Tryd.func71 rfl trivial ?_ rfl
  simp only [Tryd.ntmps71, List.size_toArray, List.length_cons, List.length_nil, Nat.reduceAdd, Nat.reduceSub, Array.replicate_succ, Array.replicate_zero, List.push_toArray, List.append_toArray, List.nil_append, List.cons_append]
  gi_wp2
  gi_loopw [3, 5, 6, 14] (fun s3 s5 s6 s14 wr => ∃ k : Nat, s14 = .int .i64 k ∧ s3 = .int .i64 ((cellsOf (bl.take k)).length : Int) ∧ k ≤ bl.length ∧ J (cellsOf (bl.take k)).length wr) (fun s3 s5 s6 s14 wr => bl.length - (intOf s14).toNat)
  case atStart => exact ⟨0, rfl, rfl, Nat.zero_le _, h0⟩
  case round =>
    obtain ⟨k, rfl, rfl, hk, hJ0⟩ := hrel
    by_cases hlt : k < bl.length
    · obtain ⟨x, hx⟩ : ∃ x, bl[k]? = some x := ⟨_, List.getElem?_eq_getElem hlt⟩
      have hdx := (hIs _ _ (hJI _ _ hJ0)).2
      obtain ⟨g, rfl, ck⟩ := hdx.at_ hx
      have hbx := hdx.blk x (List.mem_of_getElem? hx)
      have b2 : wr.cell? ⟨x.p, 2, none⟩ = some x.v := by rw [hbx.b.cell]; rfl
      have hs1 := cellsOf_step hx
      have hs2 := cellsOf_succ hx
      have e1 : (cellsOf bl).length = (cellsOf (bl.take k)).length + (x.c.length + (cellsOf (bl.drop (k + 1))).length) := by rw [hs1]; simp
      have e2 : (cellsOf (bl.take (k + 1))).length = (cellsOf (bl.take k)).length + x.c.length := by rw [hs2]; simp
      obtain ⟨ax, cx, hv, hcx, hcm, hax⟩ : ∃ ax cx, x.v = .slice ax x.c.length cx ∧ x.c.length ≤ cx ∧ cx ≤ maxLen ∧ (0 < x.c.length → ∃ gx, ax = some ⟨gx, 0, none⟩) := by
        rcases ownsRow_blk hbx.o with ⟨h1, h2, _⟩ | ⟨gx, cx, _, h1, _, _, h2, h3, _⟩
        · exact ⟨none, 0, by rw [h1, h2], by omega, Nat.zero_le _, fun h => by omega⟩
        · exact ⟨_, cx, h1, h2, h3, fun _ => ⟨gx, rfl⟩⟩
      unfold maxLen at hcm
      rw [hv] at b2
      obtain ⟨P0, hP0⟩ : ∃ P0, P0 = (cellsOf (bl.take k)).length := ⟨_, rfl⟩
      obtain ⟨m, hm⟩ : ∃ m, m = x.c.length := ⟨_, rfl⟩
      rw [← hP0] at hJ0 e1 e2 ⊢
      rw [← hm] at b2 e1 e2 hcx hax
      have HV := Lib.hid hv
      have HX := Lib.hid hx
      have HP0 := Lib.hid hP0
      have HM := Lib.hid hm
      have hb1 : P0 + m ≤ 1099511627776 := by omega
      have E2 := Lib.hid e2
      clear hdx hbx hs1 hs2 e1 e2 hv hx hP0 hm
      gi_wp2_with fail
      gi_loopw [3, 6, 23] (fun s3 s6 s23 wx => ∃ i : Nat, s23 = .int .i64 i ∧ s3 = .int .i64 ((P0 + i : Nat) : Int) ∧ i ≤ m ∧ J (P0 + i) wx) (fun s3 s6 s23 wx => m - (intOf s23).toNat)
      case atStart => exact ⟨0, rfl, rfl, Nat.zero_le _, hJ0⟩
      case round =>
        obtain ⟨i, rfl, rfl, hi, hJ1⟩ := hrel
        by_cases hil : i < m
        · obtain ⟨gx, rfl⟩ := hax (by omega)
          have hd1 := (hIs _ _ (hJI _ _ hJ1)).2
          have c2 : wr.cell? ⟨x.p, 2, none⟩ = some (.slice (some ⟨gx, 0, none⟩) m cx) := by
            rw [(hd1.blk x (List.mem_of_getElem? HX.out)).b.cell, HM.out]
            exact congrArg some HV.out
          clear hd1
          obtain ⟨fn, tmps, assign, body, hy, hR⟩ := hY (P0 + i) ⟨P0 + i, gx, i⟩ wr hJ1 ⟨rfl, k, x, HX.out, by rw [HP0.out], by rw [← HM.out]; exact hil, by rw [HV.out]; rfl⟩
          unfold CPos.enc at hy
          dsimp only at hy
          rw [Int.natCast_add] at hy
          have hw : wrap64 ((P0 : Int) + (i : Int) + 1) = (P0 : Int) + (i : Int) + 1 := by unfold wrap64; omega
          gi_wp2_with fail
          refine ⟨fun h => (by cases h), ?_⟩
          refine hR.mono ?_
          rintro e W' (⟨rfl, hj⟩ | ⟨rfl, cc, hj⟩)
          · gi_wp2
            refine ⟨⟨i + 1, by simp, by rw [← Nat.add_assoc, Int.natCast_add, Int.natCast_add]; rfl, by omega, hj⟩, by simp [intOf]; omega⟩
          · gi_wp2
            refine bodyPost_ret (results_none rfl _ _ _) rfl ?_
            exact ⟨⟨_, rfl⟩, .inr ⟨cc, _, hj⟩⟩
        · obtain rfl : i = m := by omega
          gi_wp2_with fail
          rw [← E2.out] at hJ1
          refine ⟨⟨k + 1, by simp, by rw [E2.out], by omega, hJ1⟩, by simp [intOf]; omega⟩
    · obtain rfl : k = bl.length := by omega
      rw [List.take_length] at hJ0
      gi_wp2_with fail
      go_end0
      exact ⟨⟨_, rfl⟩, .inl hJ0⟩
end Go.Proofs.YtlbkalbelefhmaaDoor

namespace Go.Proofs.YtlbkalbelefhmaaDoor
open Go.RowKit Go.Shelf Go.Mine
attribute [local go_sem] Oper.semAt_some

def hitB (s q f : Int) (c : CellV) : Bool := c.site == s && c.seq == q && c.off == f
def findV (s q f : Int) (l : List CellV) : Value := match l.findIdx? (hitB s q f) with
  | some p => .tuple #[.int .i64 (p : Int), .bool true]
  | none => .tuple #[.int .i64 0, .bool false]
def fndI (w : World) (D MB : Nat) (v : Value) (bl : List BV) (s q f : Int) (st : Nat) (W : World) : Prop :=
  Mod none_ w W ∧ DocV W D v MB bl ∧ Blk W w.heap.size [.int .i64 s, .int .i64 q] 33 ∧ Blk W (w.heap.size + 1) [.int .i64 f] 3 ∧ Blk W (w.heap.size + 2) [.int .i64 0] 3 ∧ Blk W (w.heap.size + 3) [.bool false] 4 ∧ Blk W (w.heap.size + 4) [.pointer (some ⟨D, 0, none⟩)] 27 ∧ ∀ c ∈ (cellsOf bl).take st, hitB s q f c = false

set_option maxHeartbeats 4000000 in
set_option maxRecDepth 1000000 in
theorem find_cell (w : World) (D MB : Nat) (v : Value) (bl : List BV) (s q f : Int) (h : DocV w D v MB bl) (hlen : (cellsOf bl).length ≤ 1099511627776) :
    Calls Tryd.prog 30 #[.pointer (some ⟨D, 0, none⟩), .agg #[.int .i64 s, .int .i64 q], .int .i64 f] w fun e w' => e = .returned (findV s q f (cellsOf bl)) ∧ Mod none_ w w' := by
  refine (callsIn_wide (n := 5)).1 ?_
  refine callsIn_of_wp_marks Tryd.func30 rfl trivial ?_ rfl
  simp only [Tryd.ntmps30, List.size_toArray, List.length_cons, List.length_nil, Nat.reduceAdd, Nat.reduceSub, Array.replicate_succ, Array.replicate_zero, List.push_toArray, List.append_toArray, List.nil_append, List.cons_append]
  gi_wp2_with fail
  refine ⟨trivial, ?_⟩
  refine (callsIn_wide.2 (each_any D _)).mono ?_
  rintro e w2 ⟨rfl, rfl⟩
  gi_wp2_with fail
  obtain ⟨W0, hW0⟩ : ∃ W0, (((((w.alloc (.cells #[.int .i64 s, .int .i64 q] 33)).alloc (.cells #[.int .i64 f] 3)).alloc (.cells #[.int .i64 0] 3)).alloc (.cells #[.bool false] 4)).alloc (.cells #[.pointer (some ⟨D, 0, none⟩)] 27)) = W0 := ⟨_, rfl⟩
  have hz : W0.heap.size = w.heap.size + 5 := by rw [← hW0]; simp
  have hI0 : fndI w D MB v bl s q f 0 W0 := by
    rw [← hW0]
    have al := fun (W : World) (o : Obj) => (Mod.refl none_ W).alloc o
    have b0 := Blk.new (w := w) (cs := [.int .i64 s, .int .i64 q]) (t := 33)
    have m0 := al w (.cells #[.int .i64 s, .int .i64 q] 33)
    have z0 : (w.alloc (.cells #[.int .i64 s, .int .i64 q] 33)).heap.size = w.heap.size + 1 := World.size_alloc _ _
    change Blk (w.alloc (.cells #[.int .i64 s, .int .i64 q] 33)) _ _ _ at b0
    generalize w.alloc (.cells #[.int .i64 s, .int .i64 q] 33) = w1 at *
    have b1 := Blk.new (w := w1) (cs := [.int .i64 f]) (t := 3)
    have m1 := al w1 (.cells #[.int .i64 f] 3)
    have z1 : (w1.alloc (.cells #[.int .i64 f] 3)).heap.size = w1.heap.size + 1 := World.size_alloc _ _
    change Blk (w1.alloc (.cells #[.int .i64 f] 3)) _ _ _ at b1
    generalize w1.alloc (.cells #[.int .i64 f] 3) = w2 at *
    have b2 := Blk.new (w := w2) (cs := [.int .i64 0]) (t := 3)
    have m2 := al w2 (.cells #[.int .i64 0] 3)
    have z2 : (w2.alloc (.cells #[.int .i64 0] 3)).heap.size = w2.heap.size + 1 := World.size_alloc _ _
    change Blk (w2.alloc (.cells #[.int .i64 0] 3)) _ _ _ at b2
    generalize w2.alloc (.cells #[.int .i64 0] 3) = w3 at *
    have b3 := Blk.new (w := w3) (cs := [.bool false]) (t := 4)
    have m3 := al w3 (.cells #[.bool false] 4)
    have z3 : (w3.alloc (.cells #[.bool false] 4)).heap.size = w3.heap.size + 1 := World.size_alloc _ _
    change Blk (w3.alloc (.cells #[.bool false] 4)) _ _ _ at b3
    generalize w3.alloc (.cells #[.bool false] 4) = w4 at *
    have b4 := Blk.new (w := w4) (cs := [.pointer (some ⟨D, 0, none⟩)]) (t := 27)
    have m4 := al w4 (.cells #[.pointer (some ⟨D, 0, none⟩)] 27)
    have M := (((m0.trans m1).trans m2).trans m3).trans m4
    have no : ∀ k, ¬ none_ k := fun _ e => e
    refine ⟨M, h.grown M, b0.mod (((m1.trans m2).trans m3).trans m4) (no _), ?_, ?_, ?_, ?_, by simp⟩
    · have := b1.mod ((m2.trans m3).trans m4) (no _)
      rwa [z0] at this
    · have := b2.mod (m3.trans m4) (no _)
      rwa [z1, z0] at this
    · have := b3.mod m4 (no _)
      rwa [z2, z1, z0] at this
    · rwa [z3, z2, z1, z0] at b4
  rw [hW0]
  clear hW0
  refine rangeFunc_law (w := W0) rfl (by decide) (gf := 71) (lb := #[.pointer (some ⟨w.heap.size + 1 + 1 + 1 + 1, 0, none⟩)]) rfl trivial (enters_of Tryd.func71 (by kernel_rfl) rfl)
    CPos.enc (fun _ => rfl) (fndI w D MB v bl s q f) (fun c st W => c = .ret ∧ ∃ p : Nat, (cellsOf bl).findIdx? (hitB s q f) = some p ∧ Mod none_ w W ∧ Blk W (w.heap.size + 2) [.int .i64 (p : Int)] 3 ∧ Blk W (w.heap.size + 3) [.bool true] 4) (fun st _ => st + 1) (fun st x => x.p = st ∧ x.at_ bl) (fun st => st = (cellsOf bl).length) 0 ?hI ?hIx hI0
    (fun x => { tmps := #[.pointer (some ⟨D, 0, none⟩), .agg #[.int .i64 s, .int .i64 q], .int .i64 f, undef, .pointer (some ⟨w.heap.size, 0, none⟩), .pointer (some ⟨w.heap.size + 1, 0, none⟩), .pointer (some ⟨w.heap.size + 1 + 1, 0, none⟩), .pointer (some ⟨w.heap.size + 1 + 1 + 1, 0, none⟩), .int .i64 (x.p : Int), .pointer (some ⟨x.g, x.i * 5, none⟩), .pointer (some ⟨D, 0, none⟩), .func (.func 71) #[] #[.pointer (some ⟨w.heap.size + 1 + 1 + 1 + 1, 0, none⟩)], .int .i64 (x.p : Int), .pointer (some ⟨x.g, x.i * 5, none⟩), undef, undef, undef, undef, undef, undef, undef, undef, undef, undef, undef, undef, undef, undef, undef], defers := [] }) ?hiter ?assign ?body ?done ?stop
  case hI =>
    rintro st W W' ⟨m0, hd, k0, k1, k2, k3, k4, hn⟩ m
    exact ⟨m0.transOwn m (by omega), hd.own m, k0.own m, k1.own m, k2.own m, k3.own m, k4.own m, hn⟩
  case hIx =>
    rintro c st W W' ⟨h1, p, hp, m0, k2, k3⟩ m
    exact ⟨h1, p, hp, m0.transOwn m (by omega), k2.own m, k3.own m⟩
  case hiter =>
    intro l J Jx W hJI hJ hY h0
    refine (each1_any (5 - 1) D MB _ v bl hlen (fndI w D MB v bl s q f) (fun i W h => ⟨h.2.2.2.2.2.2.1, h.2.1⟩) l J Jx W hJI hY h0).mono ?_
    rintro e W' ⟨h1, h2 | h2⟩
    · exact ⟨h1, .inl ⟨_, rfl, h2⟩⟩
    · exact ⟨h1, .inr h2⟩
  case assign =>
    intro l x W K hK
    unfold CPos.enc
    gi_wp2
    exact hK
  case body =>
    rintro l st x W ⟨m0, hd, k0, k1, k2, k3, k4, hn⟩ ⟨rfl, hx⟩
    obtain ⟨c, hc, hcs⟩ := CPos.get hd hx
    have n0 : W.cell? ⟨w.heap.size, 0, none⟩ = some (.int .i64 s) := by rw [k0.cell]; rfl
    have n1 : W.cell? ⟨w.heap.size, 1, none⟩ = some (.int .i64 q) := by rw [k0.cell]; rfl
    have n2 : W.cell? ⟨w.heap.size + 1, 0, none⟩ = some (.int .i64 f) := by rw [k1.cell]; rfl
    have x0 : W.cell? ⟨x.g, x.i * 5, none⟩ = some (.int .i64 c.site) := hcs 0 (by omega)
    have x1 : W.cell? ⟨x.g, x.i * 5 + 1, none⟩ = some (.int .i64 c.seq) := hcs 1 (by omega)
    have x2 : W.cell? ⟨x.g, x.i * 5 + 2, none⟩ = some (.int .i64 c.off) := hcs 2 (by omega)
    have hlt := (List.getElem?_eq_some_iff.1 hc).1
    have hnx : hitB s q f c = false → ∀ c' ∈ (cellsOf bl).take (x.p + 1), hitB s q f c' = false := fun hb c' hm => by
      rw [List.take_succ_eq_append_getElem hlt, List.mem_append] at hm
      rcases hm with hm | hm
      · exact hn c' hm
      · obtain rfl := List.mem_singleton.1 hm
        have := (List.getElem?_eq_some_iff.1 hc).2
        rw [this]; exact hb
    have STAY := Lib.hid (fun (hb : hitB s q f c = false) => (⟨m0.drew, hd.grown (Mod.drew (Mod.refl none_ _)), k0, k1, k2, k3, k4, hnx hb⟩ : fndI w D MB v bl s q f (x.p + 1) W.drew))
    have hfi : hitB s q f c = true → (cellsOf bl).findIdx? (hitB s q f) = some x.p := fun hb => by
      rw [List.findIdx?_eq_some_iff_getElem]
      refine ⟨hlt, ?_, fun j hj => ?_⟩
      · rw [(List.getElem?_eq_some_iff.1 hc).2]; exact hb
      · have := hn ((cellsOf bl)[j]'(by omega)) (List.mem_take_iff_getElem.2 ⟨j, by omega, rfl⟩)
        rw [this]; decide
    have ko : KeepsOthers W W.drew := ⟨Nat.le_refl _, fun _ _ h _ => h⟩
    have KO := Lib.hid ko
    have FND := Lib.hid (fun (hb : hitB s q f c = true) => (by
      have hne : ∀ b k, one b k → k = b := fun _ _ e => e
      have K2' := k2.drew.set 0 (.int .i64 (x.p : Int))
      have M2 := (Mod.refl (one (w.heap.size + 3)) (W.drew.setCell ⟨w.heap.size + 2, 0, none⟩ (.int .i64 (x.p : Int)))).setCell ⟨w.heap.size + 3, 0, none⟩ (fun _ => rfl) (.bool true)
      have M1 := (Mod.refl (one (w.heap.size + 2)) W.drew).setCell ⟨w.heap.size + 2, 0, none⟩ (fun _ => rfl) (.int .i64 (x.p : Int))
      have K3' := (k3.drew.mod M1 (fun e => by have := hne _ _ e; omega)).set 0 (.bool true)
      exact ⟨(ko.trans (KeepsOthers.setCell _ _ _)).trans (KeepsOthers.setCell _ _ _), rfl, x.p, hfi hb, (m0.drew.setCell _ (fun h => absurd h (by simp)) _).setCell _ (fun h => absurd h (by simp)) _, K2'.mod M2 (fun e => by have := hne _ _ e; omega), K3'⟩ : KeepsOthers W ((W.drew.setCell ⟨w.heap.size + 2, 0, none⟩ (.int .i64 (x.p : Int))).setCell ⟨w.heap.size + 3, 0, none⟩ (.bool true)) ∧ Code.ret = .ret ∧ ∃ p : Nat, (cellsOf bl).findIdx? (hitB s q f) = some p ∧ Mod none_ w ((W.drew.setCell ⟨w.heap.size + 2, 0, none⟩ (.int .i64 (x.p : Int))).setCell ⟨w.heap.size + 3, 0, none⟩ (.bool true)) ∧ Blk ((W.drew.setCell ⟨w.heap.size + 2, 0, none⟩ (.int .i64 (x.p : Int))).setCell ⟨w.heap.size + 3, 0, none⟩ (.bool true)) (w.heap.size + 2) [.int .i64 (p : Int)] 3 ∧ Blk ((W.drew.setCell ⟨w.heap.size + 2, 0, none⟩ (.int .i64 (x.p : Int))).setCell ⟨w.heap.size + 3, 0, none⟩ (.bool true)) (w.heap.size + 3) [.bool true] 4))
    have HC := Lib.hid hc
    have c2 : W.cell? ⟨w.heap.size + 1 + 1, 0, none⟩ = some (.int .i64 0) := by rw [k2.cell]; rfl
    have c3 : W.cell? ⟨w.heap.size + 1 + 1 + 1, 0, none⟩ = some (.bool false) := by rw [k3.cell]; rfl
    have f2 := k2.frozen 0
    have f3 := k3.frozen 0
    clear hc hcs hnx hn hd hx k0 k1 k4 k2 k3 hlt m0 hfi ko
    by_cases h1 : c.site = s
    · by_cases h2 : c.seq = q
      · by_cases h3 : c.off = f
        · rw [h1] at x0
          rw [h2] at x1
          rw [h3] at x2
          have HB := Lib.hid (show hitB s q f c = true by unfold hitB; simp [h1, h2, h3])
          clear h1 h2 h3 STAY KO
          gi_wp2_with fail
          gi_region
          all_goals gi_wp2_with fail
          all_goals exact ⟨(FND.out HB.out).1, rfl, (FND.out HB.out).2.2⟩
        · rw [h1] at x0
          rw [h2] at x1
          have hb : (c.off == f) = false := by simp [h3]
          have HB := Lib.hid (show hitB s q f c = false by unfold hitB; simp [h3])
          clear h1 h2 FND f2 f3 c2 c3
          gi_wp2_with fail
          gi_region
          all_goals gi_wp2_with fail
          all_goals exact ⟨KO.out, STAY.out HB.out⟩
      · rw [h1] at x0
        have hb : (c.seq == q) = false := by simp [h2]
        have HB := Lib.hid (show hitB s q f c = false by unfold hitB; simp [h2])
        clear h1 FND f2 f3 c2 c3
        gi_wp2_with fail
        gi_region
        all_goals gi_wp2_with fail
        all_goals exact ⟨KO.out, STAY.out HB.out⟩
    · have hb : (c.site == s) = false := by simp [h1]
      have HB := Lib.hid (show hitB s q f c = false by unfold hitB; simp [h1])
      clear FND f2 f3 c2 c3
      gi_wp2_with fail
      gi_region
      all_goals gi_wp2_with fail
      all_goals exact ⟨KO.out, STAY.out HB.out⟩
  case done =>
    rintro Dd st W rfl ⟨m0, hd, k0, k1, k2, k3, k4, hn⟩ hD hlt
    have hne : ∀ b k, one b k → k = b := fun _ _ e => e
    have hfv : findV s q f (cellsOf bl) = .tuple #[.int .i64 0, .bool false] := by
      unfold findV
      rw [List.findIdx?_eq_none_iff.2 (fun y hy => hn y (by rw [List.take_length]; exact hy))]
    have c2 : W.cell? ⟨w.heap.size + 1 + 1, 0, none⟩ = some (.int .i64 0) := by rw [k2.cell]; rfl
    have c3 : W.cell? ⟨w.heap.size + 1 + 1 + 1, 0, none⟩ = some (.bool false) := by rw [k3.cell]; rfl
    have f2 := k2.frozen 0
    have f3 := k3.frozen 0
    have M1 := (Mod.refl (one (w.heap.size + 2)) W).setCell ⟨w.heap.size + 2, 0, none⟩ (fun _ => rfl) (.int .i64 0)
    have k2' := k2.set 0 (.int .i64 0)
    have M2 := (Mod.refl (one (w.heap.size + 3)) (W.setCell ⟨w.heap.size + 2, 0, none⟩ (.int .i64 0))).setCell ⟨w.heap.size + 3, 0, none⟩ (fun _ => rfl) (.bool false)
    have k3' := (k3.mod M1 (fun e => by have := hne _ _ e; omega)).set 0 (.bool false)
    have k2'' := k2'.mod M2 (fun e => by have := hne _ _ e; omega)
    have hK' := ((KeepsOthers.setCell W ⟨w.heap.size + 2, 0, none⟩ (.int .i64 0)).trans (KeepsOthers.setCell _ ⟨w.heap.size + 3, 0, none⟩ (.bool false))).same Dd _ hD rfl
    have mP := loopOwn_put (B := W0.heap.size) (.deferred none) hlt hK' rfl
    have hc5 := (k2''.own mP).cell 0
    have hc6 := (k3'.own mP).cell 0
    have MF := Lib.hid (((m0.setCell ⟨w.heap.size + 2, 0, none⟩ (fun h => absurd h (by simp)) (.int .i64 0)).setCell ⟨w.heap.size + 3, 0, none⟩ (fun h => absurd h (by simp)) (.bool false)).transOwn mP (by omega))
    simp only [List.set_cons_zero, List.getElem?_cons_zero] at hc5 hc6
    have HF := Lib.hid hfv
    have HK := Lib.hid hK'
    have C5 := Lib.hid hc5
    have C6 := Lib.hid hc6
    clear hn hd k0 k1 k2 k3 k4 k2' k3' k2'' M1 M2 hK' mP m0 hfv hc5 hc6
    gi_wp2_with fail
    refine ⟨by simp, .inl ⟨_, _, rfl, run_takeDeferred HK.out, ?_⟩⟩
    refine ⟨findV s q f (cellsOf bl), ?_, rfl, MF.out⟩
    have hc5 := C5.out
    have hc6 := C6.out
    rw [HF.out]
    simp [results, Tryd.f30, go_sem, hc5, hc6]
  case stop =>
    rintro Dd c st W ⟨rfl, p, hp, m0, k2, k3⟩ hD hlt
    have mP := loopOwn_put (B := W0.heap.size) (.deferred none) hlt hD rfl
    have hfv : findV s q f (cellsOf bl) = .tuple #[.int .i64 (p : Int), .bool true] := by
      unfold findV
      rw [hp]
    have hc5 := (k2.own mP).cell 0
    have hc6 := (k3.own mP).cell 0
    simp only [List.getElem?_cons_zero] at hc5 hc6
    have HF := Lib.hid hfv
    have C5 := Lib.hid hc5
    have C6 := Lib.hid hc6
    have MF := Lib.hid (m0.transOwn mP (by omega))
    clear hp hfv mP hc5 hc6 k2 k3 m0
    gi_wp2_with fail
    refine ⟨by simp, .inl ⟨_, _, rfl, run_takeDeferred hD, ?_⟩⟩
    refine ⟨findV s q f (cellsOf bl), ?_, rfl, MF.out⟩
    have hc5 := C5.out
    have hc6 := C6.out
    rw [HF.out]
    simp [results, Tryd.f30, go_sem, hc5, hc6]
end Go.Proofs.YtlbkalbelefhmaaDoor

namespace Go.Proofs.YtlbkalbelefhmaaDoor
open Go.RowKit Go.Mine

/-- An operation that came in: whatever long its text is. -/
structure OpV.ok0 (o : OpV) (w : World) (l : List (Int × Int)) : Prop where
  sz : o.text.size ≤ maxLen
  sp : IsSpans w o.sa o.slen o.scap l
  ok : o.text.size < 4611686018427387904 → o.ok w l
theorem OpV.ok0.grown {o : OpV} {w w' : World} {l : List (Int × Int)} (h : o.ok0 w l) (m : Mod none_ w w') : o.ok0 w' l := ⟨h.sz, h.sp.grown m, fun hs => (h.ok hs).grown m⟩
/-- An act of a document. -/
structure ActV where
  k : Int
  o : OpV
  sp : List (Int × Int)
/-- Acts in memory. -/
structure IsActs (w : World) (a : Option Addr) (len cap : Nat) (l : List ActV) : Prop where
  n : l.length = len
  le : len ≤ cap
  big : cap ≤ maxLen
  ok : ∀ x ∈ l, x.o.ok0 w x.sp ∧ 0 ≤ x.k ∧ x.k ≤ 255
  acts : ∀ (i : Nat) (x : ActV), l[i]? = some x → ∃ b off, a = some ⟨b, off, none⟩ ∧ w.cell? ⟨b, off + i * 8, none⟩ = some (.int .u8 x.k) ∧ w.rangeAt b (off + i * 8 + 1) x.o.cs
theorem IsActs.grown {w w' : World} {a : Option Addr} {len cap : Nat} {l : List ActV} (h : IsActs w a len cap l) (m : Mod none_ w w') : IsActs w' a len cap l :=
  ⟨h.n, h.le, h.big, fun x hx => ⟨(h.ok x hx).1.grown m, (h.ok x hx).2⟩, fun i c hc => by
    obtain ⟨b, off, e, hk, hr⟩ := h.acts i c hc
    exact ⟨b, off, e, m.cell (fun e => e) hk, fun j v hv => m.cell (fun e => e) (hr j v hv)⟩⟩

def bigOp (o : OpV) : Bool := decide (40 < (o.slen : Int)) || decide (1000 < (o.text.size : Int))
set_option maxHeartbeats 1000000 in
set_option maxRecDepth 1000000 in
theorem great_op (o : OpV) (w : World) (l : List (Int × Int)) (h : o.ok0 w l) :
    Calls Tryd.prog 39 #[o.v] w fun e w' => e = .returned (.bool (bigOp o)) ∧ Mod none_ w w' := by
  have hsz := h.sz
  have hle := h.sp.le
  have hbig := h.sp.big
  unfold maxLen at hbig hsz
  obtain ⟨W0, hW0⟩ : ∃ W0, w.alloc (.cells o.cs.toArray 36) = W0 := ⟨_, rfl⟩
  obtain ⟨m0, kB⟩ := opBox1 hW0
  have M0 := Lib.hid m0
  have c5 : W0.cell? ⟨w.heap.size, 5, none⟩ = some (.string o.text) := by rw [kB.cell]; rfl
  have c6 : W0.cell? ⟨w.heap.size, 6, none⟩ = some (.slice o.sa o.slen o.scap) := by rw [kB.cell]; rfl
  unfold bigOp
  clear h m0 kB
  by_cases h1 : 40 < (o.slen : Int)
  · have hd : decide (40 < (o.slen : Int)) = true := by simpa using h1
    go_enter Tryd.func39, Tryd.ntmps39
    go_upto_region 1 with fail
    clear hW0
    go_wp2_with fail
    go_ret
    exact ⟨by rw [hd]; rfl, M0.out⟩
  · have hd : decide (40 < (o.slen : Int)) = false := by simp; omega
    go_enter Tryd.func39, Tryd.ntmps39
    go_upto_region 1 with fail
    clear hW0
    go_wp2_with fail
    go_ret
    exact ⟨rfl, M0.out⟩

def greatB (n : Nat) (l : List ActV) : Bool := decide (250 < (n : Int)) || decide (25 < (l.length : Int)) || l.any fun x => bigOp x.o
set_option maxHeartbeats 4000000 in
set_option maxRecDepth 1000000 in
theorem great_acts (w : World) (a : Option Addr) (len cap : Nat) (hle : len ≤ cap) (hcap : cap ≤ maxLen) (b : Option Addr) (alen acap : Nat) (l : List ActV) (h : IsActs w b alen acap l) :
    Calls Tryd.prog 10 #[.slice a len cap, .slice b alen acap] w fun e w' => e = .returned (.bool (greatB len l)) ∧ Mod none_ w w' := by
  obtain ⟨R, hR⟩ : ∃ R, R = greatB len l := ⟨_, rfl⟩
  rw [← hR]
  have HR := Lib.hid hR
  have hale := h.le
  have hacap := h.big
  have hn := h.n
  unfold maxLen at hcap hacap
  have H := Lib.hid h
  have HN := Lib.hid hn
  clear h hR hn
  by_cases h1 : 250 < (len : Int)
  · have hd : decide (250 < (len : Int)) = true := by simpa using h1
    go_enter Tryd.func10, Tryd.ntmps10
    go_wp2_with fail
    go_ret
    exact ⟨by rw [HR.out]; unfold greatB; rw [hd]; rfl, Mod.refl _ _⟩
  have hd : decide (250 < (len : Int)) = false := by simp; omega
  by_cases h2 : 25 < (alen : Int)
  · have hd2 : decide (25 < (alen : Int)) = true := by simpa using h2
    go_enter Tryd.func10, Tryd.ntmps10
    go_wp2_with fail
    go_ret
    exact ⟨by rw [HR.out]; unfold greatB; rw [HN.out, hd2]; simp, Mod.refl _ _⟩
  have hd2 : decide (25 < (alen : Int)) = false := by simp; omega
  go_enter Tryd.func10, Tryd.ntmps10
  go_wp2_with fail
  go_loopg [5] alen (fun g s5 wx => ∃ k : Nat, g = alen - k ∧ s5 = .int .i64 k ∧ k ≤ alen ∧ Mod none_ w wx ∧ RowKit.Hid (((l.take k).any fun x => bigOp x.o) = false))
  case atStart => exact ⟨0, rfl, rfl, Nat.zero_le _, Mod.refl _ _, Lib.hid rfl⟩
  case round =>
    obtain ⟨k, rfl, rfl, hk, mx, hst⟩ := hrel
    by_cases hlk : k < alen
    · obtain ⟨x, hx⟩ : ∃ x, l[k]? = some x := ⟨l[k]'(by rw [HN.out]; exact hlk), by simp⟩
      obtain ⟨g, off, rfl, _, hr⟩ := (H.out.grown mx).acts k x hx
      have c0 := hr 0 _ rfl
      have c1 := hr 1 _ rfl
      have c2 := hr 2 _ rfl
      have c3 := hr 3 _ rfl
      have c4 := hr 4 _ rfl
      have c5 := hr 5 _ rfl
      have c6 := hr 6 _ rfl
      rw [Nat.add_zero] at c0
      have HG := Lib.hid (great_op x.o wr x.sp (((H.out.grown mx).ok x (List.mem_of_getElem? hx)).1))
      have MX := Lib.hid mx
      have HS := Lib.hid (fun (hb : bigOp x.o = false) => (show ((l.take (k + 1)).any fun x => bigOp x.o) = false by
        obtain ⟨hi, e⟩ := List.getElem?_eq_some_iff.1 hx
        rw [List.take_succ_eq_append_getElem hi, List.any_append, hst.out, e]
        simp [hb]))
      have HT := Lib.hid (fun (hb : bigOp x.o = true) => (show R = true by
        rw [HR.out]; unfold greatB
        have : (l.any fun x => bigOp x.o) = true := List.any_eq_true.2 ⟨x, List.mem_of_getElem? hx, hb⟩
        rw [this, Bool.or_true]))
      clear hr hx hst mx
      cases hb : bigOp x.o
      · rw [hb] at HG
        go_wp2_with fail
        refine HG.out.mono ?_
        rintro e w1 ⟨rfl, m1⟩
        have M1 := Lib.hid (MX.out.trans m1)
        clear m1
        go_wp2_with fail
        go_roundg (alen - (k + 1))
        all_goals first
          | omega
          | exact ⟨k + 1, rfl, by go_num, by omega, M1.out, Lib.hid (HS.out hb)⟩
      · rw [hb] at HG
        go_wp2_with fail
        refine HG.out.mono ?_
        rintro e w1 ⟨rfl, m1⟩
        have M1 := Lib.hid (MX.out.trans m1)
        clear m1
        go_wp2_with fail
        go_ret
        exact ⟨by rw [HT.out hb]; rfl, M1.out⟩
    · obtain rfl : k = alen := by omega
      have MX := Lib.hid mx
      have hF : R = false := by
        rw [HR.out]; unfold greatB
        have := hst.out
        rw [List.take_of_length_le (by rw [HN.out]; omega)] at this
        rw [hd, HN.out, hd2, this]; rfl
      have HF := Lib.hid hF
      clear hst mx hF
      go_wp2_with fail
      go_ret
      exact ⟨by rw [HF.out]; rfl, MX.out⟩

/-- How many of the first p cells are live. -/
def seenN (l : List CellV) (p : Nat) : Nat := liveN (l.take p)
theorem seenN_succ {l : List CellV} {k : Nat} {c : CellV} (h : l[k]? = some c) : seenN l (k + 1) = seenN l k + if c.gone then 0 else 1 := by
  obtain ⟨hi, e⟩ := List.getElem?_eq_some_iff.1 h
  unfold seenN
  rw [List.take_succ_eq_append_getElem hi, e, liveN_snoc]
theorem seenN_all (l : List CellV) : seenN l l.length = liveN l := by unfold seenN; rw [List.take_length]
set_option maxHeartbeats 1000000 in
set_option maxRecDepth 1000000 in
theorem rseen_any (w : World) (a : Option Addr) (len cap : Nat) (l : List CellV) (h : IsCells w a len cap l) (p : Nat) (hp : p ≤ len) :
    Calls Tryd.prog 27 #[.slice a len cap, .int .i64 p] w fun e w' => e = .returned (.int .i64 (seenN l p : Int)) ∧ Mod none_ w w' := by
  have hle := h.le
  have hcap := h.big
  have hn := h.n
  unfold maxLen at hcap
  have H := Lib.hid h
  have HN := Lib.hid hn
  clear h hn
  go_enter Tryd.func27, Tryd.ntmps27
  go_wp2_with fail
  go_loopg [5, 6] p (fun g s5 s6 wx => ∃ k n : Nat, g = p - k ∧ s5 = .int .i64 n ∧ s6 = .int .i64 k ∧ k ≤ p ∧ n ≤ k ∧ wx = w ∧ RowKit.Hid (n = seenN l k))
  case atStart => exact ⟨0, 0, rfl, rfl, rfl, Nat.zero_le _, Nat.zero_le _, rfl, Lib.hid rfl⟩
  case round =>
    obtain ⟨k, n, rfl, rfl, rfl, hk, hnk, rfl, hst⟩ := hrel
    by_cases hlk : k < p
    · obtain ⟨c, hx⟩ : ∃ x, l[k]? = some x := ⟨l[k]'(by rw [HN.out]; omega), by simp⟩
      obtain ⟨g, off, rfl, hr⟩ := H.out.cells k c hx
      have c4 := hr 4 _ rfl
      have HS := Lib.hid (seenN_succ hx)
      have hkl : k < len := by omega
      clear hr hx
      cases hg : c.gone
      · rw [hg] at c4 HS
        go_wp2_with fail
        go_roundg (p - (k + 1))
        all_goals first
          | omega
          | exact ⟨k + 1, n + 1, rfl, by go_num, by go_num, by omega, by omega, rfl, Lib.hid (by rw [HS.out, hst.out]; rfl)⟩
      · rw [hg] at c4 HS
        go_wp2_with fail
        go_roundg (p - (k + 1))
        all_goals first
          | omega
          | exact ⟨k + 1, n, rfl, rfl, by go_num, by omega, by omega, rfl, Lib.hid (by rw [HS.out, hst.out]; rfl)⟩
    · obtain rfl : k = p := by omega
      have HF := Lib.hid hst.out
      clear hst
      go_wp2_with fail
      go_ret
      exact ⟨by rw [← HF.out]; rfl, Mod.refl _ _⟩
theorem rlive_any (w : World) (a : Option Addr) (len cap : Nat) (l : List CellV) (h : IsCells w a len cap l) :
    Calls Tryd.prog 33 #[.slice a len cap] w fun e w' => e = .returned (.int .i64 (liveN l : Int)) ∧ Mod none_ w w' := by
  have HS := Lib.hid (rseen_any w a len cap l h len (Nat.le_refl _))
  rw [← h.n, seenN_all, h.n] at HS
  have hle := h.le
  have hcap := h.big
  unfold maxLen at hcap
  clear h
  go_enter Tryd.func33, Tryd.ntmps33
  go_wp2_with fail
  refine HS.out.mono ?_
  rintro e w1 ⟨rfl, m1⟩
  go_wp2_with fail
  go_ret
  exact ⟨rfl, m1⟩
end Go.Proofs.YtlbkalbelefhmaaDoor

namespace Go.Proofs.YtlbkalbelefhmaaDoor
open Go.RowKit Go.Mine

set_option maxHeartbeats 4000000 in
set_option maxRecDepth 1000000 in
theorem move_ins (o : OpV) (s a t size : Int) (w : World) (l : List (Int × Int)) (h : o.ok w l) (hk : o.kind = 1) (h1 : inB size 0 20000 = true) (h2 : nameOk o.site o.seq = true) (h3 : inB o.num 0 1099511627776 = true) (h4 : insOk o size = true) (hm : markOk s a t size = true) :
    Calls Tryd.prog 34 #[.agg #[.int .i64 s, .int .i64 a, .int .i64 t], o.v, .int .i64 size] w fun e w' => e = .returned (.tuple #[.agg #[.int .i64 s, .int .i64 (pointOf a o.at_ (addsOf o) (o.site != s)), .int .i64 (pointOf t o.at_ (addsOf o) (o.site != s))], .int .i64 0]) ∧ Mod none_ w w' := by
  obtain ⟨A, hA⟩ : ∃ A, A = pointOf a o.at_ (addsOf o) (o.site != s) := ⟨_, rfl⟩
  obtain ⟨T, hT⟩ : ∃ T, T = pointOf t o.at_ (addsOf o) (o.site != s) := ⟨_, rfl⟩
  rw [← hA, ← hT]
  have HA := Lib.hid hA
  have HT := Lib.hid hT
  have hab : (0 ≤ a ∧ a ≤ size) ∧ (0 ≤ t ∧ t ≤ size) := by simp [markOk, inB] at hm; omega
  obtain ⟨W0, hW0⟩ : ∃ W0, ((w.alloc (.cells #[.int .i64 s, .int .i64 a, .int .i64 t] 66)).alloc (.cells o.cs.toArray 36)).alloc (.cells #[.int .i64 0, .int .i64 0, .int .i64 0] 66) = W0 := ⟨_, rfl⟩
  have m0 : Mod none_ w W0 := by rw [← hW0]; exact (((Mod.refl none_ w).alloc _).alloc _).alloc _
  have k0 : Blk W0 w.heap.size [.int .i64 s, .int .i64 a, .int .i64 t] 66 := by
    rw [← hW0]
    exact ((Blk.new (w := w) (cs := [.int .i64 s, .int .i64 a, .int .i64 t]) (t := 66)).mod ((Mod.refl none_ _).alloc _) (fun e => e)).mod ((Mod.refl none_ _).alloc _) (fun e => e)
  have k1 : Blk W0 (w.heap.size + 1) o.cs 36 := by
    have := Blk.new (w := w.alloc (.cells #[.int .i64 s, .int .i64 a, .int .i64 t] 66)) (cs := o.cs) (t := 36)
    rw [World.size_alloc] at this
    rw [← hW0]
    exact this.mod ((Mod.refl none_ _).alloc _) (fun e => e)
  have k2 : Blk W0 (w.heap.size + 1 + 1) [.int .i64 0, .int .i64 0, .int .i64 0] 66 := by
    have := Blk.new (w := (w.alloc (.cells #[.int .i64 s, .int .i64 a, .int .i64 t] 66)).alloc (.cells o.cs.toArray 36)) (cs := [.int .i64 0, .int .i64 0, .int .i64 0]) (t := 66)
    rw [World.size_alloc, World.size_alloc] at this
    rw [← hW0]
    exact this
  obtain ⟨X, hX⟩ : ∃ X, X = w.heap.size := ⟨_, rfl⟩
  rw [← hX] at k0 k1 k2
  have HX := Lib.hid hX
  have M0 := Lib.hid m0
  have K0 := Lib.hid k0
  have K1 := Lib.hid k1
  have K2 := Lib.hid k2
  have HO := Lib.hid h
  have H0 := Lib.hid h
  have a0 := k0.cell 0
  have a1 := k0.cell 1
  have a2 := k0.cell 2
  have d0 := k1.cell 0
  have d1 := k1.cell 1
  have d2 := k1.cell 2
  have d3 := k1.cell 3
  have d4 := k1.cell 4
  have d5 := k1.cell 5
  have d6 := k1.cell 6
  simp only [OpV.cs, List.getElem?_cons_zero, List.getElem?_cons_succ] at a0 a1 a2 d0 d1 d2 d3 d4 d5 d6
  have HM := Lib.hid (cmay_any s a t size)
  rw [hm] at HM
  have HK := Lib.hid hk
  have HQ1 := Lib.hid h1
  have HQ2 := Lib.hid h2
  have HQ3 := Lib.hid h3
  have HQ4 := Lib.hid h4
  clear hA hT m0 k0 k1 k2 hm hk h h1 h2 h3 h4 HO
  go_enter Tryd.func34, Tryd.ntmps34
  go_upto_region 1 with fail
  clear hW0
  rw [← hX]
  clear hX
  go_wp2_with fail
  refine (HM.out _).mono ?_
  rintro e w1 ⟨rfl, m1⟩
  have k1 := K1.out.mod m1 (fun e => e)
  have M1 := Lib.hid (M0.out.trans m1)
  clear d0 d1 d2 d3 d4 d5 d6 a0 a1 a2
  have d0 := k1.cell 0
  have d1 := k1.cell 1
  have d2 := k1.cell 2
  have d3 := k1.cell 3
  have d4 := k1.cell 4
  have d5 := k1.cell 5
  have d6 := k1.cell 6
  simp only [OpV.cs, List.getElem?_cons_zero, List.getElem?_cons_succ] at d0 d1 d2 d3 d4 d5 d6
  have HI := Lib.hid (mayIns_any o size w1 l (H0.out.grown M1.out) HK.out HQ1.out HQ2.out HQ3.out)
  rw [HQ4.out] at HI
  have K01 := Lib.hid (K0.out.mod m1 (fun e => e))
  have K11 := Lib.hid k1
  have K21 := Lib.hid (K2.out.mod m1 (fun e => e))
  clear m1 k1
  go_wp2_with fail
  refine HI.out.mono ?_
  rintro e w2 ⟨rfl, m2⟩
  have k0 := K01.out.mod m2 (fun e => e)
  have M2 := Lib.hid (M1.out.trans m2)
  have K12 := Lib.hid (K11.out.mod m2 (fun e => e))
  have K22 := Lib.hid (K21.out.mod m2 (fun e => e))
  have a0 := k0.cell 0
  have a1 := k0.cell 1
  have a2 := k0.cell 2
  simp only [List.getElem?_cons_zero, List.getElem?_cons_succ] at a0 a1 a2
  have K02 := Lib.hid k0
  clear d0 d1 d2 d3 d4 d5 d6 m2 k0
  go_wp2_with fail
  refine (places_any s a t _).mono ?_
  rintro e w3 ⟨rfl, m3⟩
  go_wp2_with fail
  obtain ⟨P, hPe⟩ : ∃ P, P = w3.heap.size := ⟨_, rfl⟩
  have kP : Blk (w3.alloc (.cells #[.int .i64 a, .int .i64 t] 24)) P [.int .i64 a, .int .i64 t] 24 := by rw [hPe]; exact Blk.new
  have mP := Lib.hid (m3.alloc (.cells #[.int .i64 a, .int .i64 t] 24))
  have MP := Lib.hid (M2.out.trans mP.out)
  have hPw : X + 2 < P := by have := K22.out.lt; have := m3.size; omega
  rw [← hPe]
  clear hPe m3
  generalize w3.alloc (.cells #[.int .i64 a, .int .i64 t] 24) = wP at kP mP MP ⊢
  have KP0 := Lib.hid (K02.out.mod mP.out (fun e => e))
  have KP1 := Lib.hid (K12.out.mod mP.out (fun e => e))
  have KP2 := Lib.hid (K22.out.mod mP.out (fun e => e))
  clear a0 a1 a2
  go_loopg [25] 2 (fun g s25 wx => ∃ k : Nat, g = 2 - k ∧ s25 = .int .i64 k ∧ k ≤ 2 ∧ Mod (one P) wP wx ∧ Blk wx P (twoAt k a t A T) 24)
  case atStart => exact ⟨0, rfl, rfl, by omega, Mod.refl _ _, kP⟩
  case round =>
    obtain ⟨k, rfl, rfl, hk2, mx, kx⟩ := hrel
    match k, hk2, kx with
    | 0, _, kx =>
      have kx0 : Blk wr P [.int .i64 a, .int .i64 t] 24 := kx
      have kA := KP0.out.mod mx (fun e => by have e' : X = P := e; omega)
      have kB := KP1.out.mod mx (fun e => by have e' : X + 1 = P := e; omega)
      have MW := Lib.hid (MP.out.transIn mx (fun b hb e => by have e' : b = P := e; have := HX.out; omega))
      have KX := Lib.hid kx0
      have MX := Lib.hid mx
      have q0 := kx0.cell 0
      have a0 := kA.cell 0
      have d0 := kB.cell 0
      have d1 := kB.cell 1
      have d2 := kB.cell 2
      have d3 := kB.cell 3
      have d4 := kB.cell 4
      have d5 := kB.cell 5
      have d6 := kB.cell 6
      simp only [OpV.cs, List.getElem?_cons_zero, List.getElem?_cons_succ] at q0 a0 d0 d1 d2 d3 d4 d5 d6
      have hH := H0.out.grown MW.out
      clear kx kx0 kA kB mx
      go_upto_region 7 with fail
      go_region_held3 (fun w' => Mod none_ wr w' ∧ w'.cell? ⟨P, 0, none⟩ = some (.int .i64 a) ∧ w'.cell? ⟨X, 0, none⟩ = some (.int .i64 s) ∧ w'.cell? ⟨X + 1, 0, none⟩ = some (.int .i64 o.site) ∧ w'.cell? ⟨X + 1, 1, none⟩ = some (.int .i64 o.seq) ∧ w'.cell? ⟨X + 1, 2, none⟩ = some (.int .i64 o.num) ∧ w'.cell? ⟨X + 1, 3, none⟩ = some (.int .i64 o.kind) ∧ w'.cell? ⟨X + 1, 4, none⟩ = some (.int .i64 o.at_) ∧ w'.cell? ⟨X + 1, 5, none⟩ = some (.string o.text) ∧ w'.cell? ⟨X + 1, 6, none⟩ = some (.slice o.sa o.slen o.scap))
        (first
          | exact ⟨Mod.drew (Mod.refl none_ wr), q0, a0, d0, d1, d2, d3, d4, d5, d6⟩
          | assumption
          | (obtain ⟨q, qa, qb, q0, q1, q2, q3, q4, q5, q6⟩ := ‹Mod none_ wr _ ∧ _›; exact ⟨q.trans m1, m1.cell (fun e => e) qa, m1.cell (fun e => e) qb, m1.cell (fun e => e) q0, m1.cell (fun e => e) q1, m1.cell (fun e => e) q2, m1.cell (fun e => e) q3, m1.cell (fun e => e) q4, m1.cell (fun e => e) q5, m1.cell (fun e => e) q6⟩))
        (first
          | (go_at_call 65; refine (ipoint_any o a size _ _ _ (hH.grown (And.left (by assumption))) HK.out HQ1.out HQ2.out HQ3.out HQ4.out (by omega)).mono ?_; rintro e w4 ⟨rfl, m1⟩))
      rename_i hHeld
      have M4 := And.left hHeld
      have k4 := KX.out.mod M4 (fun e => e)
      have x0 := k4.cell 0
      have x1 := k4.cell 1
      simp only [List.getElem?_cons_zero, List.getElem?_cons_succ] at x0 x1
      have r0 := k4.frozen 0
      have r1 := k4.frozen 1
      have K4 := Lib.hid k4
      have M5 := Lib.hid (MX.out.trans (M4.mono (T := one P) (fun _ _ e => e.elim)))
      clear hHeld M4 k4 m1
      rw [← HA.out]
      go_wp2_with fail
      go_roundg 1
      all_goals first
        | omega
        | exact ⟨1, rfl, by go_num, by omega, M5.out.setCell ⟨P, 0, none⟩ (fun _ => rfl) _, K4.out.set 0 (.int .i64 A)⟩
    | 1, _, kx =>
      have kx0 : Blk wr P [.int .i64 A, .int .i64 t] 24 := kx
      have kA := KP0.out.mod mx (fun e => by have e' : X = P := e; omega)
      have kB := KP1.out.mod mx (fun e => by have e' : X + 1 = P := e; omega)
      have MW := Lib.hid (MP.out.transIn mx (fun b hb e => by have e' : b = P := e; have := HX.out; omega))
      have KX := Lib.hid kx0
      have MX := Lib.hid mx
      have q0 := kx0.cell 1
      have a0 := kA.cell 0
      have d0 := kB.cell 0
      have d1 := kB.cell 1
      have d2 := kB.cell 2
      have d3 := kB.cell 3
      have d4 := kB.cell 4
      have d5 := kB.cell 5
      have d6 := kB.cell 6
      simp only [OpV.cs, List.getElem?_cons_zero, List.getElem?_cons_succ] at q0 a0 d0 d1 d2 d3 d4 d5 d6
      have hH := H0.out.grown MW.out
      clear kx kx0 kA kB mx
      go_upto_region 7 with fail
      go_region_held3 (fun w' => Mod none_ wr w' ∧ w'.cell? ⟨P, 1, none⟩ = some (.int .i64 t) ∧ w'.cell? ⟨X, 0, none⟩ = some (.int .i64 s) ∧ w'.cell? ⟨X + 1, 0, none⟩ = some (.int .i64 o.site) ∧ w'.cell? ⟨X + 1, 1, none⟩ = some (.int .i64 o.seq) ∧ w'.cell? ⟨X + 1, 2, none⟩ = some (.int .i64 o.num) ∧ w'.cell? ⟨X + 1, 3, none⟩ = some (.int .i64 o.kind) ∧ w'.cell? ⟨X + 1, 4, none⟩ = some (.int .i64 o.at_) ∧ w'.cell? ⟨X + 1, 5, none⟩ = some (.string o.text) ∧ w'.cell? ⟨X + 1, 6, none⟩ = some (.slice o.sa o.slen o.scap))
        (first
          | exact ⟨Mod.drew (Mod.refl none_ wr), q0, a0, d0, d1, d2, d3, d4, d5, d6⟩
          | assumption
          | (obtain ⟨q, qa, qb, q0, q1, q2, q3, q4, q5, q6⟩ := ‹Mod none_ wr _ ∧ _›; exact ⟨q.trans m1, m1.cell (fun e => e) qa, m1.cell (fun e => e) qb, m1.cell (fun e => e) q0, m1.cell (fun e => e) q1, m1.cell (fun e => e) q2, m1.cell (fun e => e) q3, m1.cell (fun e => e) q4, m1.cell (fun e => e) q5, m1.cell (fun e => e) q6⟩))
        (first
          | (go_at_call 65; refine (ipoint_any o t size _ _ _ (hH.grown (And.left (by assumption))) HK.out HQ1.out HQ2.out HQ3.out HQ4.out (by omega)).mono ?_; rintro e w4 ⟨rfl, m1⟩))
      rename_i hHeld
      have M4 := And.left hHeld
      have k4 := KX.out.mod M4 (fun e => e)
      have x0 := k4.cell 0
      have x1 := k4.cell 1
      simp only [List.getElem?_cons_zero, List.getElem?_cons_succ] at x0 x1
      have r0 := k4.frozen 0
      have r1 := k4.frozen 1
      have K4 := Lib.hid k4
      have M5 := Lib.hid (MX.out.trans (M4.mono (T := one P) (fun _ _ e => e.elim)))
      clear hHeld M4 k4 m1
      rw [← HT.out]
      go_wp2_with fail
      go_roundg 0
      all_goals first
        | omega
        | exact ⟨2, rfl, by go_num, by omega, M5.out.setCell ⟨P, 1, none⟩ (fun _ => rfl) _, K4.out.set 1 (.int .i64 T)⟩
    | 2, _, kx =>
      have kx0 : Blk wr P [.int .i64 A, .int .i64 T] 24 := kx
      have kA := KP0.out.mod mx (fun e => by have e' : X = P := e; omega)
      have kB := KP2.out.mod mx (fun e => by have e' : X + 1 + 1 = P := e; omega)
      have MW := Lib.hid (MP.out.transIn mx (fun b hb e => by have e' : b = P := e; have := HX.out; omega))
      have a0 := kA.cell 0
      have a1 := kA.cell 1
      have a2 := kA.cell 2
      have q0 := kx0.cell 0
      have q1 := kx0.cell 1
      simp only [List.getElem?_cons_zero, List.getElem?_cons_succ] at a0 a1 a2 q0 q1
      have KB := Lib.hid kB
      clear kA kB kx kx0 mx kP
      go_wp2_with fail
      refine (at_any s a t A T _).mono ?_
      rintro e w5 ⟨rfl, m5⟩
      have k1 := KB.out.mod m5 (fun e => e)
      have M5 := Lib.hid (MW.out.trans m5)
      have d0 := k1.cell 0
      have d1 := k1.cell 1
      have d2 := k1.cell 2
      simp only [List.getElem?_cons_zero, List.getElem?_cons_succ] at d0 d1 d2
      have r0 := k1.frozen 0
      have r1 := k1.frozen 1
      have r2 := k1.frozen 2
      have KF := Lib.hid (((k1.set 0 (.int .i64 s)).set 1 (.int .i64 A)).set 2 (.int .i64 T))
      have MF := Lib.hid (((M5.out.setCell ⟨X + 1 + 1, 0, none⟩ (fun h => absurd h (by have := HX.out; simp; omega)) (.int .i64 s)).setCell ⟨X + 1 + 1, 1, none⟩ (fun h => absurd h (by have := HX.out; simp; omega)) (.int .i64 A)).setCell ⟨X + 1 + 1, 2, none⟩ (fun h => absurd h (by have := HX.out; simp; omega)) (.int .i64 T))
      clear k1 m5
      go_wp2_with fail
      exact bodyPost_ret (results_mkt rfl _ _ (X + 1 + 1) [.int .i64 s, .int .i64 A, .int .i64 T] rfl rfl (blk_range KF.out)) rfl ⟨rfl, MF.out⟩

end Go.Proofs.YtlbkalbelefhmaaDoor

namespace Go.Proofs.YtlbkalbelefhmaaDoor
open Go.RowKit Go.Mine

/-- Blank cells. -/
def blanks (k : Nat) : List CellV := (List.range k).map fun i : Nat => ⟨99, 1, (i : Int), 46, false⟩
theorem blanks_succ (k : Nat) : blanks (k + 1) = blanks k ++ [⟨99, 1, (k : Int), 46, false⟩] := by
  unfold blanks; rw [List.range_succ, List.map_append]; rfl
theorem blanks_len (k : Nat) : (blanks k).length = k := by unfold blanks; simp

set_option maxHeartbeats 2000000 in
set_option maxRecDepth 1000000 in
theorem blank_any (n : Nat) (w : World) (hn : n ≤ 1000000) :
    Calls Tryd.prog 59 #[.int .i64 (n : Int)] w fun e w' => ∃ v, e = .returned v ∧ w'.ownsRow w.heap.size 63 5 v n (flat CellV.cs (blanks n)) ∧ Mod none_ w w' := by
  obtain ⟨i0, hi0, hz0, hz1, hz2⟩ := info_parts infoCell
  go_enter Tryd.func59, Tryd.ntmps59
  go_wp2_with fail
  go_loopg [3, 4] n (fun g s3 s4 wx => ∃ k : Nat, g = n - k ∧ s4 = .int .i64 k ∧ k ≤ n ∧ Mod none_ w wx ∧ wx.ownsRow w.heap.size 63 5 s3 k (flat CellV.cs (blanks k)))
  case atStart => exact ⟨0, rfl, rfl, Nat.zero_le _, Mod.refl _ _, World.ownsRow_nil _ _ _ _⟩
  case round =>
    obtain ⟨k, rfl, rfl, hk, m1, ho⟩ := hrel
    have M1 := Lib.hid m1
    have O1 := Lib.hid ho
    have hsz := m1.size
    by_cases hlk : k < n
    · have hdd : decide ((k : Int) < (n : Int)) = true := by simp; omega
      have hfl : (flat CellV.cs (blanks k)).length = k * 5 := by rw [flat_length CellV.len, blanks_len]
      clear m1 ho
      go_wp2_with (at_builtin; refine wpList_append_own _ rfl (.tmp 10) (.tmp 14) 22 rfl w.heap.size 63 i0 _ 5 32 Tryd.underlying22 hi0 hz0 hz1 hz2 rfl (by decide) _ k (flat CellV.cs (blanks k)) rfl (by exact ownsRow_mod O1.out ((Mod.refl none_ wr).alloc _) (fun _ _ e => e)) ⟨wr.heap.size, 0, none⟩ 1 1 (CellV.cs ⟨99, 1, (k : Int), 46, false⟩) rfl rfl (World.news_of_block (heap_alloc_new wr _)) (CellV.ones _) (by unfold maxLen; omega) (by omega) (by simp; omega) ?_; intro v' w1 ho hg _; have HO := Lib.hid ho; have MV := Lib.hid ((M1.out.alloc _).grown hg (fun j e hj => absurd hj (by have := (O1.out.lt j e).1; omega))); clear ho hg)
      go_roundg (n - (k + 1))
      case measure => omega
      case rel =>
        refine ⟨k + 1, rfl, by go_num, by omega, MV.out, ?_⟩
        have := HO.out
        rw [blanks_succ, flat_append]
        simpa [flat] using this
    · obtain rfl : k = n := by omega
      have hdd : decide ((k : Int) < (k : Int)) = false := by simp
      clear m1 ho
      go_wp2_with fail
      go_ret
      exact ⟨_, rfl, O1.out, M1.out⟩

end Go.Proofs.YtlbkalbelefhmaaDoor

namespace Go.Proofs.YtlbkalbelefhmaaDoor
open Go.RowKit Go.Mine
open Classical

def xy : ByteArray := ⟨#[120, 121]⟩
theorem ulen_xy : ulen xy = 2 := by
  have h0 : Lib.decodeGo xy = (120, 1) := by decide
  have h1 : tl xy 1 = ⟨#[121]⟩ := by decide
  have h2 : Lib.decodeGo ⟨#[121]⟩ = (121, 1) := by decide
  have h3 : tl ⟨#[121]⟩ 1 = ⟨#[]⟩ := by decide
  unfold ulen
  rw [runesOf_step (by decide) (by unfold bad1; rw [h0]; decide), h0]
  dsimp only
  rw [h1, runesOf_step (by decide) (by unfold bad1; rw [h2]; decide), h2]
  dsimp only
  rw [h3, runesOf_nil (by decide)]
  rfl
theorem ascii_xy : ascii xy := by unfold ascii xy; decide

/-- alive's operation, by a site. -/
def alOp (s : Int) : OpV := ⟨s, 1, 0, 1, 1, xy, none, 0, 0⟩
theorem alOp_ok (s : Int) (hs : 1 ≤ s ∧ s ≤ 16) (w : World) : (alOp s).ok w [] := by
  refine ⟨?_, ?_, ?_, ?_, ?_, .inr ascii_xy, (by decide : xy.size < 4611686018427387904), ⟨rfl, Nat.le_refl _, Nat.zero_le _, fun x hx => (by cases hx), fun i x hx => by simp at hx⟩⟩ <;> simp [alOp] <;> omega
theorem alOp_ins (s : Int) : insOk (alOp s) 3 = true := by
  have h : xy.size = 2 := by decide
  simp [insOk, alOp, textOk, ulen_xy, inB, h]
theorem alOp_adds (s : Int) : addsOf (alOp s) = 2 := by
  unfold addsOf alOp
  rw [if_pos rfl]
  dsimp only
  rw [ulen_xy]
  rfl

/-- alive's cells, k of them turned. -/
def alC (k : Nat) : List CellV := (List.range 3).map fun i : Nat => ⟨if i < k then 9 else 99, 1, (i : Int), 46, false⟩
theorem alC_ok : ∀ c ∈ alC 3, c.ok := by
  intro c hc
  simp [alC, List.range, List.range.loop] at hc
  rcases hc with rfl | rfl | rfl <;> exact ⟨by dsimp only; omega, by dsimp only; omega, by dsimp only; omega, by dsimp only; omega⟩
theorem alC_new : newE (alC 3) = 0 := by
  unfold newE
  rw [if_pos (by decide), if_pos (by simp [alC, List.range, List.range.loop, CellV.id]), if_pos (by decide)]
theorem alC_put : putV (alC 3) 1 1 1 = .tuple #[.agg #[.int .i64 1, .int .i64 1, .int .i64 1], .int .i64 0] := by
  have h1 : gapBad (alC 3) 1 = false := by decide
  have h2 : gapN (alC 3) 1 = 1 := by decide
  unfold putV
  rw [h1, h2]
  rfl
theorem alC_blanks : alC 0 = blanks 3 := by rfl

end Go.Proofs.YtlbkalbelefhmaaDoor

namespace Go.Proofs.YtlbkalbelefhmaaDoor
open Go.RowKit Go.Mine

theorem al_mv2 : pointOf 1 (alOp 2).at_ (addsOf (alOp 2)) ((alOp 2).site != 1) = 1 := by rw [alOp_adds]; rfl
theorem al_mv1 : pointOf 1 (alOp 1).at_ (addsOf (alOp 1)) ((alOp 1).site != 1) = 3 := by rw [alOp_adds]; rfl
theorem al_move (s r : Int) (hs : 1 ≤ s ∧ s ≤ 16) (hr : pointOf 1 (alOp s).at_ (addsOf (alOp s)) ((alOp s).site != 1) = r) (w : World) :
    Calls Tryd.prog 34 #[.agg #[.int .i64 1, .int .i64 1, .int .i64 1], (alOp s).v, .int .i64 3] w fun e w' => e = .returned (.tuple #[.agg #[.int .i64 1, .int .i64 r, .int .i64 r], .int .i64 0]) ∧ Mod none_ w w' := by
  have h := move_ins (alOp s) 1 1 1 3 w [] (alOp_ok s hs w) rfl (by decide) (by show nameOk s 1 = true; simp [nameOk, inB]; omega) (by show inB 0 0 1099511627776 = true; decide) (alOp_ins s) (by decide)
  rw [hr] at h
  exact h

set_option maxHeartbeats 4000000 in
set_option maxRecDepth 1000000 in
theorem alive_any (w : World) : Calls Tryd.prog 31 #[] w fun e w' => e = .returned (.bool true) ∧ Mod none_ w w' := by
  go_enter Tryd.func31, Tryd.ntmps31
  go_wp2_with fail
  refine (blank_any 3 w (by omega)).mono ?_
  rintro e w1 ⟨v, rfl, ho, m1⟩
  rcases ownsRow_blk ho with ⟨rfl, h0, _⟩ | ⟨g, cap, more, rfl, hg, kb, hnc, hcm, _⟩
  · omega
  rw [← alC_blanks] at kb
  have hcm' := hcm
  unfold maxLen at hcm'
  have KB := Lib.hid kb
  have M1 := Lib.hid m1
  have HCM := Lib.hid hcm
  clear ho kb m1 hcm
  go_wp2_with fail
  go_loopg [2] 3 (fun gg s2 wx => ∃ k : Nat, gg = 3 - k ∧ s2 = .int .i64 k ∧ k ≤ 3 ∧ Mod none_ w wx ∧ Blk wx g (flat CellV.cs (alC k) ++ more) 63)
  case atStart => exact ⟨0, rfl, rfl, by omega, M1.out, KB.out⟩
  case round =>
    obtain ⟨k, rfl, rfl, hk, mx, kx⟩ := hrel
    have MX := Lib.hid mx
    have KX := Lib.hid kx
    match k, hk, kx, KX with
    | 0, _, kx, KX =>
      have c0 : wr.cell? ⟨g, 0, none⟩ = some (.int .i64 99) := by rw [kx.cell]; rfl
      have f0 := kx.frozen 0
      clear kx mx
      go_wp2_with fail
      go_roundg 2
      all_goals first
        | omega
        | exact ⟨1, rfl, by go_num, by omega, MX.out.setCell ⟨g, 0, none⟩ (fun h => absurd h (by simp; omega)) _, KX.out.set 0 (.int .i64 9)⟩
    | 1, _, kx, KX =>
      have c0 : wr.cell? ⟨g, 5, none⟩ = some (.int .i64 99) := by rw [kx.cell]; rfl
      have f0 := kx.frozen 5
      clear kx mx
      go_wp2_with fail
      go_roundg 1
      all_goals first
        | omega
        | exact ⟨2, rfl, by go_num, by omega, MX.out.setCell ⟨g, 5, none⟩ (fun h => absurd h (by simp; omega)) _, KX.out.set 5 (.int .i64 9)⟩
    | 2, _, kx, KX =>
      have c0 : wr.cell? ⟨g, 10, none⟩ = some (.int .i64 99) := by rw [kx.cell]; rfl
      have f0 := kx.frozen 10
      clear kx mx
      go_wp2_with fail
      go_roundg 0
      all_goals first
        | omega
        | exact ⟨3, rfl, by go_num, by omega, MX.out.setCell ⟨g, 10, none⟩ (fun h => absurd h (by simp; omega)) _, KX.out.set 10 (.int .i64 9)⟩
    | 3, _, kx, KX =>
      have HN := Lib.hid (new_any wr (some ⟨g, 0, none⟩) 3 cap (alC 3) (blkCells kx rfl hnc HCM.out alC_ok) (by omega))
      clear kx mx KX
      go_wp2_with fail
      refine HN.out.mono ?_
      rintro e w3 ⟨m3, _, hd⟩
      obtain ⟨D, rfl, hdoc⟩ := hd alC_new
      have HP := put_any w3 _ D (alC 3) 1 1 1 hdoc (by decide)
      rw [alC_put] at HP
      have HP := Lib.hid HP
      have M3 := Lib.hid (MX.out.trans m3)
      clear m3 hd hdoc HN
      go_wp2_with fail
      refine HP.out.mono ?_
      rintro e w4 ⟨rfl, m4⟩
      have M4 := Lib.hid (M3.out.trans m4)
      have hz4 := m4.size
      clear m4
      go_upto_region 9 with fail
      obtain ⟨W5, hW5⟩ : ∃ W5, (w4.alloc (.cells #[.int .i64 1, .int .i64 1, .int .i64 1] 66)).alloc (.cells #[.int .i64 2, .int .i64 1, .int .i64 0, .int .i64 1, .int .i64 1, .string { data := #[120, 121] }, .slice none 0 0] 36) = W5 := ⟨_, rfl⟩
      have m5 : Mod none_ w4 W5 := by rw [← hW5]; exact ((Mod.refl none_ w4).alloc _).alloc _
      have kM : Blk W5 w4.heap.size [.int .i64 1, .int .i64 1, .int .i64 1] 66 := by
        rw [← hW5]
        exact (Blk.new (w := w4) (cs := [.int .i64 1, .int .i64 1, .int .i64 1]) (t := 66)).mod ((Mod.refl none_ _).alloc _) (fun e => e)
      have kO : Blk W5 (w4.heap.size + 1) [.int .i64 2, .int .i64 1, .int .i64 0, .int .i64 1, .int .i64 1, .string { data := #[120, 121] }, .slice none 0 0] 36 := by
        have := Blk.new (w := w4.alloc (.cells #[.int .i64 1, .int .i64 1, .int .i64 1] 66)) (cs := [.int .i64 2, .int .i64 1, .int .i64 0, .int .i64 1, .int .i64 1, .string { data := #[120, 121] }, .slice none 0 0]) (t := 36)
        rw [World.size_alloc] at this
        rw [← hW5]
        exact this
      rw [hW5]
      have M5 := Lib.hid (M4.out.trans m5)
      obtain ⟨X, hX⟩ : ∃ X, X = w4.heap.size := ⟨_, rfl⟩
      rw [← hX] at kM kO ⊢
      have hXw : w.heap.size ≤ X := by have := M4.out.size; omega
      clear hX hW5 m5 hz4
      have a0 := kM.cell 0
      have a1 := kM.cell 1
      have a2 := kM.cell 2
      have o0 := kO.cell 0
      have o1 := kO.cell 1
      have o2 := kO.cell 2
      have o3 := kO.cell 3
      have o4 := kO.cell 4
      have o5 := kO.cell 5
      have o6 := kO.cell 6
      simp only [List.getElem?_cons_zero, List.getElem?_cons_succ] at a0 a1 a2 o0 o1 o2 o3 o4 o5 o6
      have KM := Lib.hid kM
      have KO := Lib.hid kO
      clear kM kO
      go_wp2_with fail
      refine (al_move 2 1 (by omega) al_mv2 W5).mono ?_
      rintro e w6 ⟨rfl, m6⟩
      have mA := m6.alloc (.cells #[.int .i64 1, .int .i64 1, .int .i64 1] 66)
      have kA := Blk.new (w := w6) (cs := [.int .i64 1, .int .i64 1, .int .i64 1]) (t := 66)
      have hz6 := m6.size
      have hlx := KO.out.lt
      have M6 := Lib.hid (M5.out.trans mA)
      have k7 := KO.out.mod mA (fun e => e)
      have KM7 := Lib.hid (KM.out.mod mA (fun e => e))
      clear mA m6 a0 a1 a2 o0 o1 o2 o3 o4 o5 o6
      go_upto_region 10 with fail
      generalize w6.alloc (.cells #[.int .i64 1, .int .i64 1, .int .i64 1] 66) = w7 at kA k7 KM7 M6 ⊢
      obtain ⟨Y, hY⟩ : ∃ Y, Y = w6.heap.size := ⟨_, rfl⟩
      rw [← hY] at kA ⊢
      have hYX : X + 1 < Y := by omega
      clear hY hz6 hlx
      have o0 := k7.cell 0
      simp only [List.getElem?_cons_zero, List.getElem?_cons_succ] at o0
      have p0 := k7.frozen 0
      have mS := (Mod.refl (one (X + 1)) w7).setCell ⟨X + 1, 0, none⟩ (fun _ => rfl) (.int .i64 1)
      have KO8 := Lib.hid (k7.set 0 (.int .i64 1))
      have KM8 := Lib.hid (KM7.out.mod mS (fun e => by have e' : X = X + 1 := e; omega))
      have KA8 := Lib.hid (kA.mod mS (fun e => by have e' : Y = X + 1 := e; omega))
      have M8 := Lib.hid (M6.out.transIn mS (fun b hb e => by have e' : b = X + 1 := e; omega))
      clear mS k7 kA
      go_upto_region 11 with fail
      generalize w7.setCell ⟨X + 1, 0, none⟩ (.int .i64 1) = w8 at KO8 KM8 KA8 M8 ⊢
      clear o0 p0
      have a0 := KM8.out.cell 0
      have a1 := KM8.out.cell 1
      have a2 := KM8.out.cell 2
      have o0 := KO8.out.cell 0
      have o1 := KO8.out.cell 1
      have o2 := KO8.out.cell 2
      have o3 := KO8.out.cell 3
      have o4 := KO8.out.cell 4
      have o5 := KO8.out.cell 5
      have o6 := KO8.out.cell 6
      simp only [List.set_cons_zero, List.getElem?_cons_zero, List.getElem?_cons_succ] at a0 a1 a2 o0 o1 o2 o3 o4 o5 o6
      go_wp2_with fail
      refine (al_move 1 3 (by omega) al_mv1 w8).mono ?_
      rintro e w9 ⟨rfl, m9⟩
      have mB := m9.alloc (.cells #[.int .i64 1, .int .i64 3, .int .i64 3] 66)
      have kB := Blk.new (w := w9) (cs := [.int .i64 1, .int .i64 3, .int .i64 3]) (t := 66)
      have M9 := Lib.hid (M8.out.trans mB)
      have kA9 := KA8.out.mod mB (fun e => e)
      clear mB m9 a0 a1 a2 o0 o1 o2 o3 o4 o5 o6
      go_upto_region 12 with fail
      generalize w9.alloc (.cells #[.int .i64 1, .int .i64 3, .int .i64 3] 66) = wB at kB kA9 M9 ⊢
      have a1 := kA9.cell 1
      have b1 := kB.cell 1
      have b2 := kB.cell 2
      simp only [List.getElem?_cons_zero, List.getElem?_cons_succ] at a1 b1 b2
      clear kA9 kB
      go_wp2_with fail
      go_ret
      exact ⟨rfl, M9.out⟩

end Go.Proofs.YtlbkalbelefhmaaDoor

namespace Go.Proofs.YtlbkalbelefhmaaDoor
open Go.RowKit Go.Mine
open Classical

theorem find_doc (w : World) (S : Nat → Prop) (D : Nat) (l : List CellV) (s q f : Int) (h : DocS w S D l) (hlen : l.length ≤ 1099511627776) :
    Calls Tryd.prog 30 #[.pointer (some ⟨D, 0, none⟩), .agg #[.int .i64 s, .int .i64 q], .int .i64 f] w fun e w' => e = .returned (findV s q f l) ∧ Mod none_ w w' := by
  obtain ⟨v, MB, bl, hv, _, hl, _⟩ := h.ex
  subst hl
  exact find_cell w D MB v bl s q f hv hlen

theorem behind.find {s q f p : Int} {l : List CellV} (h : behind s q f l p) (hn : (l.map CellV.id).Nodup) : findV s q f l = .tuple #[.int .i64 (p - 1), .bool true] := by
  obtain ⟨i, c, hc, h1, h2, h3, hp⟩ := h
  obtain ⟨hi, e⟩ := List.getElem?_eq_some_iff.1 hc
  have : l.findIdx? (hitB s q f) = some i := by
    rw [List.findIdx?_eq_some_iff_getElem]
    refine ⟨hi, by rw [e]; unfold hitB; simp [h1, h2, h3], fun j hj hb => ?_⟩
    unfold List.Nodup at hn
    rw [List.pairwise_iff_getElem] at hn
    refine hn j i (by simp; omega) (by simpa using hi) hj ?_
    unfold hitB at hb
    simp at hb
    simp [CellV.id, e, h1, h2, h3, hb]
  unfold findV
  rw [this]
  simp [hp]

/-- Behind some acts: the document has cells L (none of its blocks in E), the mark is at p, right behind the cell (s, q, f), or at the beginning. -/
structure StaI (w : World) (E : Nat → Prop) (wx : World) (D KM KN : Nat) (s q f p : Int) (L : List CellV) : Prop where
  m : Mod none_ w wx
  doc : ∃ S, DocS wx S D L ∧ ∀ k, S k → w.heap.size ≤ k ∧ ¬ E k
  ex : ∀ k, E k → k < wx.heap.size
  em : E KM
  en : E KN
  km : Blk wx KM [.int .i64 9, .int .i64 p, .int .i64 p] 66
  kn : Blk wx KN [.int .i64 s, .int .i64 q] 33
  lo : w.heap.size ≤ KM
  ap : KN ≠ KM
  cl : Cl L
  at_ : (f = -1 ∧ p = 0) ∨ (0 ≤ f ∧ behind s q f L p)
theorem StaI.grown {w wx wy : World} {E : Nat → Prop} {D KM KN : Nat} {s q f p : Int} {L : List CellV} (h : StaI w E wx D KM KN s q f p L) (m : Mod none_ wx wy) : StaI w E wy D KM KN s q f p L :=
  { h with m := h.m.trans m, doc := (by obtain ⟨S, h1, h2⟩ := h.doc; exact ⟨S, h1.grown m, h2⟩), ex := fun k hk => Nat.lt_of_lt_of_le (h.ex k hk) m.size, km := h.km.mod m (fun e => e), kn := h.kn.mod m (fun e => e) }
theorem StaI.box {w wx wy : World} {E : Nat → Prop} {D KM KN : Nat} {s q f p : Int} {L : List CellV} (h : StaI w E wx D KM KN s q f p L) (m : Mod none_ wx wy) : StaI w (fun k => E k ∨ (wx.heap.size ≤ k ∧ k < wy.heap.size)) wy D KM KN s q f p L := by
  obtain ⟨S, h1, h2⟩ := h.doc
  refine { h.grown m with doc := ⟨fun k => S k ∧ k < wx.heap.size, (h1.mono (T := fun k => S k ∧ k < wx.heap.size) (fun k hk hs => ⟨hs, hk⟩)).grown m, fun k hk => ⟨(h2 k hk.1).1, ?_⟩⟩, ex := ?_, em := .inl h.em, en := .inl h.en }
  · rintro (he | ⟨he, _⟩)
    · exact (h2 k hk.1).2 he
    · have := hk.2; omega
  · rintro k (hk | hk)
    · exact Nat.lt_of_lt_of_le (h.ex k hk) m.size
    · exact hk.2
theorem StaI.less {w wx : World} {E E' : Nat → Prop} {D KM KN : Nat} {s q f p : Int} {L : List CellV} (h : StaI w E wx D KM KN s q f p L) (hE : ∀ k, E' k → E k) (hm : E' KM) (hn : E' KN) : StaI w E' wx D KM KN s q f p L :=
  { h with doc := (by obtain ⟨S, h1, h2⟩ := h.doc; exact ⟨S, h1, fun k hk => ⟨(h2 k hk).1, fun e => (h2 k hk).2 (hE k e)⟩⟩), ex := fun k hk => h.ex k (hE k hk), em := hm, en := hn }
theorem StaI.range {w wx : World} {E : Nat → Prop} {D KM KN : Nat} {s q f p : Int} {L : List CellV} (h : StaI w E wx D KM KN s q f p L) : 0 ≤ p ∧ p ≤ L.length := by
  rcases h.at_ with ⟨_, rfl⟩ | ⟨_, i, c, hc, _, _, _, rfl⟩
  · omega
  · have := (List.getElem?_eq_some_iff.1 hc).1
    omega
theorem StaI.is {w wx : World} {E : Nat → Prop} {D KM KN : Nat} {s q f p : Int} {L : List CellV} (h : StaI w E wx D KM KN s q f p L) : DocIs wx 0 D L := by
  obtain ⟨S, h1, _⟩ := h.doc
  exact h1.is
/-- What Do leaves of it. -/
structure StaD (w : World) (E : Nat → Prop) (wx : World) (D KM KN : Nat) (s q f p : Int) (L' : List CellV) (w' : World) : Prop where
  m : Mod none_ w w'
  doc : ∃ S, DocS w' S D L' ∧ ∀ k, S k → w.heap.size ≤ k ∧ ¬ E k
  sz : wx.heap.size ≤ w'.heap.size
  bs : ∀ (b : Nat) (cs : List Value) (t : TypeId), E b → Blk wx b cs t → Blk w' b cs t
  cl : Cl L'
/-- Do, upon such a document. -/
theorem StaI.do_ {w wx : World} {E : Nat → Prop} {D KM KN : Nat} {s q f p : Int} {L : List CellV} (h : StaI w E wx D KM KN s q f p L) (o : OpV) (sp : List (Int × Int)) (ho : o.ok w sp) (hsz : o.text.size ≤ 1099511627776) :
    Calls Tryd.prog 17 #[.pointer (some ⟨D, 0, none⟩), o.v] wx fun e w' => e = .returned (.int .i64 (doE o sp L)) ∧ StaD w E wx D KM KN s q f p (doL o sp L) w' := by
  obtain ⟨S, hd, hS⟩ := h.doc
  have ho' := ho.grown h.m
  refine (do_any wx S D L o sp hd h.cl.big h.cl.ok ho' hsz ?_).mono ?_
  · intro b off hsa hpos hsb
    have hsp := ho.sp
    have h1 := (hS b hsb).1
    have hl : 0 < sp.length := by rw [hsp.n]; exact hpos
    obtain ⟨b', off', e, hc, _⟩ := hsp.cells 0 sp[0] (List.getElem?_eq_getElem hl)
    rw [hsa] at e
    cases e
    have := block_lt_of_cell hc
    simp at this
    omega
  · rintro e w' ⟨rfl, m, hd'⟩
    refine ⟨rfl, h.m.transIn m (fun b hb hs => absurd (hS b hs).1 (by omega)), ⟨_, hd', ?_⟩, m.size, fun b cs t hb k => k.mod m (fun hs => (hS _ hs).2 hb), h.cl.doL ho.i1 ho.i2⟩
    rintro k (hk | ⟨hk, _⟩)
    · exact hS k hk
    · have h1 := h.m.size
      exact ⟨by omega, fun e => by have := h.ex k e; omega⟩
theorem StaD.same {w wx w' : World} {E : Nat → Prop} {D KM KN : Nat} {s q f p : Int} {L : List CellV} (h : StaI w E wx D KM KN s q f p L) (d : StaD w E wx D KM KN s q f p L w') : StaI w E w' D KM KN s q f p L :=
  { h with m := d.m, doc := d.doc, ex := fun k hk => Nat.lt_of_lt_of_le (h.ex k hk) d.sz, km := d.bs _ _ _ h.em h.km, kn := d.bs _ _ _ h.en h.kn }
/-- .. and the mark put where it is then. -/
theorem StaD.put {w wx w' w2 : World} {E : Nat → Prop} {D KM KN : Nat} {s q f p : Int} {o : OpV} {sp : List (Int × Int)} {L : List CellV} (h : StaI w E wx D KM KN s q f p L) (d : StaD w E wx D KM KN s q f p (doL o sp L) w') (he : doE o sp L = 0) (m : Mod none_ w' w2) :
    StaI w E (((w2.setCell ⟨KM, 0, none⟩ (.int .i64 9)).setCell ⟨KM, 1, none⟩ (.int .i64 (movP o p true))).setCell ⟨KM, 2, none⟩ (.int .i64 (movP o p true))) D KM KN s q f (movP o p true) (doL o sp L) := by
  obtain ⟨S, h1, h2⟩ := d.doc
  have M : Mod (one KM) w2 (((w2.setCell ⟨KM, 0, none⟩ (.int .i64 9)).setCell ⟨KM, 1, none⟩ (.int .i64 (movP o p true))).setCell ⟨KM, 2, none⟩ (.int .i64 (movP o p true))) :=
    (((Mod.refl (one KM) w2).setCell ⟨KM, 0, none⟩ (fun _ => rfl) _).setCell ⟨KM, 1, none⟩ (fun _ => rfl) _).setCell ⟨KM, 2, none⟩ (fun _ => rfl) _
  have km := (d.bs _ _ _ h.em h.km).mod m (fun e => e)
  have kn := (d.bs _ _ _ h.en h.kn).mod m (fun e => e)
  refine { m := (d.m.trans m).transIn M (fun b hb e => by have e' : b = KM := e; have := h.lo; omega), doc := ⟨S, (h1.grown m).mod M (fun k hk e => by have e' : k = KM := e; subst e'; exact (h2 _ hk).2 h.em), h2⟩, ex := fun k hk => Nat.lt_of_lt_of_le (h.ex k hk) (Nat.le_trans d.sz (Nat.le_trans m.size M.size)), em := h.em, en := h.en, km := ((km.set 0 _).set 1 _).set 2 _, kn := kn.mod M (fun e => h.ap e), lo := h.lo, ap := h.ap, cl := d.cl, at_ := ?_ }
  rcases h.at_ with ⟨hf, rfl⟩ | ⟨hf, hb⟩
  · exact .inl ⟨hf, movP_zero he⟩
  · exact .inr ⟨hf, hb.doL he⟩
end Go.Proofs.YtlbkalbelefhmaaDoor

namespace Go.Proofs.YtlbkalbelefhmaaDoor
open Go.RowKit Go.Mine
open Classical

set_option maxHeartbeats 16000000 in
set_option maxRecDepth 1000000 in
theorem caretStays_any (w : World) (ca : Option Addr) (clen ccap : Nat) (l : List CellV) (hc : IsCells w ca clen ccap l) (aa : Option Addr) (alen acap : Nat) (acts : List ActV) (ha : IsActs w aa alen acap acts) (i : Int) (hi : -9223372036854775808 ≤ i ∧ i ≤ 9223372036854775807) :
    Calls Tryd.prog 6 #[.slice ca clen ccap, .slice aa alen acap, .int .i64 i] w fun e w' => e = .returned (.bool true) ∧ Mod none_ w w' := by
  have hcle := hc.le
  have hcbig := hc.big
  have hale := ha.le
  have habig := ha.big
  have hcn := hc.n
  unfold maxLen at hcbig habig
  have HC := Lib.hid hc
  have HA := Lib.hid ha
  have HCN := Lib.hid hcn
  clear hc ha hcn
  go_enter Tryd.func6, Tryd.ntmps6
  go_wp2_with fail
  refine (alive_any w).mono ?_
  rintro e w1 ⟨rfl, m1⟩
  have HG := Lib.hid (great_acts w1 ca clen ccap HC.out.le HC.out.big aa alen acap acts (HA.out.grown m1))
  have M1 := Lib.hid m1
  clear m1
  go_wp2_with fail
  refine HG.out.mono ?_
  rintro e w2 ⟨rfl, m2⟩
  have M2 := Lib.hid (M1.out.trans m2)
  clear m2 HG
  cases hg : greatB clen acts
  case true =>
    go_wp2_with fail
    go_ret
    exact ⟨rfl, M2.out⟩
  have HGB := Lib.hid hg
  have hcl : clen ≤ 250 := by unfold greatB at hg; simp at hg; omega
  have hal : alen ≤ 25 := by have := HA.out.n; unfold greatB at hg; simp at hg; omega
  clear hg
  have HN := Lib.hid (new_any w2 ca clen ccap l (HC.out.grown M2.out) (by omega))
  go_wp2_with fail
  refine HN.out.mono ?_
  rintro e w3 ⟨m3, hbad, hgood⟩
  have M3 := Lib.hid (M2.out.trans m3)
  by_cases hne0 : ¬ newE l = 0
  · have hne := hne0
    obtain ⟨E, hE⟩ : ∃ E, E = newE l := ⟨_, rfl⟩
    rw [hbad hne, ← hE]
    rw [← hE] at hne
    have hne2 : (E == 0) = false := by simpa using hne
    clear hE hbad hgood m3 HN hne0
    go_wp2_with fail
    go_ret
    exact ⟨rfl, M3.out⟩
  have hne : newE l = 0 := Classical.not_not.1 hne0
  clear hne0
  obtain ⟨D, rfl, hdoc⟩ := hgood hne
  have hz2 := M2.out.size
  have HD := Lib.hid hdoc
  have HNE := Lib.hid hne
  have HP := Lib.hid (put_any w3 _ D l 9 i i hdoc (by rw [HCN.out]; omega))
  clear hdoc hne hbad hgood m3 HN
  go_wp2_with fail
  refine HP.out.mono ?_
  rintro e w4 ⟨rfl, m4⟩
  have M4 := Lib.hid (M3.out.trans m4)
  have D4 := Lib.hid (HD.out.grown m4)
  clear m4 HP
  cases hgb : gapBad l i
  case true =>
    have hpv : putV l 9 i i = .tuple #[.agg #[.int .i64 0, .int .i64 0, .int .i64 0], .int .i64 3] := by
      unfold putV; rw [if_pos (by decide), hgb]; rfl
    rw [hpv]
    have hgb' : decide (i < 0) = true ∨ (decide (i < 0) = false ∧ decide ((liveN l : Int) < i) = true) := by
      unfold gapBad at hgb
      cases h : decide (i < 0) <;> simp_all
    have HL := Lib.hid (rlive_any (w4.alloc (.cells #[.int .i64 0, .int .i64 0, .int .i64 0] 66)) ca clen ccap l (HC.out.grown (M4.out.alloc _)))
    clear hpv hgb
    rcases hgb' with h1 | ⟨h1, h2⟩
    · go_wp2_with fail
      go_ret
      exact ⟨rfl, M4.out.alloc _⟩
    · go_wp2_with fail
      refine HL.out.mono ?_
      rintro e w5 ⟨rfl, m5⟩
      have M5 := Lib.hid ((M4.out.alloc _).trans m5)
      clear m5
      go_wp2_with fail
      go_ret
      exact ⟨rfl, M5.out⟩
  have hpv : putV l 9 i i = .tuple #[.agg #[.int .i64 9, .int .i64 (gapN l i), .int .i64 (gapN l i)], .int .i64 0] := by
    unfold putV; rw [if_pos (by decide), hgb]; rfl
  obtain ⟨hg1, hg2⟩ := gapN_le hgb
  obtain ⟨G, hG⟩ : ∃ G : Nat, gapN l i = G := ⟨(gapN l i).toNat, by omega⟩
  rw [hpv, hG]
  rw [hG, HCN.out] at hg2
  clear hpv hgb hg1 hG
  go_upto_if 57 with (fail)
  have hcok : ∀ c ∈ l, cellOk c = true := by
    have h := HNE.out
    unfold newE at h
    by_cases h1 : l.all cellOk = true
    · exact List.all_eq_true.1 h1
    · rw [if_neg h1] at h; omega
  have hcl0 : Cl l := by
    have h := HNE.out
    unfold newE at h
    by_cases h1 : l.all cellOk = true
    · rw [if_pos h1] at h
      by_cases h2 : (l.map CellV.id).Nodup
      · exact ⟨h2, HC.out.ok, by rw [HCN.out]; omega⟩
      · rw [if_neg h2] at h; omega
    · rw [if_neg h1] at h; omega
  obtain ⟨W5, hW5⟩ : ∃ W5, (w4.alloc (.cells #[.int .i64 9, .int .i64 (G : Int), .int .i64 (G : Int)] 66)).alloc (.cells #[.int .i64 0, .int .i64 0] 33) = W5 := ⟨_, rfl⟩
  have m5 : Mod none_ w4 W5 := by rw [← hW5]; exact ((Mod.refl none_ w4).alloc _).alloc _
  obtain ⟨KM, hKM⟩ : ∃ KM, KM = w4.heap.size := ⟨_, rfl⟩
  have kM : Blk W5 KM [.int .i64 9, .int .i64 (G : Int), .int .i64 (G : Int)] 66 := by
    rw [← hW5, hKM]
    exact (Blk.new (w := w4) (cs := [.int .i64 9, .int .i64 (G : Int), .int .i64 (G : Int)]) (t := 66)).mod ((Mod.refl none_ _).alloc _) (fun e => e)
  have kN : Blk W5 (KM + 1) [.int .i64 0, .int .i64 0] 33 := by
    have := Blk.new (w := w4.alloc (.cells #[.int .i64 9, .int .i64 (G : Int), .int .i64 (G : Int)] 66)) (cs := [.int .i64 0, .int .i64 0]) (t := 33)
    rw [World.size_alloc] at this
    rw [← hW5, hKM]
    exact this
  have hz5 : W5.heap.size = KM + 2 := by rw [← hW5, hKM]; simp
  have hlo : w.heap.size ≤ KM := by have := M4.out.size; omega
  have hdoc5 : ∃ S, DocS W5 S D l ∧ ∀ k, S k → w.heap.size ≤ k ∧ ¬ (k = KM ∨ k = KM + 1) := by
    refine ⟨fun k => w2.heap.size ≤ k ∧ k < KM, (D4.out.s.mono (fun k hk hs => ⟨hs, by omega⟩)).grown m5, fun k hk => ⟨by omega, by omega⟩⟩
  have M5 := Lib.hid (M4.out.trans m5)
  have KM5 := Lib.hid kM
  have KN5 := Lib.hid kN
  have HD5 := Lib.hid hdoc5
  have CL := Lib.hid hcl0
  have COK := Lib.hid hcok
  rw [hW5]
  rw [← hKM]
  clear hKM hW5 m5 hdoc5 hcl0 hcok HD D4 M4 hz2
  have a1 := kM.cell 1
  simp only [List.getElem?_cons_zero, List.getElem?_cons_succ] at a1
  go_cut [11] from 58 to 71 (fun s11 wx => ∃ (f s q p : Int), s11 = .int .i64 f ∧ RowKit.Hid (StaI w (fun k => k = KM ∨ k = KM + 1) wx D KM (KM + 1) s q f p l))
  case first =>
    have ST0 := Lib.hid (fun (h0 : G = 0) => ({ m := M5.out, doc := HD5.out, ex := fun k hk => by omega, em := .inl rfl, en := .inr rfl, km := by have := KM5.out; rw [h0] at this; exact this, kn := KN5.out, lo := hlo, ap := by omega, cl := CL.out, at_ := .inl ⟨rfl, rfl⟩ } : StaI w (fun k => k = KM ∨ k = KM + 1) W5 D KM (KM + 1) 0 0 (-1) 0 l))
    by_cases hG0 : G = 0
    · subst hG0
      go_wp2_with fail
      go_meet
      case rel => exact ⟨-1, 0, 0, 0, rfl, Lib.hid (ST0.out trivial)⟩
    · obtain ⟨n, rfl⟩ : ∃ n, G = n + 1 := ⟨G - 1, by omega⟩
      obtain ⟨c, hx⟩ : ∃ x, l[n]? = some x := ⟨l[n]'(by rw [HCN.out]; omega), by simp⟩
      obtain ⟨b, off, rfl, hr⟩ := (HC.out.grown M5.out).cells n c hx
      have c0 := hr 0 _ rfl
      have c1 := hr 1 _ rfl
      have c2 := hr 2 _ rfl
      rw [Nat.add_zero] at c0
      have hcm := COK.out c (List.mem_of_getElem? hx)
      have hoff : 0 ≤ c.off := by unfold cellOk at hcm; simp at hcm; omega
      have n0 := kN.cell 0
      have n1 := kN.cell 1
      have r0 := kN.frozen 0
      have r1 := kN.frozen 1
      simp only [List.getElem?_cons_zero, List.getElem?_cons_succ] at n0 n1
      have ST1 : StaI w (fun k => k = KM ∨ k = KM + 1) (((W5.setCell ⟨KM + 1, 0, none⟩ (.int .i64 c.site)).setCell ⟨KM + 1, 1, none⟩ (.int .i64 c.seq)).drew) D KM (KM + 1) c.site c.seq c.off ((n : Int) + 1) l := by
        have MN : Mod (one (KM + 1)) W5 (((W5.setCell ⟨KM + 1, 0, none⟩ (.int .i64 c.site)).setCell ⟨KM + 1, 1, none⟩ (.int .i64 c.seq)).drew) := (((Mod.refl (one (KM + 1)) W5).setCell ⟨KM + 1, 0, none⟩ (fun _ => rfl) _).setCell ⟨KM + 1, 1, none⟩ (fun _ => rfl) _).drew
        obtain ⟨S, hS1, hS2⟩ := HD5.out
        exact { m := M5.out.transIn MN (fun b hb e => by have e' : b = KM + 1 := e; omega), doc := ⟨S, hS1.mod MN (fun k hk e => (hS2 k hk).2 (.inr e)), hS2⟩, ex := fun k hk => Nat.lt_of_lt_of_le (by omega) MN.size, em := .inl rfl, en := .inr rfl, km := by have := KM5.out.mod MN (fun e => by have e' : KM = KM + 1 := e; omega); rwa [Int.natCast_add] at this, kn := ((KN5.out.set 0 (.int .i64 c.site)).set 1 (.int .i64 c.seq)).drew, lo := hlo, ap := by omega, cl := CL.out, at_ := .inr ⟨hoff, n, c, hx, rfl, rfl, rfl, rfl⟩ }
      have ST1 := Lib.hid ST1
      clear hx hr hcm hoff kM kN ST0
      rw [Int.natCast_add] at a1
      have hw2 : IntKind.i64.wrap (n : Int) = n := by rw [IntKind.wrap_i64]; omega
      have hnl : n < clen := by omega
      go_wp2_with fail
      go_region_law (fail)
      all_goals (try go_wp2_with fail)
      all_goals go_meet
      all_goals exact ⟨c.off, c.site, c.seq, (n : Int) + 1, rfl, ST1⟩
  case rest =>
    obtain ⟨f, s, q, p, rfl, hst⟩ := hcut
    obtain ⟨E0, hE0⟩ : ∃ E0 : Nat → Prop, E0 = fun k => k = KM ∨ k = KM + 1 := ⟨_, rfl⟩
    rw [← hE0] at hst
    have hfr : f = -1 ∨ 0 ≤ f := by rcases hst.out.at_ with ⟨h, _⟩ | ⟨h, _⟩; exact .inl h; exact .inr h
    have HAN := Lib.hid HA.out.n
    clear hE0 a1 kM kN M5 KM5 KN5 HD5 CL COK hz5 HNE
    go_wp2_with fail
    go_loopg [12] alen (fun g s12 wx => ∃ (k : Nat) (p : Int) (L : List CellV), g = alen - k ∧ s12 = .int .i64 k ∧ k ≤ alen ∧ RowKit.Hid (StaI w E0 wx D KM (KM + 1) s q f p L))
    case atStart => exact ⟨0, p, l, rfl, rfl, Nat.zero_le _, hst⟩
    case round =>
      obtain ⟨k, p, L, rfl, rfl, hk, hst⟩ := hrel
      by_cases hlk : k < alen
      · obtain ⟨x, hx⟩ : ∃ x, acts[k]? = some x := ⟨acts[k]'(by rw [HAN.out]; exact hlk), by simp⟩
        have HAX := HA.out.grown hst.out.m
        obtain ⟨b, off, rfl, _, hr⟩ := HAX.acts k x hx
        have hmem := List.mem_of_getElem? hx
        have hbig : bigOp x.o = false := by
          have h := HGB.out
          unfold greatB at h
          simp only [Bool.or_eq_false_iff] at h
          have := List.any_eq_false.1 h.2 x hmem
          simpa using this
        have hsz : x.o.text.size ≤ 1000 := by unfold bigOp at hbig; simp at hbig; omega
        have hok : x.o.ok w x.sp := (HA.out.ok x hmem).1.ok (by omega)
        have OK := Lib.hid hok
        have c0 := hr 0 _ rfl
        have c1 := hr 1 _ rfl
        have c2 := hr 2 _ rfl
        have c3 := hr 3 _ rfl
        have c4 := hr 4 _ rfl
        have c5 := hr 5 _ rfl
        have c6 := hr 6 _ rfl
        rw [Nat.add_zero] at c0
        obtain ⟨o, ho⟩ : ∃ o, o = x.o := ⟨_, rfl⟩
        obtain ⟨sp, hsp⟩ : ∃ sp, sp = x.sp := ⟨_, rfl⟩
        rw [← ho] at c0 c1 c2 c3 c4 c5 c6 hsz OK
        rw [← hsp] at OK
        clear hr hx HAX hmem hbig hok ho hsp
        obtain ⟨X, hX⟩ : ∃ X, X = wr.heap.size := ⟨_, rfl⟩
        obtain ⟨W6, hW6⟩ : ∃ W6, wr.alloc (.cells o.cs.toArray 36) = W6 := ⟨_, rfl⟩
        have m6 : Mod none_ wr W6 := by rw [← hW6]; exact (Mod.refl none_ wr).alloc _
        have k6 : Blk W6 X o.cs 36 := by rw [← hW6, hX]; exact Blk.new
        have s6 := hst.out.box m6
        have hz6 : W6.heap.size = X + 1 := by rw [← hW6, hX]; simp
        have SB := Lib.hid s6
        have ST := Lib.hid (hst.out.grown m6)
        have K6 := Lib.hid k6
        have HX := Lib.hid hX
        have HZ6 := Lib.hid hz6
        clear s6 m6 hst hz6
        go_upto_region 19 with (fail)
        rw [← hX]
        clear hW6 hX c0 c1 c2 c3 c4 c5 c6
        have d0 := k6.cell 0
        have d1 := k6.cell 1
        have d2 := k6.cell 2
        have d3 := k6.cell 3
        have d4 := k6.cell 4
        have d5 := k6.cell 5
        have d6 := k6.cell 6
        simp only [OpV.cs, List.getElem?_cons_zero, List.getElem?_cons_succ] at d0 d1 d2 d3 d4 d5 d6
        clear k6
        by_cases h9 : o.site = 9
        · have h9b : (o.site == 9) = true := by simp [h9]
          go_wp2_with fail
          go_roundg (alen - (k + 1))
          all_goals first
            | omega
            | exact ⟨k + 1, p, L, rfl, by go_num, by omega, ST⟩
        · have h9b : (o.site == 9) = false := by simp [h9]
          go_wp2_with fail
          refine (size_any W6 0 D L SB.out.is (by have := SB.out.cl.big; omega)).mono ?_
          rintro e w7 ⟨rfl, m7⟩
          have SB7 := Lib.hid (SB.out.grown m7)
          have k7 := K6.out.mod m7 (fun e => e)
          have K7 := Lib.hid k7
          have hzx : X < w7.heap.size := k7.lt
          clear d0 d1 d2 d3 d4 d5 d6 m7 SB K6
          have d0 := k7.cell 0
          have d1 := k7.cell 1
          have d2 := k7.cell 2
          have d3 := k7.cell 3
          have d4 := k7.cell 4
          have d5 := k7.cell 5
          have d6 := k7.cell 6
          simp only [OpV.cs, List.getElem?_cons_zero, List.getElem?_cons_succ] at d0 d1 d2 d3 d4 d5 d6
          clear k7
          go_wp2_with fail
          refine (SB7.out.do_ o sp OK.out (by omega)).mono ?_
          rintro e w8 ⟨rfl, hD⟩
          have DD := Lib.hid hD
          clear hD d0 d1 d2 d3 d4 d5 d6
          by_cases he : doE o sp L = 0
          · have HE := Lib.hid he
            rw [he]
            have hle := SB7.out.cl.big
            obtain ⟨hp0, hp1⟩ := SB7.out.range
            have HMV := Lib.hid (move_any o 9 p p L.length w8 sp (OK.out.grown DD.out.m) (by simp [inB]; omega) (doE_zero he).1 (by simp [markOk, inB]; omega))
            have hbn : (o.site != 9) = true := by simp [bne, h9b]
            rw [hbn] at HMV
            obtain ⟨A, hA⟩ : ∃ A, A = movP o p true := ⟨_, rfl⟩
            rw [← hA] at HMV
            have HAE := Lib.hid hA
            have k8 := DD.out.bs X _ _ (.inr ⟨by have := HX.out; omega, by have := HZ6.out; omega⟩) K7.out
            have km8 := DD.out.bs _ _ _ SB7.out.em SB7.out.km
            have d0 := k8.cell 0
            have d1 := k8.cell 1
            have d2 := k8.cell 2
            have d3 := k8.cell 3
            have d4 := k8.cell 4
            have d5 := k8.cell 5
            have d6 := k8.cell 6
            have a0 := km8.cell 0
            have a1 := km8.cell 1
            have a2 := km8.cell 2
            simp only [OpV.cs, List.getElem?_cons_zero, List.getElem?_cons_succ] at d0 d1 d2 d3 d4 d5 d6 a0 a1 a2
            have KM8 := Lib.hid km8
            clear he hA k8 km8 hbn h9b
            go_wp2_with fail
            refine HMV.out.mono ?_
            rintro e w9 ⟨rfl, m9⟩
            have mA := m9.alloc (.cells #[.int .i64 9, .int .i64 A, .int .i64 A] 66)
            have kA := Blk.new (w := w9) (cs := [.int .i64 9, .int .i64 A, .int .i64 A]) (t := 66)
            have km9 := KM8.out.mod mA (fun e => e)
            have MA := Lib.hid mA
            clear d0 d1 d2 d3 d4 d5 d6 a0 a1 a2 mA m9 HMV
            go_upto_region 23 with (fail)
            generalize w9.alloc (.cells #[.int .i64 9, .int .i64 A, .int .i64 A] 66) = wA at kA km9 MA ⊢
            obtain ⟨Y, hY⟩ : ∃ Y, Y = w9.heap.size := ⟨_, rfl⟩
            rw [← hY] at kA ⊢
            clear hY
            have a0 := kA.cell 0
            have a1 := kA.cell 1
            have a2 := kA.cell 2
            have b0 := km9.cell 0
            have b1 := km9.cell 1
            have b2 := km9.cell 2
            have r0 := km9.frozen 0
            have r1 := km9.frozen 1
            have r2 := km9.frozen 2
            simp only [List.getElem?_cons_zero, List.getElem?_cons_succ] at a0 a1 a2 b0 b1 b2
            have SP := Lib.hid (DD.out.put SB7.out HE.out MA.out)
            rw [← HAE.out] at SP
            clear kA km9
            go_upto_region 26 with (fail)
            generalize ((wA.setCell ⟨KM, 0, none⟩ (.int .i64 9)).setCell ⟨KM, 1, none⟩ (.int .i64 A)).setCell ⟨KM, 2, none⟩ (.int .i64 A) = wB at SP ⊢
            have SL := Lib.hid (SP.out.less (E' := E0) (fun k hk => .inl hk) ST.out.em ST.out.en)
            clear a0 a1 a2 b0 b1 b2 r0 r1 r2 ST DD SB7
            rcases hfr with rfl | hf0
            · have hA0 : A = 0 := by
                rcases SL.out.at_ with ⟨_, h⟩ | ⟨h, _⟩
                · exact h
                · omega
              have b1 := SL.out.km.cell 1
              simp only [List.getElem?_cons_zero, List.getElem?_cons_succ] at b1
              rw [hA0] at b1
              clear hA0
              go_wp2_with fail
              go_roundg (alen - (k + 1))
              all_goals first
                | omega
                | exact ⟨k + 1, A, doL o sp L, rfl, by go_num, by omega, SL⟩
            · have hbh : behind s q f (doL o sp L) A := by
                rcases SL.out.at_ with ⟨h, _⟩ | ⟨_, h⟩
                · omega
                · exact h
              have hfv := hbh.find SL.out.cl.ids
              obtain ⟨n, hAn⟩ : ∃ n : Nat, A = (n : Int) + 1 := by
                obtain ⟨n, _, _, _, _, _, h⟩ := hbh
                exact ⟨n, h⟩
              have hnb : n ≤ 20000 := by have := SL.out.cl.big; have := SL.out.range; omega
              have e1 : A - 1 = (n : Int) := by omega
              rw [e1] at hfv
              have HFD : RowKit.Hid (Calls Tryd.prog 30 #[.pointer (some ⟨D, 0, none⟩), .agg #[.int .i64 s, .int .i64 q], .int .i64 f] wB fun e w' => e = .returned (.tuple #[.int .i64 (n : Int), .bool true]) ∧ Mod none_ wB w') := by
                obtain ⟨S, hS, _⟩ := SL.out.doc
                have := find_doc wB S D _ s q f hS (by have := SL.out.cl.big; omega)
                rw [hfv] at this
                exact Lib.hid this
              have n0 := SL.out.kn.cell 0
              have n1 := SL.out.kn.cell 1
              simp only [List.getElem?_cons_zero, List.getElem?_cons_succ] at n0 n1
              have hfd : decide (0 ≤ f) = true := by simpa using hf0
              have HAN2 := Lib.hid hAn
              clear hbh hfv e1 hAn
              go_wp2_with fail
              refine HFD.out.mono ?_
              rintro e wC ⟨rfl, mC⟩
              have SC := Lib.hid (SL.out.grown mC)
              have b1 := SC.out.km.cell 1
              simp only [List.getElem?_cons_zero, List.getElem?_cons_succ] at b1
              rw [HAN2.out] at b1
              clear mC n0 n1 HFD
              go_wp2_with fail
              go_roundg (alen - (k + 1))
              all_goals first
                | omega
                | exact ⟨k + 1, A, doL o sp L, rfl, by go_num, by omega, SC⟩
          · have hsame := doL_same he
            have STS := Lib.hid ((StaD.same SB7.out (by have := DD.out; rw [hsame] at this; exact this)).less (E' := E0) (fun k hk => .inl hk) ST.out.em ST.out.en)
            obtain ⟨E8, hE8⟩ : ∃ E8, E8 = doE o sp L := ⟨_, rfl⟩
            rw [← hE8] at he ⊢
            have he2 : (E8 == 0) = false := by simpa using he
            clear hE8 hsame DD
            go_wp2_with fail
            go_roundg (alen - (k + 1))
            all_goals first
              | omega
              | exact ⟨k + 1, p, L, rfl, by go_num, by omega, STS⟩
      · obtain rfl : k = alen := by omega
        have MF := Lib.hid hst.out.m
        clear hst
        go_wp2_with fail
        go_ret
        exact ⟨rfl, MF.out⟩
end Go.Proofs.YtlbkalbelefhmaaDoor

namespace Go.Mine
open Go.RowKit Go.ChangeShapes Go.WideShapes Go.Deep

section
variable {H : Type} {enc : TypeId × Value → H} {P : Program} {w : World} {base : Nat} {spare : Nat → Bool} {held : Bool}

/-- What is known of a slice of structs that came in: nil, or a row in which each field of each element reads by its type. -/
theorem slice_of_structs {t e : TypeId} {fs : Array Field} {fuel : Nat} {cs : List Value} {x : DataW H × List MemPlace} (ht : P.underlying t = some (.slice e)) (he : P.underlying e = some (.struct fs))
    (hone : oneCellFields P fs = true) (hC : P.cellsOf e = fs.size) (h : DataW.trod enc P w base spare held fuel t cs = some x) :
    cs = [.slice none 0 0] ∨
    ∃ (a : Addr) (len cap : Nat), cs = [.slice (some a) len cap] ∧ len ≤ cap ∧ cap ≤ maxLen ∧
      ∀ i, i < len → ∀ (j : Nat) (f : Field), fs[j]? = some f → ∃ (v : Value) (y : DataW H × List MemPlace) (n : Nat), w.cell? (a.add (i * fs.size + j)) = some v ∧ DataW.trod enc P w base spare held n f.type [v] = some y := by
  rcases open_slice ht h with ⟨h0, _⟩ | ⟨a, len, cap, m, n, D, Pl, hcs, _, hl, hm, hmm, _, hi⟩
  · exact .inl h0
  refine .inr ⟨a, len, cap, hcs, hl, hm, fun i hil j f hj => ?_⟩
  have him : i < m := by rw [hmm]; split <;> omega
  obtain ⟨cells, hc, hr⟩ := hi i him
  rw [hC] at hc
  obtain ⟨_, hlen, hat⟩ := World.cells?_some hc
  obtain ⟨ys, n', _, _, _, hyl, hf⟩ := DataW.trod_struct he hr
  obtain ⟨ho, hk⟩ := hone_of hone j f hj
  have hjs : j < fs.size := (Array.getElem?_eq_some_iff.1 hj).1
  have hfj := hf j f hj
  rw [ho, hk, List.drop_eq_getElem_cons (by omega)] at hfj
  have hy : ys[j]? = some ys[j] := List.getElem?_eq_getElem (by omega)
  refine ⟨cells[j], ys[j], n', ?_, hfj.trans hy⟩
  rw [← Go.Deep.add_add, hat j hjs]
  exact List.getElem?_eq_getElem _

theorem nat_of_u8 {n : Int} (h : (Lit.int .u8 n).wf = true) : 0 ≤ n ∧ n ≤ 255 := by
  have := bounds_u8 h; omega
end
end Go.Mine

namespace Go.Proofs.YtlbkalbelefhmaaDoor
open Go.ChangeShapes Go.WideShapes Go.ChangeAt Go.RowKit Go.Mine Go.Deep

set_option maxRecDepth 100000
section
variable {H : Type} {enc : TypeId × Value → H} {w : World} {base : Nat} {sp : Nat → Bool} {held : Bool}

theorem szOp : Tryd.prog.cellsOf 36 = 7 := by kernel_rfl
theorem szKind : Tryd.prog.cellsOf 5 = 1 := by kernel_rfl
theorem szCell : Tryd.prog.cellsOf 63 = 5 := by kernel_rfl
theorem szName : Tryd.prog.cellsOf 33 = 2 := by kernel_rfl
theorem szInt : Tryd.prog.cellsOf 3 = 1 := by kernel_rfl
theorem szRune : Tryd.prog.cellsOf 21 = 1 := by kernel_rfl
theorem szBool : Tryd.prog.cellsOf 4 = 1 := by kernel_rfl
theorem szString : Tryd.prog.cellsOf 9 = 1 := by kernel_rfl
theorem szSpans : Tryd.prog.cellsOf 34 = 1 := by kernel_rfl

theorem name_of {n : Nat} {a b : Value} {y : DataW H × List MemPlace} (h : DataW.trod enc Tryd.prog w base sp held n 33 [a, b] = some y) :
    ∃ s q : Int, a = .int .i64 s ∧ b = .int .i64 q ∧ (-9223372036854775808 ≤ s ∧ s ≤ 9223372036854775807) ∧ (-9223372036854775808 ≤ q ∧ q ≤ 9223372036854775807) := by
  obtain ⟨ys, m, _, _, _, hyl, hf⟩ := DataW.trod_struct Tryd.underlying33 h
  obtain ⟨y0, y1, rfl⟩ : ∃ y0 y1, ys = [y0, y1] := by
    match ys, (show ys.length = 2 from hyl) with
    | [y0, y1], _ => exact ⟨y0, y1, rfl⟩
  have h0 := hf 0 _ rfl
  have h1 := hf 1 _ rfl
  simp only [List.getElem_toArray, List.getElem_cons_zero, List.getElem_cons_succ, szInt, List.drop_zero, List.drop_succ_cons, List.take_succ_cons, List.take_zero, List.getElem?_cons_zero, List.getElem?_cons_succ] at h0 h1
  obtain ⟨s, e0, _, w0⟩ := DataW.trod_int Tryd.underlying3 h0
  obtain ⟨q, e1, _, w1⟩ := DataW.trod_int Tryd.underlying3 h1
  simp only [List.cons.injEq, and_true] at e0 e1
  exact ⟨s, q, e0, e1, bounds_i64 w0, bounds_i64 w1⟩

theorem cell_of {n : Nat} {cells : List Value} {y : DataW H × List MemPlace} (h : DataW.trod enc Tryd.prog w base sp held n 63 cells = some y) :
    ∃ c : CellV, cells = c.cs ∧ c.ok := by
  obtain ⟨ys, m, _, _, hl, hyl, hf⟩ := DataW.trod_struct Tryd.underlying63 h
  rw [szCell] at hl
  obtain ⟨a, b, c, d, e, rfl⟩ : ∃ a b c d e, cells = [a, b, c, d, e] := by
    match cells, hl with
    | [a, b, c, d, e], _ => exact ⟨a, b, c, d, e, rfl⟩
  obtain ⟨y0, y1, y2, y3, rfl⟩ : ∃ y0 y1 y2 y3, ys = [y0, y1, y2, y3] := by
    match ys, (show ys.length = 4 from hyl) with
    | [y0, y1, y2, y3], _ => exact ⟨y0, y1, y2, y3, rfl⟩
  have h0 := hf 0 _ rfl
  have h1 := hf 1 _ rfl
  have h2 := hf 2 _ rfl
  have h3 := hf 3 _ rfl
  simp only [List.getElem_toArray, List.getElem_cons_zero, List.getElem_cons_succ, szName, szInt, szRune, szBool, List.drop_zero, List.drop_succ_cons, List.take_succ_cons, List.take_zero, List.getElem?_cons_zero, List.getElem?_cons_succ] at h0 h1 h2 h3
  obtain ⟨s, q, rfl, rfl, hs, hq⟩ := name_of h0
  obtain ⟨f, e1, _, w1⟩ := DataW.trod_int Tryd.underlying3 h1
  obtain ⟨r, e2, _, w2⟩ := DataW.trod_int Tryd.underlying21 h2
  obtain ⟨g, e3, _⟩ := DataW.trod_bool Tryd.underlying4 h3
  simp only [List.cons.injEq, and_true] at e1 e2 e3
  subst e1 e2 e3
  exact ⟨⟨s, q, f, r, g⟩, rfl, hs, hq, bounds_i64 w1, bounds_i32 w2⟩

/-- A slice of structs of k cells: what each element's cells read as. -/
theorem slice_elems {t e : TypeId} {k fuel : Nat} {cs : List Value} {x : DataW H × List MemPlace} (ht : Tryd.prog.underlying t = some (.slice e)) (hk : Tryd.prog.cellsOf e = k) (h0k : 0 < k) (h : DataW.trod enc Tryd.prog w base sp held fuel t cs = some x) :
    ∃ (a : Option Addr) (len cap : Nat), cs = [.slice a len cap] ∧ len ≤ cap ∧ cap ≤ maxLen ∧
      ∀ i, i < len → ∃ (b off : Nat) (cells : List Value) (y : DataW H × List MemPlace) (n : Nat), a = some ⟨b, off, none⟩ ∧ cells.length = k ∧ w.rangeAt b (off + i * k) cells ∧ DataW.trod enc Tryd.prog w base sp held n e cells = some y := by
  rcases DataW.trod_slice ht h with ⟨h0, _⟩ | ⟨a, len, cap, elems, rest, n, _, hcs, _, _, hl, hm, hlen, hel, _, _⟩
  · exact ⟨none, 0, 0, h0, Nat.le_refl _, Nat.zero_le _, fun i hi => absurd hi (Nat.not_lt_zero _)⟩
  · rw [hk] at hel
    refine ⟨some a, len, cap, hcs, hl, hm, fun i hi => ?_⟩
    obtain ⟨b, off, spot⟩ := a
    have hspot : spot = none := by
      have h1 := hel 0 (by omega)
      rw [List.getElem?_eq_getElem (by omega)] at h1
      obtain ⟨cells, hc, hr⟩ := Option.bind_eq_some_iff.1 h1
      obtain ⟨_, hlen, hat⟩ := World.cells?_some hc
      have := hat 0 h0k
      rw [List.getElem?_eq_getElem (by omega)] at this
      have := World.cell?_spot this
      simpa [Addr.add] using this
    subst hspot
    have h1 := hel i hi
    rw [List.getElem?_eq_getElem (by omega)] at h1
    obtain ⟨cells, hc, hr⟩ := Option.bind_eq_some_iff.1 h1
    obtain ⟨_, hlen, hat⟩ := World.cells?_some hc
    refine ⟨b, off, cells, _, n, rfl, hlen, fun j v hv => ?_, hr⟩
    have hj : j < k := by have := (List.getElem?_eq_some_iff.1 hv).1; omega
    have := hat j hj
    rw [hv] at this
    simpa only [Addr.add_lit] using this

theorem read_cells {fuel : Nat} {a : Option Addr} {len cap : Nat} {x : DataW H × List MemPlace} (h : DataW.trod enc Tryd.prog w base sp held fuel 22 [.slice a len cap] = some x) : ∃ l, IsCells w a len cap l := by
  obtain ⟨a', len', cap', hcs, hl, hm, hf⟩ := slice_elems Tryd.underlying22 szCell (by decide) h
  simp only [List.cons.injEq, Value.slice.injEq, and_true] at hcs
  obtain ⟨rfl, rfl, rfl⟩ := hcs
  have key : ∀ i, i < len → ∃ c : CellV, c.ok ∧ ∃ b off, a = some ⟨b, off, none⟩ ∧ w.rangeAt b (off + i * 5) c.cs := by
    intro i hi
    obtain ⟨b, off, cells, y, n, e, _, hr, ht⟩ := hf i hi
    obtain ⟨c, rfl, hc⟩ := cell_of ht
    exact ⟨c, hc, b, off, e, hr⟩
  obtain ⟨f, hfk⟩ := Classical.axiomOfChoice (fun i : Fin len => key i.1 i.2)
  refine ⟨List.ofFn f, by simp, hl, hm, ?_, ?_⟩
  · intro y hy
    obtain ⟨i, rfl⟩ := List.mem_ofFn.1 hy
    exact (hfk i).1
  · intro i y hy
    have hi : i < len := by have := (List.getElem?_eq_some_iff.1 hy).1; simpa using this
    have : y = f ⟨i, hi⟩ := by
      rw [List.getElem?_eq_getElem (by simpa using hi)] at hy
      simp at hy; exact hy.symm
    subst this
    exact (hfk ⟨i, hi⟩).2

theorem szSpan : Tryd.prog.cellsOf 82 = 2 := by kernel_rfl
theorem read_spans {fuel : Nat} {a : Option Addr} {len cap : Nat} {x : DataW H × List MemPlace} (h : DataW.trod enc Tryd.prog w base sp held fuel 34 [.slice a len cap] = some x) : ∃ l, IsSpans w a len cap l := by
  obtain ⟨a', len', cap', hcs, hl, hm, hf⟩ := slice_elems Tryd.underlying34 szSpan (by decide) h
  simp only [List.cons.injEq, Value.slice.injEq, and_true] at hcs
  obtain ⟨rfl, rfl, rfl⟩ := hcs
  have key : ∀ i, i < len → ∃ y : Int × Int, ((-9223372036854775808 ≤ y.1 ∧ y.1 ≤ 9223372036854775807) ∧ (-9223372036854775808 ≤ y.2 ∧ y.2 ≤ 9223372036854775807)) ∧ ∃ b off, a = some ⟨b, off, none⟩ ∧ w.cell? ⟨b, off + i * 2, none⟩ = some (.int .i64 y.1) ∧ w.cell? ⟨b, off + i * 2 + 1, none⟩ = some (.int .i64 y.2) := by
    intro i hi
    obtain ⟨b, off, cells, y, n, e, hlen, hr, ht⟩ := hf i hi
    obtain ⟨u, v, rfl⟩ : ∃ u v, cells = [u, v] := by
      match cells, hlen with
      | [u, v], _ => exact ⟨u, v, rfl⟩
    obtain ⟨ys, m, _, _, _, hyl, hg⟩ := DataW.trod_struct Tryd.underlying82 ht
    obtain ⟨y0, y1, rfl⟩ : ∃ y0 y1, ys = [y0, y1] := by
      match ys, (show ys.length = 2 from hyl) with
      | [y0, y1], _ => exact ⟨y0, y1, rfl⟩
    have h0 := hg 0 _ rfl
    have h1 := hg 1 _ rfl
    simp only [List.getElem_toArray, List.getElem_cons_zero, List.getElem_cons_succ, szInt, List.drop_zero, List.drop_succ_cons, List.take_succ_cons, List.take_zero, List.getElem?_cons_zero, List.getElem?_cons_succ] at h0 h1
    obtain ⟨s, e0, _, w0⟩ := DataW.trod_int Tryd.underlying3 h0
    obtain ⟨q, e1, _, w1⟩ := DataW.trod_int Tryd.underlying3 h1
    simp only [List.cons.injEq, and_true] at e0 e1
    subst e0 e1
    exact ⟨(s, q), ⟨bounds_i64 w0, bounds_i64 w1⟩, b, off, e, hr 0 _ rfl, hr 1 _ rfl⟩
  obtain ⟨f, hfk⟩ := Classical.axiomOfChoice (fun i : Fin len => key i.1 i.2)
  refine ⟨List.ofFn f, by simp, hl, hm, ?_, ?_⟩
  · intro y hy
    obtain ⟨i, rfl⟩ := List.mem_ofFn.1 hy
    exact (hfk i).1
  · intro i y hy
    have hi : i < len := by have := (List.getElem?_eq_some_iff.1 hy).1; simpa using this
    have : y = f ⟨i, hi⟩ := by
      rw [List.getElem?_eq_getElem (by simpa using hi)] at hy
      simp at hy; exact hy.symm
    subst this
    exact (hfk ⟨i, hi⟩).2

theorem szAct : Tryd.prog.cellsOf 38 = 8 := by kernel_rfl
theorem op_of {n : Nat} {cells : List Value} {y : DataW H × List MemPlace} (htab : tabsOk w) (h : DataW.trod enc Tryd.prog w base sp held n 36 cells = some y) :
    ∃ (o : OpV) (l : List (Int × Int)), cells = o.cs ∧ o.ok0 w l := by
  obtain ⟨ys, m, _, _, hl, hyl, hf⟩ := DataW.trod_struct Tryd.underlying36 h
  rw [szOp] at hl
  obtain ⟨c0, c1, c2, c3, c4, c5, c6, rfl⟩ : ∃ c0 c1 c2 c3 c4 c5 c6, cells = [c0, c1, c2, c3, c4, c5, c6] := by
    match cells, hl with
    | [c0, c1, c2, c3, c4, c5, c6], _ => exact ⟨c0, c1, c2, c3, c4, c5, c6, rfl⟩
  obtain ⟨y0, y1, y2, y3, y4, y5, rfl⟩ : ∃ y0 y1 y2 y3 y4 y5, ys = [y0, y1, y2, y3, y4, y5] := by
    match ys, (show ys.length = 6 from hyl) with
    | [y0, y1, y2, y3, y4, y5], _ => exact ⟨y0, y1, y2, y3, y4, y5, rfl⟩
  have h0 := hf 0 _ rfl
  have h1 := hf 1 _ rfl
  have h2 := hf 2 _ rfl
  have h3 := hf 3 _ rfl
  have h4 := hf 4 _ rfl
  have h5 := hf 5 _ rfl
  simp only [List.getElem_toArray, List.getElem_cons_zero, List.getElem_cons_succ, szName, szInt, szString, szSpans, List.drop_zero, List.drop_succ_cons, List.take_succ_cons, List.take_zero, List.getElem?_cons_zero, List.getElem?_cons_succ] at h0 h1 h2 h3 h4 h5
  obtain ⟨s, q, rfl, rfl, hs, hq⟩ := name_of h0
  obtain ⟨num, e1, _, w1⟩ := DataW.trod_int Tryd.underlying3 h1
  obtain ⟨kd, e2, _, w2⟩ := DataW.trod_int Tryd.underlying3 h2
  obtain ⟨at_, e3, _, w3⟩ := DataW.trod_int Tryd.underlying3 h3
  obtain ⟨tx, e4, _, w4⟩ := DataW.trod_string Tryd.underlying9 h4
  obtain ⟨a, len, cap, e5, _⟩ := slice_elems Tryd.underlying34 szSpan (by decide) h5
  simp only [List.cons.injEq, and_true] at e1 e2 e3 e4 e5
  subst e1 e2 e3 e4 e5
  obtain ⟨l, hsp⟩ := read_spans h5
  exact ⟨⟨s, q, num, kd, at_, tx, a, len, cap⟩, l, rfl, w4, hsp, fun hsz => { i1 := hs, i2 := hq, i3 := bounds_i64 w1, i4 := bounds_i64 w2, i5 := bounds_i64 w3, tx := .inl htab, sz := hsz, sp := hsp }⟩

theorem read_acts {fuel : Nat} {a : Option Addr} {len cap : Nat} {x : DataW H × List MemPlace} (htab : tabsOk w) (h : DataW.trod enc Tryd.prog w base sp held fuel 23 [.slice a len cap] = some x) : ∃ l, IsActs w a len cap l := by
  obtain ⟨a', len', cap', hcs, hl, hm, hf⟩ := slice_elems Tryd.underlying23 szAct (by decide) h
  simp only [List.cons.injEq, Value.slice.injEq, and_true] at hcs
  obtain ⟨rfl, rfl, rfl⟩ := hcs
  have key : ∀ i, i < len → ∃ c : ActV, (c.o.ok0 w c.sp ∧ 0 ≤ c.k ∧ c.k ≤ 255) ∧ ∃ b off, a = some ⟨b, off, none⟩ ∧ w.cell? ⟨b, off + i * 8, none⟩ = some (.int .u8 c.k) ∧ w.rangeAt b (off + i * 8 + 1) c.o.cs := by
    intro i hi
    obtain ⟨b, off, cells, y, n, e, hlen, hr, ht⟩ := hf i hi
    obtain ⟨u, r, rfl⟩ : ∃ u r, cells = u :: r := by
      match cells, hlen with
      | u :: r, _ => exact ⟨u, r, rfl⟩
    obtain ⟨ys, m, _, _, _, hyl, hg⟩ := DataW.trod_struct Tryd.underlying38 ht
    obtain ⟨y0, y1, rfl⟩ : ∃ y0 y1, ys = [y0, y1] := by
      match ys, (show ys.length = 2 from hyl) with
      | [y0, y1], _ => exact ⟨y0, y1, rfl⟩
    have h0 := hg 0 _ rfl
    have h1 := hg 1 _ rfl
    have hrl : r.length = 7 := by simpa using hlen
    simp only [List.getElem_toArray, List.getElem_cons_zero, List.getElem_cons_succ, szKind, szOp, List.drop_zero, List.drop_succ_cons, List.take_succ_cons, List.take_zero, List.getElem?_cons_zero, List.getElem?_cons_succ] at h0 h1
    rw [List.take_of_length_le (by omega)] at h1
    obtain ⟨kk, e0, _, w0⟩ := DataW.trod_int Tryd.underlying5 h0
    simp only [List.cons.injEq, and_true] at e0
    subst e0
    obtain ⟨o, l, rfl, ho⟩ := op_of htab h1
    refine ⟨⟨kk, o, l⟩, ⟨ho, nat_of_u8 w0⟩, b, off, e, hr 0 _ rfl, fun j v hv => ?_⟩
    have := hr (j + 1) v (by simpa using hv)
    rwa [← Nat.add_assoc, Nat.add_right_comm] at this
  obtain ⟨f, hfk⟩ := Classical.axiomOfChoice (fun i : Fin len => key i.1 i.2)
  refine ⟨List.ofFn f, by simp, hl, hm, ?_, ?_⟩
  · intro y hy
    obtain ⟨i, rfl⟩ := List.mem_ofFn.1 hy
    exact (hfk i).1
  · intro i y hy
    have hi : i < len := by have := (List.getElem?_eq_some_iff.1 hy).1; simpa using this
    have : y = f ⟨i, hi⟩ := by
      rw [List.getElem?_eq_getElem (by simpa using hi)] at hy
      simp at hy; exact hy.symm
    subst this
    exact (hfk ⟨i, hi⟩).2
end
end Go.Proofs.YtlbkalbelefhmaaDoor
