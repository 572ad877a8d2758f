/-
  Texts on which the claim rests, one behind the other: Spl1 Nam1 Do1 Eac1 Ech1 Gon1 Run1 Tex1 Cls1 Drp1 Drp2 Has1 Drp3 Act1 Sen1 Car2 Car3 Car4 Car5 Shn1 Mov1 Car7 Car8 Sta1 Shw1 Nil1.
-/
import Derived.Test.YthicagfeaekmoaaGreatDoorPl2
import Derived.Lib.OthersKept
import Derived.Lib.TrimUEq
import Derived.Outline
import Derived.Deep.LoopGhost
import Derived.BigQuiet

namespace Go.Proofs.YthicagfeaekmoaaGreatDoor
open Go.RowKit Go.Shelf Go.Mine

theorem decodeGo_tl (s : ByteArray) (pos : Nat) (h : pos < s.size) : Lib.decodeGo (tl s pos) = Utf8.decode s pos := by
  have hx : (s.extract pos s.size).data.toList = s.data.toList.drop pos := by
    rw [Lib.extract_data, List.take_of_length_le (by rw [List.length_drop, ← Lib.size_eq]; omega)]
  have hsz : (s.extract pos s.size).size ≠ 0 := by rw [Lib.size_eq, hx, List.length_drop, ← Lib.size_eq]; omega
  unfold Lib.decodeGo tl
  rw [if_neg hsz, ← Lib.decodeL_drop s pos, ← hx]
  rfl

theorem rmay_text (s : ByteArray) (w : World) (ht : txtOk w s) (hsz : s.size < 4611686018427387904) : Calls Tryz.prog 151 #[.string s] w fun e w' => e = .returned (.bool (decide (0 ≤ ulen s))) ∧ Mod none_ w w' := by
  go_enter Tryz.func151, Tryz.ntmps151
  go_wp2_with fail
  refine (len_any s w ht hsz).mono ?_
  rintro e w1 ⟨rfl, m1⟩
  go_wp2_with fail
  go_ret
  exact ⟨rfl, m1⟩

theorem ulen_none {s : ByteArray} (h : runesOf s = none) : ulen s = -1 := by unfold ulen; rw [h]
theorem ulen_some {s : ByteArray} {rs : List Nat} (h : runesOf s = some rs) : ulen s = rs.length := by unfold ulen; rw [h]
abbrev runeCs (rs : List Nat) : List Value := rs.map fun r : Nat => Value.int .i32 (r : Int)
theorem infoI32 : (Tryz.prog.info? 21).map (fun i => (i.zero, i.size, i.bytes)) = some (some (.int .i32 0), 1, 4) := by kernel_rfl

/-- What Split leaves. -/
def SplitTo (w : World) (R : Option (List Nat)) (e : Ending) (w' : World) : Prop := Mod none_ w w' ∧ (R = none → e = .returned (.tuple #[.slice none 0 0, .int .i64 2])) ∧ ∀ rs, R = some rs → ∃ v, e = .returned (.tuple #[v, .int .i64 0]) ∧ w'.ownsRow w.heap.size 21 1 v rs.length (runeCs rs)
set_option maxHeartbeats 2000000 in
set_option maxRecDepth 1000000 in
theorem split_any (s : ByteArray) (w : World) (ht : txtOk w s) (hsz : s.size ≤ 1099511627776) :
    Calls Tryz.prog 125 #[.string s] w (SplitTo w (runesOf s)) := by
  have HM := Lib.hid (rmay_text s w ht (by omega))
  obtain ⟨i0, hi0, hz0, hz1, hz2⟩ := info_parts infoI32
  have HMK := fun (W : World) (hB : w.heap.size ≤ W.heap.size) => run_make_own (P := Tryz.prog) W w.heap.size 145 21 i0 (.int .i32 0) 1 Tryz.underlying145 hi0 hz0 hz1 .i64 .i64 s.size (by rw [hz2]; omega) (by unfold maxLen; omega) hB
  have HMK := Lib.hid HMK
  have HI0 := Lib.hid hi0
  have HZ0 := Lib.hid hz0
  have HZ1 := Lib.hid hz1
  have HZ2 := Lib.hid hz2
  obtain ⟨R, hR⟩ : ∃ R, R = runesOf s := ⟨_, rfl⟩
  rw [← hR]
  have HR := Lib.hid hR
  clear hi0 hz0 hz1 hz2 ht hR
  go_enter Tryz.func125, Tryz.ntmps125
  go_wp2_with fail
  refine HM.out.mono ?_
  rintro e w1 ⟨rfl, m1⟩
  cases R with
  | none =>
    have hu := ulen_none HR.out.symm
    have hd : decide (0 ≤ ulen s) = false := by rw [hu]; rfl
    rw [hd]
    have M1 := Lib.hid m1
    clear hu m1
    go_wp2_with fail
    go_ret2
    exact ⟨M1.out, fun _ => rfl, fun rs h => by cases h⟩
  | some rs =>
    have hu := ulen_some HR.out.symm
    have hd : decide (0 ≤ ulen s) = true := by rw [hu]; simp
    rw [hd]
    obtain ⟨w2, hrun, hown, hgrow⟩ := HMK.out w1 m1.size
    have m2 := m1.grown hgrow (fun k e => by cases e)
    have M2 := Lib.hid m2
    have O2 := Lib.hid hown
    clear hu m1 hd hown hgrow
    go_wp2_with fail
    obtain ⟨K, hK⟩ : ∃ K, K = w2.heap.size := ⟨_, rfl⟩
    have hkw : w.heap.size ≤ K := by rw [hK]; exact M2.out.size
    have mi := M2.out.alloc (.stringIter s 0)
    have hit : (w2.iter s 0).heap[K]? = some (.stringIter s 0) := by rw [hK]; exact World.alloc_heap_new w2 _
    have oi : (w2.iter s 0).ownsRow w.heap.size 21 1 (.slice (some ⟨w1.heap.size, 0, none⟩) 0 s.size) ([] : List Nat).length (runeCs []) := (by simpa using O2.out : w2.ownsRow w.heap.size 21 1 (.slice (some ⟨w1.heap.size, 0, none⟩) 0 s.size) 0 []).alloc _
    have HS := Lib.hid (show 0 ≤ s.size ∧ ∃ rest, rs = [] ++ rest ∧ runesOf (tl s 0) = some rest from ⟨by omega, rs, rfl, by
      have : tl s 0 = s := by unfold tl; simp
      rw [this]; exact HR.out.symm⟩)
    have mi' : Mod none_ w (w2.iter s 0) := mi
    rw [← hK]
    generalize w2.iter s 0 = w3 at mi' hit oi ⊢
    clear hK mi M2 O2
    go_loopg [4] (s.size + 1) (fun g s4 wx => ∃ (pos : Nat) (pre : List Nat), g = s.size + 1 - pos ∧ Mod none_ w wx ∧ wx.heap[K]? = some (.stringIter s pos) ∧ pre.length ≤ pos ∧ wx.ownsRow w.heap.size 21 1 s4 pre.length (runeCs pre) ∧ RowKit.Hid (pos ≤ s.size ∧ ∃ rest, rs = pre ++ rest ∧ runesOf (tl s pos) = some rest))
    case atStart => exact ⟨0, [], rfl, mi', hit, Nat.zero_le _, oi, HS⟩
    case round =>
      obtain ⟨pos, pre, rfl, mx, hix, hpl, ox, hst⟩ := hrel
      obtain ⟨hps, rest, hrs, hrt⟩ := hst.out
      have MX := Lib.hid mx
      have OX := Lib.hid ox
      have HIX := Lib.hid hix
      by_cases hlt : pos < s.size
      · have hnx := fun ty => Lib.run_next_any_at (P := Tryz.prog) wr K s pos ty hix hlt
        have hdg := decodeGo_tl s pos hlt
        have h0 : (tl s pos).size ≠ 0 := by rw [tl_size]; omega
        have hbad : ¬ bad1 (tl s pos) := fun hb => by rw [runesOf_bad h0 hb] at hrt; cases hrt
        rw [runesOf_step h0 hbad, tl_tl, hdg] at hrt
        have hdp := decodeGo_pos h0
        rw [hdg, tl_size] at hdp
        have hty : ((Utf8.decode s pos).1 : Int) = (Utf8.decode s pos).1 := rfl
        generalize Utf8.decode s pos = d at hnx hrt hdp
        obtain ⟨r, nb⟩ := d
        dsimp only at hnx hrt hdp
        obtain ⟨rest', hr1, hr2⟩ := Option.map_eq_some_iff.1 hrt
        have m4 : Mod none_ w (wr.iterAt K s (pos + nb)) := ⟨mx.os, mx.tape, mx.output, by rw [Lib.iterAt_size]; exact mx.size, fun k hk _ => by rw [Lib.iterAt_other _ _ _ _ _ (by omega)]; exact mx.block k hk (fun e => e)⟩
        have h4 := Lib.iterAt_heap wr K s pos (pos + nb) hix
        have mK : Mod (one K) wr (wr.iterAt K s (pos + nb)) := ⟨rfl, rfl, rfl, by rw [Lib.iterAt_size]; exact Nat.le_refl _, fun k hk e => Lib.iterAt_other _ _ _ _ _ e⟩
        have o4 := ownsRow_mod ox mK (fun k hk e => by
          have e' : k = K := e
          subst e'
          obtain ⟨cs, hb⟩ := ownsRow_type ox hk
          unfold Blk at hb
          rw [hix] at hb; cases hb)
        have M4 := Lib.hid m4
        have H4 := Lib.hid h4
        have O4 := Lib.hid o4
        have HST := Lib.hid (show pos + nb ≤ s.size ∧ ∃ rest, rs = (pre ++ [r]) ++ rest ∧ runesOf (tl s (pos + nb)) = some rest from ⟨by omega, rest', by rw [hrs, ← hr2]; simp, hr1⟩)
        have hsz4 := m4.size
        clear mK hst hrs hrt hr1 hr2 mx hix ox hdg h0 hbad m4 h4 o4 hty
        generalize wr.iterAt K s (pos + nb) = w4 at hnx M4 H4 O4 hsz4
        go_wp2_with (at_builtin; refine wpList_append_own _ rfl (.tmp 18) (.tmp 20) 145 rfl w.heap.size 21 i0 _ 1 4 Tryz.underlying145 HI0.out HZ0.out HZ1.out HZ2.out rfl (by decide) _ _ _ rfl (O4.out.alloc _) ⟨w4.heap.size, 0, none⟩ 1 1 [.int .i32 (r : Int)] rfl rfl (World.news_of_block (heap_alloc_new w4 _)) (fun u hu => by rw [List.mem_singleton.1 hu]; rfl) (by unfold maxLen; omega) (by omega) (by rw [World.size_alloc]; omega) ?_; intro v' w5 ho5 hg5 _; have H5 := Lib.hid (show w5.heap[K]? = some (.stringIter s (pos + nb)) by (have hlt4 := lt_of_block H4.out; rw [hg5.block K (by rw [World.size_alloc]; omega) (fun e => by (obtain ⟨cs, hb⟩ := ownsRow_type O4.out e.symm; unfold Blk at hb; rw [H4.out] at hb; cases hb))]; rw [Below.heap_alloc _ _ _ hlt4]; exact H4.out)); have M5 := Lib.hid ((M4.out.alloc (.cells #[.int .i32 (r : Int)] 21)).grown hg5 (fun j e hj => absurd hj (by have := (O4.out.lt j e).1; omega))); have O5 := Lib.hid ho5; clear ho5 hg5)
        go_roundg (s.size + 1 - (pos + nb))
        case measure => omega
        case rel =>
          refine ⟨pos + nb, pre ++ [r], rfl, M5.out, H5.out, by simp; omega, ?_, HST⟩
          have := O5.out
          simpa using this
      · obtain rfl : pos = s.size := by omega
        have hnx := fun ty => Lib.run_next_end_at (P := Tryz.prog) wr K s s.size ty hix (by omega)
        have hr0 : rest = [] := by
          have h0 : (tl s s.size).size = 0 := by rw [tl_size]; omega
          rw [runesOf_nil h0] at hrt
          exact (Option.some.inj hrt).symm
        have HRS := Lib.hid (show rs = pre by rw [hrs, hr0]; simp)
        clear hst hrs hrt hr0 mx hix ox
        go_wp2_with fail
        go_ret2
        exact ⟨MX.out, (fun h => nomatch h), fun rs' h => by obtain rfl := Option.some.inj h; rw [HRS.out]; exact ⟨_, rfl, OX.out⟩⟩
end Go.Proofs.YthicagfeaekmoaaGreatDoor

namespace Go.Proofs.YthicagfeaekmoaaGreatDoor
open Go.RowKit Go.Mine Go.Maps
open Classical

theorem cnt_replicate (q : Nat) (x y : Value) : cnt (List.replicate q x) y = if x = y then q else 0 := by
  induction q with
  | zero => simp [cnt]
  | succ q ih =>
    rw [List.replicate_succ', cnt_append, ih, cnt_one]
    by_cases h : x = y <;> simp [h]
variable {P : Program} {k t e : TypeId} {w : World} {b : Nat} {ks : List Value}
/-- 'm[x]', of a name. -/
theorem Names.at_ (h : Names P k w b ks) (K : Keyed P k) (ht : P.underlying t = some (.map k e)) (hz : ∀ w, (zeroValue e).run P w = .ok (.int .i64 0) w) {x : Value} (hx : isKey P k x) :
    (Instr.lookup t (.map (some b)) x false).run P w = .ok (.int .i64 (cnt ks x : Int)) w := by
  obtain ⟨m, n, hm, hmem, hval⟩ := h
  have h1 := hm.lookup K ht (hz w) hx false
  rw [if_neg (by simp)] at h1
  rw [h1]
  cases hmx : m x with
  | none => rw [cnt_zero.2 (fun h => (hmem x).2 h hmx)]; rfl
  | some v => rw [hval x v hmx]; rfl
/-- 'm[x] = q', x new. -/
theorem Names.many (h : Names P k w b ks) (K : Keyed P k) (ht : P.underlying t = some (.map k e)) {x : Value} (hx : isKey P k x) (hn : x ∉ ks) (q : Nat) (hq : 0 < q) :
    ∃ w', (Instr.mapUpdate t (.map (some b)) x (.int .i64 (q : Int))).run P w = .ok () w' ∧ Mod (one b) w w' ∧ Names P k w' b (ks ++ List.replicate q x) := by
  obtain ⟨m, n, hm, hmem, hval⟩ := h
  obtain ⟨w', h1, h2, M⟩ := hm.update (v := .int .i64 (q : Int)) K ht hx
  refine ⟨w', h1, M, _, _, h2, fun y => ?_, fun y v hy => ?_⟩
  · by_cases hyx : y = x
    · subst hyx
      rw [putM_same, List.mem_append]
      simp; omega
    · rw [putM_other hyx, hmem y, List.mem_append]
      exact ⟨.inl, fun h => h.elim id (fun e => absurd (List.eq_of_mem_replicate e) hyx)⟩
  · rw [cnt_append, cnt_replicate]
    by_cases hyx : y = x
    · subst hyx
      rw [putM_same] at hy
      cases hy
      rw [if_pos rfl, cnt_zero.2 hn, Nat.zero_add]
    · rw [putM_other hyx] at hy
      rw [if_neg (fun e => hyx e.symm), Nat.add_zero]
      exact hval y v hy
end Go.Proofs.YthicagfeaekmoaaGreatDoor

namespace Go.Proofs.YthicagfeaekmoaaGreatDoor
open Go.RowKit Go.Shelf Go.Mine Go.Maps
open Classical

theorem DocV.flt {w : World} {D MB : Nat} {v : Value} {bl : List BV} (hv : DocV w D v MB bl) {k : Nat} (hk : foot D v bl k) : k < w.heap.size := by
  rcases hk with rfl | hk | ⟨x, hx, rfl | hk⟩
  · exact hv.doc.lt
  · exact (hv.ptrs.lt k hk).2
  · exact (hv.blk x hx).b.lt
  · exact ((hv.blk x hx).o.lt k hk).2
/-- The name of an operation. -/
abbrev OpV.name (o : OpV) : Value := .agg #[.int .i64 o.site, .int .i64 o.seq]
/-- The cells that an insertion brings. -/
def freshC (o : OpV) (rs : List Nat) : List CellV := rs.mapIdx fun (i r : Nat) => ⟨o.site, o.seq, (i : Int), (r : Int), false⟩
def runesD (s : ByteArray) : List Nat := (runesOf s).getD []
theorem runes_le : ∀ (n : Nat) (t : ByteArray), t.size ≤ n → ∀ rs, runesOf t = some rs → ∀ r ∈ rs, r ≤ 1114111
  | 0, t, h, rs, hr, r, hm => by
    rw [runesOf_nil (by omega)] at hr
    cases hr; cases hm
  | n + 1, t, h, rs, hr, r, hm => by
    by_cases h0 : t.size = 0
    · rw [runesOf_nil h0] at hr
      cases hr; cases hm
    · by_cases hb : bad1 t
      · rw [runesOf_bad h0 hb] at hr; cases hr
      · rw [runesOf_step h0 hb] at hr
        obtain ⟨rest, hr1, rfl⟩ := Option.map_eq_some_iff.1 hr
        have hp := decodeGo_pos h0
        have ht0 : tl t 0 = t := by unfold tl; simp
        have hd : Lib.decodeGo t = Utf8.decode t 0 := by
          have := decodeGo_tl t 0 (by omega)
          rwa [ht0] at this
        rcases List.mem_cons.1 hm with rfl | hm
        · rw [hd]; exact Lib.rune_le t 0
        · exact runes_le n _ (by rw [tl_size]; omega) rest hr1 r hm
theorem cell_lt {w : World} {b j : Nat} {v : Value} (h : w.cell? ⟨b, j, none⟩ = some v) : b < w.heap.size := by
  unfold World.cell? at h
  by_cases hb : b < w.heap.size
  · exact hb
  · rw [Array.getElem?_eq_none (by show w.heap.size ≤ b; omega)] at h
    simp at h
theorem freshC_len (o : OpV) (rs : List Nat) : (freshC o rs).length = rs.length := by unfold freshC; simp
theorem freshC_get (o : OpV) (rs : List Nat) (k : Nat) (r : Nat) (h : rs[k]? = some r) : (freshC o rs)[k]? = some ⟨o.site, o.seq, (k : Int), (r : Int), false⟩ := by
  unfold freshC
  rw [List.getElem?_mapIdx, h]; rfl
theorem freshC_ok (o : OpV) (rs : List Nat) (hs : -9223372036854775808 ≤ o.site ∧ o.site ≤ 9223372036854775807) (hq : -9223372036854775808 ≤ o.seq ∧ o.seq ≤ 9223372036854775807) (hl : rs.length ≤ 200) (hr : ∀ r ∈ rs, r ≤ 1114111) : ∀ c ∈ freshC o rs, c.ok := by
  intro c hc
  obtain ⟨i, hi⟩ := List.getElem?_of_mem hc
  have hlt := (List.getElem?_eq_some_iff.1 hi).1
  rw [freshC_len] at hlt
  rw [freshC_get o rs i rs[i] (List.getElem?_eq_getElem hlt)] at hi
  obtain rfl := Option.some.inj hi
  have := hr rs[i] (List.getElem_mem hlt)
  exact ⟨hs, hq, ⟨by simp only; omega, by simp only; omega⟩, ⟨by simp only; omega, by simp only; omega⟩⟩
theorem freshC_names (o : OpV) (rs : List Nat) : (freshC o rs).map CellV.name = List.replicate rs.length o.name := by
  apply List.ext_getElem (by simp [freshC_len])
  intro i h1 h2
  simp [freshC]
def zeroC : CellV := ⟨0, 0, 0, 0, false⟩
/-- The row while it is filled. -/
def halfC (o : OpV) (rs : List Nat) (k : Nat) : List CellV := (freshC o rs).take k ++ List.replicate (rs.length - k) zeroC
theorem halfC_len (o : OpV) (rs : List Nat) (k : Nat) (h : k ≤ rs.length) : (halfC o rs k).length = rs.length := by unfold halfC; simp [freshC_len]; omega
theorem halfC_all (o : OpV) (rs : List Nat) : halfC o rs rs.length = freshC o rs := by
  unfold halfC
  rw [Nat.sub_self, List.take_of_length_le (by rw [freshC_len]; omega)]; simp
theorem halfC_succ (o : OpV) (rs : List Nat) (k r : Nat) (h : rs[k]? = some r) : (halfC o rs k).set k ⟨o.site, o.seq, (k : Int), (r : Int), false⟩ = halfC o rs (k + 1) := by
  have hlt := (List.getElem?_eq_some_iff.1 h).1
  unfold halfC
  rw [List.set_append_right _ _ (by rw [List.length_take]; omega), List.length_take, freshC_len, show k - min k rs.length = 0 by omega]
  obtain ⟨m, hm⟩ : ∃ m, rs.length - k = m + 1 := ⟨rs.length - k - 1, by omega⟩
  rw [hm, List.replicate_succ, List.set_cons_zero, show rs.length - (k + 1) = m by omega, List.take_add_one, freshC_get o rs k r h]
  simp
theorem made_flat (n : Nat) : (madeCells (Value.agg #[.int .i64 0, .int .i64 0, .int .i64 0, .int .i32 0, .bool false]).cells (n * 5)).toList = flat CellV.cs (List.replicate n zeroC) := by
  apply List.ext_getElem?
  intro j
  by_cases hj : j < n * 5
  · have h1 : j = j / 5 * 5 + j % 5 := by omega
    have h2 : (List.replicate n zeroC)[j / 5]? = some zeroC := by rw [List.getElem?_replicate, if_pos (by omega)]
    have h3 := flat_get CellV.len (List.replicate n zeroC) (j / 5) (j % 5) zeroC h2 (by omega)
    rw [← h1] at h3
    rw [h3]
    have hm : j % 5 < 5 := by omega
    simp only [madeCells, Value.cells, Array.toList_map, Array.toList_range, List.getElem?_map, List.getElem?_range hj, Option.map_some, List.size_toArray, List.length_cons, List.length_nil, Nat.zero_add, Nat.reduceAdd, zeroC]
    have : j % 5 = 0 ∨ j % 5 = 1 ∨ j % 5 = 2 ∨ j % 5 = 3 ∨ j % 5 = 4 := by omega
    rcases this with e | e | e | e | e <;> rw [e] <;> rfl
  · rw [List.getElem?_eq_none (by simp [madeCells]; omega), List.getElem?_eq_none (by rw [flat_length CellV.len, List.length_replicate]; omega)]
theorem st_cellW (ρ : Operand → Value) (dst : Option Tmp) (x y : Operand) (ty : TypeId) (pos : String) (after : Array Edge) (guard : Option (Nat × Bool)) :
    execOp ρ { dst, op := .store 47 x y, type := ty, pos, after, guard } = (do stRow 47 (ρ x) (ρ y); pure .skip) := rfl
theorem cellSize : (Tryz.prog.info? 47).map (·.size) = some 5 := by kernel_rfl
theorem run_st_cellW (w : World) (g o : Nat) (a b c d : Int) (e : Bool) (h : w.there g o 5) : (stRow 47 (.pointer (some ⟨g, o, none⟩)) (.agg #[.int .i64 a, .int .i64 b, .int .i64 c, .int .i32 d, .bool e])).run Tryz.prog w = .ok () (w.setCells g o [.int .i64 a, .int .i64 b, .int .i64 c, .int .i32 d, .bool e]) :=
  run_stRow cellSize w g o _ rfl (CellV.ones ⟨a, b, c, d, e⟩) h
attribute [local go_sem ↓] st_cellW
attribute [local go_sem] run_st_cellW World.there_drew setCells_drew
/-- Do's answer, and what it leaves. -/
noncomputable def doE (o : OpV) (sp : List (Int × Int)) (l : List CellV) : Int := if opMay o sp l.length = true then (if o.kind = 2 then 0 else if o.name ∈ l.map CellV.name then 15 else 0) else 1
noncomputable def doL (o : OpV) (sp : List (Int × Int)) (l : List CellV) : List CellV := if opMay o sp l.length = true then (if o.kind = 2 then markS sp 0 l else if o.name ∈ l.map CellV.name then l else l.take o.at_.toNat ++ freshC o (runesD o.text) ++ l.drop o.at_.toNat) else l
def DoTo (w : World) (S : Nat → Prop) (D : Nat) (l : List CellV) (er : Int) (e : Ending) (w' : World) : Prop := e = .returned (.int .i64 er) ∧ Mod S w w' ∧ DocS w' (grew S w w') D l

theorem markBl_ne (l : List (Int × Int)) : ∀ (bl : List BV) (p : Nat), (∀ x ∈ bl, x.c ≠ []) → ∀ x ∈ markBl l p bl, x.c ≠ []
  | [], _, _, x, hx => by cases hx
  | y :: r, p, h, x, hx => by
    rw [markBl] at hx
    rcases List.mem_cons.1 hx with rfl | hx
    · intro e
      have := markS_len l p y.c
      have h2 := h y (by simp)
      simp only at e
      rw [e] at this
      exact h2 (List.eq_nil_of_length_eq_zero this.symm)
    · exact markBl_ne l r _ (fun z hz => h z (List.mem_cons_of_mem _ hz)) x hx
/-- A document that was marked. -/
theorem DocS.marked {w w1 w2 : World} {S : Nat → Prop} {D MB : Nat} {v : Value} {bl : List BV} {sp : List (Int × Int)} {l : List CellV} (m1 : Mod none_ w w1) (hv : DocV w1 D v MB bl) (hn : Names Tryz.prog 28 w1 MB (l.map CellV.name)) (hl : cellsOf bl = l) (hf : ∀ k, foot D v bl k → S k) (hmb : S MB) (hne : ∀ x ∈ bl, x.c ≠ [])
    (m2 : Mod (foot D v bl) w1 w2) (hv2 : DocV w2 D v MB (markBl sp 0 bl)) : DoTo w S D (markS sp 0 l) 0 (.returned (.int .i64 0)) w2 := by
  refine ⟨rfl, (m1.mono (fun _ _ e => e.elim)).trans (m2.mono (fun k _ hk => hf k hk)), v, MB, markBl sp 0 bl, hv2, ?_, by rw [markBl_cells, hl], fun k hk => .inl (hf k ((foot_congr (markBl_foot sp bl 0) k).1 hk)), .inl hmb, markBl_ne sp bl 0 hne⟩
  have := hn.mod m2 (foot_names hv hn)
  unfold markS
  rw [markP_names]; exact this

theorem do_put {w wr w7 w8 : World} {S : Nat → Prop} {D MB p k : Nat} {v v' : Value} {bl bl' : List BV} {l : List CellV} {o : OpV} {rs : List Nat} (mw : Mod none_ w wr) (hf : ∀ k, foot D v bl k → S k) (hmb : S MB) (hl : cellsOf bl = l)
    (m7 : Mod (foot D v bl) wr w7) (hv7 : DocV w7 D v' MB bl') (hn7 : Names Tryz.prog 28 w7 MB (l.map CellV.name)) (hl7 : cellsOf bl' = (cellsOf bl).take p ++ freshC o rs ++ (cellsOf bl).drop p) (hf7 : ∀ k, foot D v' bl' k → foot D v bl k ∨ wr.heap.size ≤ k) (hne7 : ∀ x ∈ bl', x.c ≠ [])
    (m8 : Mod (one MB) w7.drew w8) (hn8 : Names Tryz.prog 28 w8 MB (l.map CellV.name ++ List.replicate k o.name)) (hk : k = rs.length) : DoTo w S D (l.take p ++ freshC o rs ++ l.drop p) 0 (.returned (.int .i64 0)) w8 := by
  have m8' : Mod (one MB) w7 w8 := ((Mod.refl (one MB) w7).drew).trans m8
  have hv8 := hv7.mod m8' (fun k hk e => by
    have e' : k = MB := e
    subst e'
    exact foot_names hv7 hn7 hk)
  refine ⟨rfl, ((mw.mono (fun _ _ e => e.elim)).trans (m7.mono (fun k _ hk => hf k hk))).trans (m8'.mono (fun k _ e => by have e' : k = MB := e; rw [e']; exact hmb)), v', MB, bl', hv8, ?_, by rw [hl7, hl], fun k hk => ?_, .inl hmb, hne7⟩
  · refine hn8.perm ?_
    rw [List.map_append, List.map_append, freshC_names, ← hk]
    conv => lhs; rw [← List.take_append_drop p l, List.map_append]
    rw [List.append_assoc, List.append_assoc]
    exact (List.perm_append_comm).append_left _
  · rcases hf7 k hk with h | h
    · exact .inl (hf k h)
    · exact .inr ⟨Nat.le_trans mw.size h, hv8.flt hk⟩

set_option maxHeartbeats 4000000 in
set_option maxRecDepth 1000000 in
theorem do_any (w : World) (S : Nat → Prop) (D : Nat) (l : List CellV) (o : OpV) (sp : List (Int × Int)) (h : DocS w S D l) (hlen : l.length ≤ 20000) (hok : ∀ c ∈ l, c.ok) (ho : o.ok w sp) (hsz : o.text.size ≤ 1099511627776) (hfar : ∀ b off, o.sa = some ⟨b, off, none⟩ → 0 < o.slen → ¬ S b) :
    Calls Tryz.prog 79 #[.pointer (some ⟨D, 0, none⟩), o.v] w (DoTo w S D (doL o sp l) (doE o sp l)) := by
  obtain ⟨E, hE⟩ : ∃ E, E = doE o sp l := ⟨_, rfl⟩
  obtain ⟨L, hL⟩ : ∃ L, L = doL o sp l := ⟨_, rfl⟩
  rw [← hE, ← hL]
  have HE := Lib.hid hE
  have HL := Lib.hid hL
  obtain ⟨W0, hW0⟩ : ∃ W0, w.alloc (.cells o.cs.toArray 31) = W0 := ⟨_, rfl⟩
  obtain ⟨m0, kB⟩ := opBox1 hW0
  have HO := Lib.hid (ho.grown m0)
  have HD := Lib.hid (h.grown m0)
  have HI := Lib.hid h
  have M0 := Lib.hid m0
  have KB := Lib.hid kB
  have c0 : W0.cell? ⟨w.heap.size, 0, none⟩ = some (.int .i64 o.site) := by rw [kB.cell]; rfl
  have c1 : W0.cell? ⟨w.heap.size, 1, none⟩ = some (.int .i64 o.seq) := by rw [kB.cell]; rfl
  have c2 : W0.cell? ⟨w.heap.size, 2, none⟩ = some (.int .i64 o.num) := by rw [kB.cell]; rfl
  have c3 : W0.cell? ⟨w.heap.size, 3, none⟩ = some (.int .i64 o.kind) := by rw [kB.cell]; rfl
  have c4 : W0.cell? ⟨w.heap.size, 4, none⟩ = some (.int .i64 o.at_) := by rw [kB.cell]; rfl
  have c5 : W0.cell? ⟨w.heap.size, 5, none⟩ = some (.string o.text) := by rw [kB.cell]; rfl
  have c6 : W0.cell? ⟨w.heap.size, 6, none⟩ = some (.slice o.sa o.slen o.scap) := by rw [kB.cell]; rfl
  have HOK := Lib.hid hok
  have HFAR := Lib.hid hfar
  have hin : inB (l.length : Int) 0 20000 = true := by simp [inB]; omega
  have HSI := Lib.hid (fun W (m : Mod none_ W0 W) => size_any W 0 D l (HD.out.grown m).is (by omega))
  have HMA := Lib.hid (fun W (m : Mod none_ W0 W) => may_any o (l.length : Int) W sp (HO.out.grown m) hin)
  clear h ho hE hL m0 kB hok hfar hin
  go_enter Tryz.func79, Tryz.ntmps79
  go_upto_region 1 with fail
  clear hW0
  obtain ⟨X, hX⟩ : ∃ X, X = w.heap.size := ⟨_, rfl⟩
  rw [← hX] at KB c0 c1 c2 c3 c4 c5 c6 ⊢
  have HX := Lib.hid hX
  clear hX
  obtain ⟨M, hM⟩ : ∃ M, M = opMay o sp l.length := ⟨_, rfl⟩
  rw [← hM] at HMA
  have HM := Lib.hid hM
  clear hM
  cases M with
  | false =>
    have HE1 := Lib.hid (show E = 1 by rw [HE.out]; unfold doE; rw [if_neg (by rw [← HM.out]; simp)])
    have HL1 := Lib.hid (show L = l by rw [HL.out]; unfold doL; rw [if_neg (by rw [← HM.out]; simp)])
    go_region_held3 (fun w' => Mod none_ W0 w' ∧ w'.cell? ⟨X, 0, none⟩ = some (.int .i64 o.site) ∧ w'.cell? ⟨X, 1, none⟩ = some (.int .i64 o.seq) ∧ w'.cell? ⟨X, 2, none⟩ = some (.int .i64 o.num) ∧ w'.cell? ⟨X, 3, none⟩ = some (.int .i64 o.kind) ∧ w'.cell? ⟨X, 4, none⟩ = some (.int .i64 o.at_) ∧ w'.cell? ⟨X, 5, none⟩ = some (.string o.text) ∧ w'.cell? ⟨X, 6, none⟩ = some (.slice o.sa o.slen o.scap))
      (first
        | exact ⟨Mod.drew (Mod.refl none_ W0), c0, c1, c2, c3, c4, c5, c6⟩
        | assumption
        | (obtain ⟨q, q0, q1, q2, q3, q4, q5, q6⟩ := ‹Mod none_ W0 _ ∧ _›; exact ⟨q.trans m1, m1.cell (fun e => e) q0, m1.cell (fun e => e) q1, m1.cell (fun e => e) q2, m1.cell (fun e => e) q3, m1.cell (fun e => e) q4, m1.cell (fun e => e) q5, m1.cell (fun e => e) q6⟩))
      (first
        | (go_at_call 43; refine (HSI.out _ (And.left (by assumption))).mono ?_; rintro e w1 ⟨rfl, m1⟩)
        | (go_at_call 123; refine (HMA.out _ (And.left (by assumption))).mono ?_; rintro e w1 ⟨rfl, m1⟩))
    go_wp2_with fail
    go_ret
    refine ⟨by rw [HE1.out]; rfl, (M0.out.trans (And.left (by assumption))).mono (fun _ _ e => e.elim), ?_⟩
    rw [HL1.out]
    exact (HI.out.grown (M0.out.trans (And.left (by assumption)))).mono (fun k _ hk => .inl hk)
  | true =>
    go_region_held3 (fun w' => Mod none_ W0 w' ∧ w'.cell? ⟨X, 0, none⟩ = some (.int .i64 o.site) ∧ w'.cell? ⟨X, 1, none⟩ = some (.int .i64 o.seq) ∧ w'.cell? ⟨X, 2, none⟩ = some (.int .i64 o.num) ∧ w'.cell? ⟨X, 3, none⟩ = some (.int .i64 o.kind) ∧ w'.cell? ⟨X, 4, none⟩ = some (.int .i64 o.at_) ∧ w'.cell? ⟨X, 5, none⟩ = some (.string o.text) ∧ w'.cell? ⟨X, 6, none⟩ = some (.slice o.sa o.slen o.scap))
      (first
        | exact ⟨Mod.drew (Mod.refl none_ W0), c0, c1, c2, c3, c4, c5, c6⟩
        | assumption
        | (obtain ⟨q, q0, q1, q2, q3, q4, q5, q6⟩ := ‹Mod none_ W0 _ ∧ _›; exact ⟨q.trans m1, m1.cell (fun e => e) q0, m1.cell (fun e => e) q1, m1.cell (fun e => e) q2, m1.cell (fun e => e) q3, m1.cell (fun e => e) q4, m1.cell (fun e => e) q5, m1.cell (fun e => e) q6⟩))
      (first
        | (go_at_call 43; refine (HSI.out _ (And.left (by assumption))).mono ?_; rintro e w1 ⟨rfl, m1⟩)
        | (go_at_call 123; refine (HMA.out _ (And.left (by assumption))).mono ?_; rintro e w1 ⟨rfl, m1⟩))
    obtain ⟨q, q0, q1, q2, q3, q4, q5, q6⟩ := ‹Mod none_ W0 _ ∧ _›
    have hDS := HD.out.grown q
    have hOS := HO.out.grown q
    have M1 := Lib.hid (M0.out.trans q)
    by_cases hk : o.kind = 2
    · have hkd : (o.kind == 2) = true := by simp [hk]
      have hsp : spansOk sp = true := by
        have := HM.out
        unfold opMay at this
        rw [if_neg (by omega), if_pos hk] at this
        simp [delOk] at this
        exact this.2.1.2
      have HE1 := Lib.hid (show E = 0 by rw [HE.out]; unfold doE; rw [if_pos HM.out.symm, if_pos hk])
      have HL1 := Lib.hid (show L = markS sp 0 l by rw [HL.out]; unfold doL; rw [if_pos HM.out.symm, if_pos hk])
      obtain ⟨v, MB, bl, hv, hn, hl, hf, hmb, hne⟩ := hDS.ex
      have HMK := Lib.hid (mark_any _ D MB v bl o.sa o.slen o.scap sp hv (by rw [hl]; omega) ⟨hOS.sp, fun b off e h0 hk => HFAR.out b off e h0 (hf _ hk)⟩ hsp)
      have FIN := Lib.hid (fun w2 (m2 : Mod (foot D v bl) _ w2) (hv2 : DocV w2 D v MB (markBl sp 0 bl)) => DocS.marked (sp := sp) M1.out hv hn hl hf hmb hne m2 hv2)
      clear hv hn hl hf hmb hne hsp hk hDS hOS q
      go_wp2_with fail
      refine HMK.out.mono ?_
      rintro e w2 ⟨rfl, m2, hv2⟩
      have FIN := Lib.hid (FIN.out w2 m2 hv2)
      clear m2 hv2
      go_wp2_with fail
      go_ret
      rw [HE1.out, HL1.out]
      exact FIN.out
    · have hkd : (o.kind == 2) = false := by simp [hk]
      have hop := HM.out
      unfold opMay at hop
      have hk1 : o.kind = 1 := by
        apply Classical.byContradiction
        intro hh
        rw [if_neg hh, if_neg hk] at hop
        simp at hop
      rw [if_pos hk1] at hop
      have hins : insOk o (l.length : Int) = true := by
        simp only [Bool.and_eq_true, Bool.true_eq] at hop
        exact hop.2
      have hnm := key_name hOS.i1 hOS.i2
      obtain ⟨v, MB, bl, hv0, hn0, hl, hf, hmb, hne⟩ := HI.out.ex
      have hv := hv0.grown M1.out
      have hn := hn0.mod M1.out (fun e => e)
      have HXF := Lib.hid (show ¬ foot D v bl X from fun hh => by have := hv0.flt hh; have := HX.out; omega)
      have HXM := Lib.hid (show X ≠ MB from fun e => by have := hn0.lt; have := HX.out; omega)
      have HV0 := Lib.hid hv0
      have HN0 := Lib.hid hn0
      clear hv0 hn0
      have d1 := hv.doc.cell 1
      simp only [List.getElem?_cons_zero, List.getElem?_cons_succ] at d1
      have hlk := (hn.mod (Mod.drew (Mod.refl none_ _)) (fun e => e)).at_ kName Tryz.underlying124 zInt hnm
      by_cases hmem : o.name ∈ l.map CellV.name
      · have HE1 := Lib.hid (show E = 15 by rw [HE.out]; unfold doE; rw [if_pos HM.out.symm, if_neg hk, if_pos hmem])
        have HL1 := Lib.hid (show L = l by rw [HL.out]; unfold doL; rw [if_pos HM.out.symm, if_neg hk, if_pos hmem])
        have hc0 : 0 < cnt (l.map CellV.name) o.name := Nat.pos_of_ne_zero (fun e => cnt_zero.1 e hmem)
        obtain ⟨C, hC⟩ : ∃ C, C = cnt (l.map CellV.name) o.name := ⟨_, rfl⟩
        rw [← hC] at hlk hc0
        have hcd : decide ((0 : Int) < (C : Int)) = true := by simp; omega
        have FIN := Lib.hid (HI.out.grown M1.out)
        clear hC hv hn hl hf hmb hne hop hk hk1 hins hDS hOS hmem hnm
        go_wp2_with fail
        go_region_law (fail)
        all_goals go_wp2_with fail
        all_goals go_ret
        all_goals rw [HE1.out, HL1.out]
        all_goals exact ⟨rfl, (M1.out.drew).mono (fun _ _ e => e.elim), (FIN.out.grown (Mod.drew (Mod.refl none_ _))).mono (fun k _ hk => .inl hk)⟩
      · have hcz := cnt_zero.2 hmem
        rw [hcz] at hlk
        simp only [Int.ofNat_zero] at hlk
        have HINS := Lib.hid hins
        obtain ⟨rs, hrs, hr0, hr1, hr2, hp0, hp1⟩ : ∃ rs, runesOf o.text = some rs ∧ 0 < rs.length ∧ rs.length ≤ 200 ∧ l.length + rs.length ≤ 20000 ∧ 0 ≤ o.at_ ∧ o.at_ ≤ l.length := by
          have hi := hins
          unfold insOk textOk inB at hi
          simp only [Bool.and_eq_true, decide_eq_true_eq] at hi
          cases hrr : runesOf o.text with
          | none => rw [ulen_none hrr] at hi; omega
          | some rs => rw [ulen_some hrr] at hi; exact ⟨rs, rfl, by omega, by omega, by omega, by omega, by omega⟩
        have HRL := Lib.hid (show ∀ r ∈ rs, r ≤ 1114111 from runes_le _ o.text (Nat.le_refl _) rs hrs)
        have HRS := Lib.hid hrs
        obtain ⟨p, hp⟩ : ∃ p : Nat, o.at_ = (p : Int) := ⟨o.at_.toNat, by omega⟩
        have hpl : p ≤ l.length := by omega
        rw [hp] at q4
        have HP := Lib.hid hp
        obtain ⟨n, hnr⟩ : ∃ n, n = rs.length := ⟨_, rfl⟩
        rw [← hnr] at hr0 hr1 hr2
        have HNR := Lib.hid hnr
        obtain ⟨i0, hi0, hz0, hz1, hz2⟩ := info_parts infoCell
        have HMK := Lib.hid (fun (W : World) => run_make_full (P := Tryz.prog) W W.heap.size 22 47 i0 _ 5 Tryz.underlying22 hi0 hz0 hz1 .i64 .i64 n (by rw [hz2]; omega) (by unfold maxLen; omega) (Nat.le_refl _))
        have HE1 := Lib.hid (show E = 0 by rw [HE.out]; unfold doE; rw [if_pos HM.out.symm, if_neg hk, if_neg hmem])
        have HL1 := Lib.hid (show L = l.take p ++ freshC o rs ++ l.drop p by rw [HL.out]; unfold doL runesD; rw [if_pos HM.out.symm, if_neg hk, if_neg hmem, hrs, hp]; rfl)
        clear hrs hp hnr hp0 hp1 hi0 hz0 hz1 hz2
        have HMEM := Lib.hid hmem
        have HHV := Lib.hid hv
        have HHN := Lib.hid hn
        have HHL := Lib.hid hl
        have HHF := Lib.hid hf
        have HHM := Lib.hid hmb
        have HHNE := Lib.hid hne
        have HOS := Lib.hid hOS
        have HKN := Lib.hid hnm
        have HK := Lib.hid hk
        clear hv hn hl hf hmb hne hop hk hk1 hins hDS hOS hmem hnm hcz
        go_wp2_with fail
        go_region_law (fail)
        all_goals go_wp2_with fail
        all_goals (
          refine (split_any o.text _ (by exact (HOS.out.grown ((Mod.refl none_ _).drew)).tx) (by omega)).mono ?_
          rintro e w4 ⟨m4, -, h4⟩
          obtain ⟨v4, rfl, own4⟩ := h4 rs HRS.out
          have M4 := Lib.hid ((M1.out.drew).trans m4)
          have r0 := (((Mod.refl none_ _).drew).trans m4).cell (fun e => e) q0
          have r1 := (((Mod.refl none_ _).drew).trans m4).cell (fun e => e) q1
          have r4 := (((Mod.refl none_ _).drew).trans m4).cell (fun e => e) q4
          have r5 := (((Mod.refl none_ _).drew).trans m4).cell (fun e => e) d1
          rcases ownsRow_blk own4 with ⟨-, hz, -⟩ | ⟨g4, cc4, more, hv4, hg4, k4, hnc, hcm, -⟩
          · exfalso; have := HNR.out; omega
          subst hv4
          rw [← HNR.out] at hnc ⊢
          obtain ⟨w5, hrun, own5, hgr5⟩ := HMK.out w4
          obtain ⟨G, hG⟩ : ∃ G, G = w4.heap.size := ⟨_, rfl⟩
          rw [made_flat, ← hG] at own5
          rw [← hG] at hrun
          have hXG : X < G := by rw [hG]; exact cell_lt r0
          have hDG : D < G := by rw [hG]; exact cell_lt r5
          have hgG : g4 < G := by rw [hG]; exact k4.lt
          have hwG : w.heap.size ≤ G := by rw [hG]; exact M4.out.size
          have m5 : Mod none_ w4 w5 := (Mod.refl none_ w4).grown hgr5 (fun k e => by cases e)
          rcases ownsRow_blk own5 with ⟨hh, -⟩ | ⟨G', c5, more5, he, -, k5, -, -, hl5⟩
          · cases hh
          have e1 : G' = G := by cases he; rfl
          have e2 : c5 = n := by cases he; rfl
          rw [e1] at k5
          rw [e2] at hl5
          have hm5 : more5 = [] := by
            rw [flat_length CellV.len, List.length_replicate] at hl5
            exact List.eq_nil_of_length_eq_zero (by omega)
          subst hm5
          have KR := Lib.hid (k4.mod m5 (fun e => e))
          have M5 := Lib.hid (M4.out.trans m5)
          have s0 := m5.cell (fun e => e) r0
          have s1 := m5.cell (fun e => e) r1
          have s4 := m5.cell (fun e => e) r4
          have s5 := m5.cell (fun e => e) r5
          have hi0 : halfC o rs 0 = List.replicate n zeroC := by unfold halfC; rw [← HNR.out]; simp
          have hst : Blk w5 G (flat CellV.cs (halfC o rs 0)) 47 := by rw [hi0]; simpa using k5
          have HST := Lib.hid hst
          have HWG := Lib.hid hwG
          clear m4 m5 own4 own5 k4 k5 hgr5 r0 r1 r4 r5 hi0 hst hG hwG hl5 he h4 e1 e2
          go_wp2_with fail
          go_loopg [8, 9, 45] n (fun g s8 s9 s45 wx => ∃ k : Nat, g = n - k ∧ s45 = .int .i64 k ∧ k ≤ n ∧ Mod (one G) w5 wx ∧ RowKit.Hid (Blk wx G (flat CellV.cs (halfC o rs k)) 47))
          case atStart => exact ⟨0, rfl, rfl, Nat.zero_le _, Mod.refl _ _, HST⟩
          case round =>
            obtain ⟨k, rfl, rfl, hkn, mx, hb⟩ := hrel
            by_cases hlt : k < n
            · have hd : decide ((k : Int) < (n : Int)) = true := by simp; omega
              obtain ⟨r, hr⟩ : ∃ r, rs[k]? = some r := ⟨_, List.getElem?_eq_getElem (by have := HNR.out; omega)⟩
              have t0 := mx.cell (show ¬ one G X from fun e => by have : X = G := e; omega) s0
              have t1 := mx.cell (show ¬ one G X from fun e => by have : X = G := e; omega) s1
              have hrow := (KR.out.mod mx (show ¬ one G g4 from fun e => by have : g4 = G := e; omega)).cell k
              rw [List.getElem?_append_left (by simp; have := HNR.out; omega), List.getElem?_map, hr, Option.map_some] at hrow
              have hll : (halfC o rs k).length = n := by rw [halfC_len o rs k (by have := HNR.out; omega)]; exact HNR.out.symm
              have hth := hb.out.there (k * 5) 5 (by rw [flat_length CellV.len, hll]; omega)
              obtain ⟨kp, mp⟩ := Blk.put CellV.len (more := []) (by simpa using hb.out) k (by omega) ⟨o.site, o.seq, (k : Int), (r : Int), false⟩
              rw [halfC_succ o rs k r hr, List.append_nil] at kp
              have MP := Lib.hid (mx.trans mp)
              have KP := Lib.hid kp
              clear mx hb hr hll kp mp
              go_wp2_with fail
              go_roundg (n - (k + 1))
              case measure => omega
              case rel => exact ⟨k + 1, rfl, by simp, by omega, MP.out, KP⟩
            · obtain rfl : k = n := by omega
              have hd : decide ((k : Int) < (k : Int)) = false := by simp
              have t0 := mx.cell (show ¬ one G X from fun e => by have : X = G := e; omega) s0
              have t1 := mx.cell (show ¬ one G X from fun e => by have : X = G := e; omega) s1
              have t4 := mx.cell (show ¬ one G X from fun e => by have : X = G := e; omega) s4
              have hfr : Blk wr G (flat CellV.cs (freshC o rs)) 47 := by
                have := hb.out
                rw [HNR.out, halfC_all] at this; exact this
              have mw : Mod none_ w wr := M5.out.transIn mx (fun x hx e => by have : x = G := e; have := HWG.out; omega)
              have INS := Lib.hid (insert_any wr D MB p G k k v bl (freshC o rs) (HV0.out.grown mw) HHNE.out (by rw [HHL.out]; omega) (by rw [HHL.out]; omega) hfr (fun hh => by have := HV0.out.flt hh; have := HWG.out; omega) (by rw [freshC_len]; exact HNR.out.symm) hr0 (by rw [HHL.out]; exact HOK.out) (freshC_ok o rs HOS.out.i1 HOS.out.i2 (by have := HNR.out; omega) HRL.out))
              have MW := Lib.hid mw
              clear mx hb hfr mw
              go_wp2_with fail
              refine INS.out.mono ?_
              rintro e w7 ⟨rfl, m7, v', bl', hv7, hl7, hf7, hne7⟩
              have u0 := m7.cell HXF.out t0
              have u1 := m7.cell HXF.out t1
              have u5 := hv7.doc.cell 1
              simp only [List.getElem?_cons_zero, List.getElem?_cons_succ] at u5
              have hn7 : Names Tryz.prog 28 w7 MB (l.map CellV.name) := (HN0.out.mod MW.out (fun e => e)).mod m7 (foot_names HV0.out HN0.out)
              obtain ⟨w8, hup, m8, hn8⟩ := (hn7.mod (Mod.drew (Mod.refl none_ _)) (fun e => e)).many kName Tryz.underlying124 HKN.out HMEM.out k hr0
              have FIN := Lib.hid (do_put (p := p) MW.out HHF.out HHM.out HHL.out m7 hv7 hn7 hl7 hf7 hne7 m8 hn8 HNR.out)
              clear m7 hv7 hn7 hl7 hf7 hne7 m8 hn8 t0 t1 t4
              go_wp2_with fail
              go_region_law (fail)
              all_goals go_wp2_with fail
              all_goals go_ret
              all_goals (rw [HE1.out, HL1.out]; exact FIN.out))
end Go.Proofs.YthicagfeaekmoaaGreatDoor

namespace Go.Proofs.YthicagfeaekmoaaGreatDoor
open Go.RowKit Go.Shelf Go.Mine
attribute [local go_sem] Oper.semAt_some

theorem each_any (D : Nat) (w : World) : Calls Tryz.prog 92 #[.pointer (some ⟨D, 0, none⟩)] w fun e w' =>
    e = .returned (.func (.func 133) #[] #[.pointer (some ⟨w.heap.size, 0, none⟩)]) ∧ w' = w.alloc (.cells #[.pointer (some ⟨D, 0, none⟩)] 79) := by
  go_enter Tryz.func92, Tryz.ntmps92
  go_wp2
  go_ret
  exact ⟨rfl, rfl⟩

/-- A cell's place: its number; its block's array, its place there. -/
structure CPos where
  p : Nat
  g : Nat
  i : Nat
def CPos.at_ (bl : List BV) (x : CPos) : Prop := ∃ k b, bl[k]? = some b ∧ (cellsOf (bl.take k)).length + x.i = x.p ∧ x.i < b.c.length ∧ b.v.ownBlock = some x.g
theorem CPos.get {w : World} {D MB : Nat} {v : Value} {bl : List BV} {x : CPos} (h : DocV w D v MB bl) (hx : x.at_ bl) : ∃ c, (cellsOf bl)[x.p]? = some c ∧ ∀ j, j < 5 → w.cell? ⟨x.g, x.i * 5 + j, none⟩ = c.cs[j]? := by
  obtain ⟨k, b, hk, hp, hi, hg⟩ := hx
  have hci : b.c[x.i]? = some b.c[x.i] := List.getElem?_eq_getElem hi
  rcases ownsRow_blk (h.blk b (List.mem_of_getElem? hk)).o with ⟨h1, _⟩ | ⟨g, cap, more, hv, _, hb, _⟩
  · rw [h1] at hg; cases hg
  · rw [hv] at hg
    obtain rfl : g = x.g := Option.some.inj hg
    refine ⟨b.c[x.i], ?_, fun j hj => Blk.elem CellV.len hb x.i j _ hci hj⟩
    rw [cellsOf_step hk, ← hp, List.getElem?_append_right (by omega), Nat.add_sub_cancel_left, List.getElem?_append_left hi, hci]
def CPos.enc (x : CPos) : Array Value := #[.int .i64 (x.p : Int), .pointer (some ⟨x.g, x.i * 5, none⟩)]

set_option maxHeartbeats 4000000 in
set_option maxRecDepth 1000000 in
theorem each1_any (n D MB bs : Nat) (v : Value) (bl : List BV) (hlen : (cellsOf bl).length ≤ 1099511627776) (I : Nat → World → Prop)
    (hIs : ∀ i W, I i W → Blk W bs [.pointer (some ⟨D, 0, none⟩)] 79 ∧ DocV W D v MB bl)
    (l : Nat) (J : Nat → World → Prop) (Jx : Code → Nat → World → Prop) (W : World) (hJI : ∀ s W, J s W → I s W)
    (hY : ∀ st (x : CPos) W1, J st W1 → (x.p = st ∧ x.at_ bl) → YieldAt Fence.wide (n - 1) Tryz.prog l x.enc W1 fun e W' => (e = .returned (.bool true) ∧ J (st + 1) W') ∨ (e = .returned (.bool false) ∧ ∃ c, Jx c (st + 1) W'))
    (h0 : J 0 W) :
    CallsIn Fence.wide n Tryz.prog 133 (#[.func (.yield l) #[] #[]] ++ #[.pointer (some ⟨bs, 0, none⟩)]) W fun e W' => (∃ v, e = .returned v) ∧ (J (cellsOf bl).length W' ∨ (∃ c st, Jx c st W')) := by
  obtain ⟨ks, kd⟩ := hIs _ _ (hJI _ _ h0)
  obtain ⟨va, vc, rfl, hvc, hvm⟩ := kd.form
  unfold maxLen at hvm
  have c0 : W.cell? ⟨bs, 0, none⟩ = some (.pointer (some ⟨D, 0, none⟩)) := by rw [ks.cell]; rfl
  have cd : W.cell? ⟨D, 0, none⟩ = some (.slice va bl.length vc) := kd.doc.cell 0
  clear ks kd
  refine callsIn_of_wp Tryz.func133 rfl trivial ?_ rfl
  simp only [Tryz.ntmps133, List.size_toArray, List.length_cons, List.length_nil, Nat.reduceAdd, Nat.reduceSub, Array.replicate_succ, Array.replicate_zero, List.push_toArray, List.append_toArray, List.nil_append, List.cons_append]
  gi_wp2
  gi_loopw [3, 5, 6, 14] (fun s3 s5 s6 s14 wr => ∃ k : Nat, s14 = .int .i64 k ∧ s3 = .int .i64 ((cellsOf (bl.take k)).length : Int) ∧ k ≤ bl.length ∧ J (cellsOf (bl.take k)).length wr) (fun s3 s5 s6 s14 wr => bl.length - (intOf s14).toNat)
  case atStart => exact ⟨0, rfl, rfl, Nat.zero_le _, h0⟩
  case round =>
    obtain ⟨k, rfl, rfl, hk, hJ0⟩ := hrel
    by_cases hlt : k < bl.length
    · obtain ⟨x, hx⟩ : ∃ x, bl[k]? = some x := ⟨_, List.getElem?_eq_getElem hlt⟩
      have hdx := (hIs _ _ (hJI _ _ hJ0)).2
      obtain ⟨g, rfl, ck⟩ := hdx.at_ hx
      have hbx := hdx.blk x (List.mem_of_getElem? hx)
      have b2 : wr.cell? ⟨x.p, 2, none⟩ = some x.v := by rw [hbx.b.cell]; rfl
      have hs1 := cellsOf_step hx
      have hs2 := cellsOf_succ hx
      have e1 : (cellsOf bl).length = (cellsOf (bl.take k)).length + (x.c.length + (cellsOf (bl.drop (k + 1))).length) := by rw [hs1]; simp
      have e2 : (cellsOf (bl.take (k + 1))).length = (cellsOf (bl.take k)).length + x.c.length := by rw [hs2]; simp
      obtain ⟨ax, cx, hv, hcx, hcm, hax⟩ : ∃ ax cx, x.v = .slice ax x.c.length cx ∧ x.c.length ≤ cx ∧ cx ≤ maxLen ∧ (0 < x.c.length → ∃ gx, ax = some ⟨gx, 0, none⟩) := by
        rcases ownsRow_blk hbx.o with ⟨h1, h2, _⟩ | ⟨gx, cx, _, h1, _, _, h2, h3, _⟩
        · exact ⟨none, 0, by rw [h1, h2], by omega, Nat.zero_le _, fun h => by omega⟩
        · exact ⟨_, cx, h1, h2, h3, fun _ => ⟨gx, rfl⟩⟩
      unfold maxLen at hcm
      rw [hv] at b2
      obtain ⟨P0, hP0⟩ : ∃ P0, P0 = (cellsOf (bl.take k)).length := ⟨_, rfl⟩
      obtain ⟨m, hm⟩ : ∃ m, m = x.c.length := ⟨_, rfl⟩
      rw [← hP0] at hJ0 e1 e2 ⊢
      rw [← hm] at b2 e1 e2 hcx hax
      have HV := Lib.hid hv
      have HX := Lib.hid hx
      have HP0 := Lib.hid hP0
      have HM := Lib.hid hm
      have hb1 : P0 + m ≤ 1099511627776 := by omega
      have E2 := Lib.hid e2
      clear hdx hbx hs1 hs2 e1 e2 hv hx hP0 hm
      gi_wp2_with fail
      gi_loopw [3, 6, 23] (fun s3 s6 s23 wx => ∃ i : Nat, s23 = .int .i64 i ∧ s3 = .int .i64 ((P0 + i : Nat) : Int) ∧ i ≤ m ∧ J (P0 + i) wx) (fun s3 s6 s23 wx => m - (intOf s23).toNat)
      case atStart => exact ⟨0, rfl, rfl, Nat.zero_le _, hJ0⟩
      case round =>
        obtain ⟨i, rfl, rfl, hi, hJ1⟩ := hrel
        by_cases hil : i < m
        · obtain ⟨gx, rfl⟩ := hax (by omega)
          have hd1 := (hIs _ _ (hJI _ _ hJ1)).2
          have c2 : wr.cell? ⟨x.p, 2, none⟩ = some (.slice (some ⟨gx, 0, none⟩) m cx) := by
            rw [(hd1.blk x (List.mem_of_getElem? HX.out)).b.cell, HM.out]
            exact congrArg some HV.out
          clear hd1
          obtain ⟨fn, tmps, assign, body, hy, hR⟩ := hY (P0 + i) ⟨P0 + i, gx, i⟩ wr hJ1 ⟨rfl, k, x, HX.out, by rw [HP0.out], by rw [← HM.out]; exact hil, by rw [HV.out]; rfl⟩
          unfold CPos.enc at hy
          dsimp only at hy
          rw [Int.natCast_add] at hy
          have hw : wrap64 ((P0 : Int) + (i : Int) + 1) = (P0 : Int) + (i : Int) + 1 := by unfold wrap64; omega
          gi_wp2_with fail
          refine ⟨fun h => (by cases h), ?_⟩
          refine hR.mono ?_
          rintro e W' (⟨rfl, hj⟩ | ⟨rfl, cc, hj⟩)
          · gi_wp2
            refine ⟨⟨i + 1, by simp, by rw [← Nat.add_assoc, Int.natCast_add, Int.natCast_add]; rfl, by omega, hj⟩, by simp [intOf]; omega⟩
          · gi_wp2
            refine bodyPost_ret (results_none rfl _ _ _) rfl ?_
            exact ⟨⟨_, rfl⟩, .inr ⟨cc, _, hj⟩⟩
        · obtain rfl : i = m := by omega
          gi_wp2_with fail
          rw [← E2.out] at hJ1
          refine ⟨⟨k + 1, by simp, by rw [E2.out], by omega, hJ1⟩, by simp [intOf]; omega⟩
    · obtain rfl : k = bl.length := by omega
      rw [List.take_length] at hJ0
      gi_wp2_with fail
      go_end0
      exact ⟨⟨_, rfl⟩, .inl hJ0⟩
end Go.Proofs.YthicagfeaekmoaaGreatDoor

namespace Go.Proofs.YthicagfeaekmoaaGreatDoor
open Go.RowKit Go.Shelf Go.Mine
open Classical

/-- A document lies among what was there; what is new is changed. -/
theorem DocV.new {w W W' : World} {D MB : Nat} {v : Value} {bl : List BV} (h0 : DocV w D v MB bl) (h : DocV W D v MB bl) (m : Mod (fun k => w.heap.size ≤ k) W W') : DocV W' D v MB bl :=
  h.mod m (fun k hk e => by have := h0.flt hk; have e' : w.heap.size ≤ k := e; omega)

/-- 'l = append(l, x)', l being a cell of one's own. -/
theorem appOne {W Y : World} {B L0 X n vc size bytes : Nat} {va : Option Addr} {e tl : TypeId} {xs cs : List Value} {i : TypeInfo} {z : Value} (hu : Tryz.prog.underlying tl = some (.slice e)) (hi : Tryz.prog.info? e = some i) (hz : i.zero = some z) (hs : i.size = size) (hb : i.bytes = bytes) (hzs : z.cells.size = size) (h0 : 0 < size)
    (ho : W.ownsRow B e size (.slice va n vc) n xs) (kl : Blk W L0 [.slice va n vc] tl) (hte : tl ≠ e) (mY : Mod none_ W Y) (kY : Blk Y X cs e) (hcs : cs.length = 1 * size) (h1 : ∀ u ∈ cs, u.oneCell' = true) (hn : (n + 1) * bytes ≤ 140737488355328) (hn2 : n + 1 ≤ maxLen) (hB : B ≤ W.heap.size) (hBL : B ≤ L0) :
    ∃ va' vc' w4, (appSem #[tl, tl] tl #[.slice va n vc, .slice (some ⟨X, 0, none⟩) 1 1]).run Tryz.prog Y = .ok (.slice va' (n + 1) vc') w4 ∧ Blk w4 L0 [.slice va n vc] tl ∧ Mod (fun k => B ≤ k) W w4 ∧ KeepsOthers W w4 ∧
      Blk (w4.setCell ⟨L0, 0, none⟩ (.slice va' (n + 1) vc')) L0 [.slice va' (n + 1) vc'] tl ∧ (w4.setCell ⟨L0, 0, none⟩ (.slice va' (n + 1) vc')).ownsRow B e size (.slice va' (n + 1) vc') (n + 1) (xs ++ cs) ∧
      KeepsOthers W (w4.setCell ⟨L0, 0, none⟩ (.slice va' (n + 1) vc')) ∧ Mod (fun k => B ≤ k) W (w4.setCell ⟨L0, 0, none⟩ (.slice va' (n + 1) vc')) ∧
      ∀ (b : Nat) (ds : List Value) (t : TypeId), b ≠ L0 → t ≠ e → Blk W b ds t → Blk (w4.setCell ⟨L0, 0, none⟩ (.slice va' (n + 1) vc')) b ds t := by
  have hoY := ownsRow_mod ho mY (fun _ _ e => e)
  have klY := kl.mod mY (fun e => e)
  obtain ⟨v', w4, hrun, hown, hgrow, _⟩ := run_append_own (P := Tryz.prog) Y B tl tl e i z size bytes hu hi hz hs hb hzs h0 (.slice va n vc) n xs hoY ⟨X, 0, none⟩ 1 1 cs hcs (World.news_of_block kY) h1 hn2 hn (Nat.le_trans hB mY.size)
  have hpos : 0 < n + 1 := Nat.succ_pos n
  obtain ⟨va', vc', rfl⟩ : ∃ va' vc', v' = .slice va' (n + 1) vc' := by
    rcases ownsRow_blk hown with ⟨_, h0, _⟩ | ⟨g, c', _, rfl, _⟩
    · omega
    · exact ⟨_, c', rfl⟩
  have mg : Mod (fun k => (Value.slice va n vc).ownBlock = some k) Y w4 := (Mod.refl _ Y).grown hgrow (fun k e _ => e)
  have lo : ∀ k, (Value.slice va n vc).ownBlock = some k → B ≤ k := fun k hk => (ho.lt k hk).1
  have m4 : Mod (fun k => B ≤ k) W w4 := (mY.mono (fun _ _ e => e.elim)).trans (mg.mono (fun k _ hk => lo k hk))
  have k4 := klY.mod mg (fun e => by
    obtain ⟨c, hk⟩ := ownsRow_type hoY e
    exact Blk.apart klY hk hte rfl)
  have ko4 : KeepsOthers W w4 := (keeps_none mY).trans (keeps_of_mod mg (fun k hk o ho' => by
    obtain ⟨c, hc⟩ := ownsRow_type hoY hk
    unfold Blk at hc
    rw [hc] at ho'; cases ho'; rfl))
  have mS : Mod (one L0) w4 (w4.setCell ⟨L0, 0, none⟩ (.slice va' (n + 1) vc')) := (Mod.refl (one L0) w4).setCell ⟨L0, 0, none⟩ (fun _ => rfl) _
  refine ⟨va', vc', w4, hrun, k4, m4, ko4, k4.set 0 _, ownsRow_mod hown mS (fun k hk e => ?_), ko4.trans (KeepsOthers.setCell _ _ _), m4.trans (mS.mono (fun k _ e => by have e' : k = L0 := e; omega)), fun b ds t hb ht k => ?_⟩
  · have e' : k = L0 := e
    subst e'
    obtain ⟨c, hc⟩ := ownsRow_type hown hk
    exact Blk.apart k4 hc hte rfl
  · have kY' := k.mod mY (fun e => e)
    refine (kY'.mod mg (fun e => ?_)).mod mS hb
    obtain ⟨c, hc⟩ := ownsRow_type hoY e
    exact Blk.apart kY' hc ht rfl
end Go.Proofs.YthicagfeaekmoaaGreatDoor

namespace Go.Proofs.YthicagfeaekmoaaGreatDoor
open Go.RowKit Go.Shelf Go.Mine
attribute [local go_sem] Oper.semAt_some
attribute [local go_sem ↓] app_fold

abbrev spCs (x : Int × Int) : List Value := [.int .i64 x.1, .int .i64 x.2]
theorem spCs_len (x : Int × Int) : (spCs x).length = 2 := rfl
/-- A place more, behind all of a list. -/
def addPl (L : List (Int × Int)) (p : Nat) : List (Int × Int) := match L.getLast? with
  | some (f, n) => if f + n = p then L.dropLast ++ [(f, n + 1)] else L ++ [((p : Int), 1)]
  | none => [((p : Int), 1)]
/-- The places below n that P marks. -/
def plsOf (P : Nat → Bool) : Nat → List (Int × Int)
  | 0 => []
  | n + 1 => if P n then addPl (plsOf P n) n else plsOf P n
theorem addPl_len (L : List (Int × Int)) (p : Nat) : (addPl L p).length ≤ L.length + 1 := by
  unfold addPl
  cases h : L.getLast? with
  | none => simp
  | some x =>
    obtain ⟨f, n⟩ := x
    simp only
    split
    · simp
    · simp
theorem plsOf_len (P : Nat → Bool) : ∀ n, (plsOf P n).length ≤ n
  | 0 => Nat.le_refl _
  | n + 1 => by
    have ih := plsOf_len P n
    rw [plsOf]
    split
    · have := addPl_len (plsOf P n) n; omega
    · omega
/-- Each span ends at n at most. -/
theorem plsOf_in (P : Nat → Bool) : ∀ n, ∀ x ∈ plsOf P n, 0 ≤ x.1 ∧ 1 ≤ x.2 ∧ x.1 + x.2 ≤ n
  | 0, x, hx => by cases hx
  | n + 1, x, hx => by
    have ih := plsOf_in P n
    rw [plsOf] at hx
    split at hx
    · unfold addPl at hx
      cases h : (plsOf P n).getLast? with
      | none =>
        rw [h] at hx
        obtain rfl := List.mem_singleton.1 hx
        simp
      | some y =>
        obtain ⟨f, m⟩ := y
        rw [h] at hx
        have hm := ih _ (List.mem_of_getLast? h)
        simp only at hx hm
        split at hx
        · rcases List.mem_append.1 hx with hx | hx
          · have := ih x (List.dropLast_subset _ hx); omega
          · obtain rfl := List.mem_singleton.1 hx
            simp; omega
        · rcases List.mem_append.1 hx with hx | hx
          · have := ih x hx; omega
          · obtain rfl := List.mem_singleton.1 hx
            simp
    · have := ih x hx; omega
/-- The last span of a list, one longer. -/
theorem flat_more (L : List (Int × Int)) (n1 : Nat) (f m : Int) (hl : L.length = n1 + 1) (hx : L[n1]? = some (f, m)) (more : List Value) :
    (flat spCs L ++ more).set (n1 * 2 + 1) (.int .i64 (m + 1)) = flat spCs (L.dropLast ++ [(f, m + 1)]) ++ more := by
  obtain ⟨hi, e⟩ := List.getElem?_eq_some_iff.1 hx
  have hL : L = L.dropLast ++ [(f, m)] := by
    have hne : L ≠ [] := by intro h0; rw [h0] at hl; simp at hl
    have := List.dropLast_concat_getLast hne
    rw [List.getLast_eq_getElem] at this
    simp only [hl, Nat.add_sub_cancel, e] at this
    exact this.symm
  have hd : L.dropLast.length = n1 := by rw [List.length_dropLast, hl]; rfl
  conv => lhs; rw [hL]
  rw [flat_append, flat_append, List.append_assoc, List.append_assoc]
  have hfl : (flat spCs L.dropLast).length = n1 * 2 := by rw [flat_length spCs_len, hd]
  rw [List.set_append_right _ _ (by omega), hfl, show n1 * 2 + 1 - n1 * 2 = 1 by omega]
  rfl
theorem addPl_nil (p : Nat) : addPl [] p = [((p : Int), 1)] := rfl
theorem addPl_some {L : List (Int × Int)} {n1 : Nat} {f m : Int} (hl : L.length = n1 + 1) (hx : L[n1]? = some (f, m)) (p : Nat) : addPl L p = if f + m = p then L.dropLast ++ [(f, m + 1)] else L ++ [((p : Int), 1)] := by
  have : L.getLast? = some (f, m) := by rw [List.getLast?_eq_getElem?, hl]; exact hx
  unfold addPl
  rw [this]
theorem infoSpan : (Tryz.prog.info? 49).map (fun i => (i.zero, i.size, i.bytes)) = some (some (.agg #[.int .i64 0, .int .i64 0]), 2, 16) := by kernel_rfl


def gonI (w : World) (D MB : Nat) (v : Value) (bl : List BV) (P : Nat → Bool) (st : Nat) (W : World) : Prop :=
  Mod none_ w W ∧ DocV W D v MB bl ∧ Blk W w.heap.size [.func (.func 96) #[] #[]] 155 ∧ Blk W (w.heap.size + 2) [.pointer (some ⟨D, 0, none⟩)] 79 ∧
    ∃ va n vc, Blk W (w.heap.size + 1) [.slice va n vc] 29 ∧ W.ownsRow w.heap.size 49 2 (.slice va n vc) n (flat spCs (plsOf P st)) ∧ n = (plsOf P st).length

theorem gone1_any (w : World) (g o : Nat) (b : Bool) (h : w.cell? ⟨g, o + 4, none⟩ = some (.bool b)) :
    Calls Tryz.prog 96 #[.pointer (some ⟨g, o, none⟩)] w fun e w' => e = .returned (.bool b) ∧ w' = w := by
  go_enter Tryz.func96, Tryz.ntmps96
  go_wp2
  go_ret
  exact ⟨rfl, rfl⟩

set_option maxHeartbeats 8000000 in
set_option maxRecDepth 1000000 in
theorem goneP_any (w : World) (D MB : Nat) (v : Value) (bl : List BV) (P : Nat → Bool) (h : DocV w D v MB bl) (hlen : (cellsOf bl).length ≤ 1099511627776) (hP : ∀ i c, (cellsOf bl)[i]? = some c → c.gone = P i) :
    Calls Tryz.prog 95 #[.pointer (some ⟨D, 0, none⟩), .func (.func 96) #[] #[]] w fun e w' => (∃ va n vc, e = .returned (.slice va n vc) ∧ w'.ownsRow w.heap.size 49 2 (.slice va n vc) n (flat spCs (plsOf P (cellsOf bl).length))) ∧ Mod none_ w w' := by
  have HDW := Lib.hid h
  have HPP := Lib.hid hP
  clear hP
  refine (callsIn_wide (n := 5)).1 ?_
  refine callsIn_of_wp_marks Tryz.func95 rfl trivial ?_ rfl
  simp only [Tryz.ntmps95, List.size_toArray, List.length_cons, List.length_nil, Nat.reduceAdd, Nat.reduceSub, Array.replicate_succ, Array.replicate_zero, List.push_toArray, List.append_toArray, List.nil_append, List.cons_append]
  gi_wp2_with fail
  refine ⟨trivial, ?_⟩
  refine (callsIn_wide.2 (each_any D _)).mono ?_
  rintro e w2 ⟨rfl, rfl⟩
  gi_wp2_with fail
  obtain ⟨W0, hW0⟩ : ∃ W0, ((w.alloc (.cells #[.func (.func 96) #[] #[]] 155)).alloc (.cells #[.slice none 0 0] 29)).alloc (.cells #[.pointer (some ⟨D, 0, none⟩)] 79) = W0 := ⟨_, rfl⟩
  have hz : W0.heap.size = w.heap.size + 3 := by rw [← hW0]; simp
  have hI0 : gonI w D MB v bl P 0 W0 := by
    rw [← hW0]
    have b0 := Blk.new (w := w) (cs := [.func (.func 96) #[] #[]]) (t := 155)
    have b1 := Blk.new (w := w.alloc (.cells #[.func (.func 96) #[] #[]] 155)) (cs := [.slice none 0 0]) (t := 29)
    have b2 := Blk.new (w := (w.alloc (.cells #[.func (.func 96) #[] #[]] 155)).alloc (.cells #[.slice none 0 0] 29)) (cs := [.pointer (some ⟨D, 0, none⟩)]) (t := 79)
    rw [World.size_alloc] at b1
    rw [World.size_alloc, World.size_alloc] at b2
    have m := (((Mod.refl none_ w).alloc (.cells #[.func (.func 96) #[] #[]] 155)).alloc (.cells #[.slice none 0 0] 29)).alloc (.cells #[.pointer (some ⟨D, 0, none⟩)] 79)
    exact ⟨m, h.grown m, (b0.mod ((Mod.refl none_ _).alloc _) (fun e => e)).mod ((Mod.refl none_ _).alloc _) (fun e => e), b2, none, 0, 0, b1.mod ((Mod.refl none_ _).alloc _) (fun e => e), ⟨by simp [plsOf], .inl ⟨rfl, rfl⟩⟩, rfl⟩
  rw [hW0]
  clear hW0
  refine rangeFunc_law (w := W0) rfl (by decide) (gf := 133) (lb := #[.pointer (some ⟨w.heap.size + 1 + 1, 0, none⟩)]) rfl trivial (enters_of Tryz.func133 (by kernel_rfl) rfl)
    CPos.enc (fun _ => rfl) (gonI w D MB v bl P) (fun _ _ _ => False) (fun st _ => st + 1) (fun st x => x.p = st ∧ x.at_ bl) (fun st => st = (cellsOf bl).length) 0 ?hI ?hIx hI0
    (fun x => { tmps := #[.pointer (some ⟨D, 0, none⟩), .func (.func 96) #[] #[], undef, .pointer (some ⟨w.heap.size, 0, none⟩), .slice none 0 0, .pointer (some ⟨w.heap.size + 1, 0, none⟩), .int .i64 (x.p : Int), .pointer (some ⟨x.g, x.i * 5, none⟩), undef, .pointer (some ⟨D, 0, none⟩), .func (.func 133) #[] #[.pointer (some ⟨w.heap.size + 1 + 1, 0, none⟩)], .int .i64 (x.p : Int), .pointer (some ⟨x.g, x.i * 5, none⟩), undef, undef, undef, undef, undef, undef, undef, undef, undef, undef, undef, undef, undef, undef, undef, undef, undef, undef, undef, undef, undef, undef, undef, undef, undef, undef, undef, undef, undef, undef, undef, undef, undef, undef, undef, undef, undef, undef], defers := [] }) ?hiter ?assign ?body ?done ?stop
  case hI =>
    rintro st W W' ⟨m0, hd, kF, kB, va, n, vc, k0, ho, hn⟩ m
    refine ⟨m0.transOwn m (by omega), hd.own m, kF.own m, kB.own m, va, n, vc, k0.own m, ownsRow_mod ho m (fun k hk s => ?_), hn⟩
    obtain ⟨cs, hc⟩ := ownsRow_type ho hk
    have := s.2 _ hc; cases this
  case hIx => rintro c st W W' h m; exact h
  case hiter =>
    intro l J Jx W hJI hJ hY h0
    refine (each1_any (5 - 1) D MB _ v bl hlen (gonI w D MB v bl P) (fun i W h => ⟨h.2.2.2.1, h.2.1⟩) l J Jx W hJI hY h0).mono ?_
    rintro e W' ⟨h1, h2 | h2⟩
    · exact ⟨h1, .inl ⟨_, rfl, h2⟩⟩
    · exact ⟨h1, .inr h2⟩
  case assign =>
    intro l x W K hK
    unfold CPos.enc
    gi_wp2
    exact hK
  case body =>
    rintro l st x W ⟨m0, hd, kF, kB, va, n, vc, k0, ho, hn⟩ ⟨rfl, hx⟩
    obtain ⟨c, hc, hcs⟩ := CPos.get hd hx
    have hlt := (List.getElem?_eq_some_iff.1 hc).1
    have x4 : W.cell? ⟨x.g, x.i * 5 + 4, none⟩ = some (.bool c.gone) := hcs 4 (by omega)
    have HG := Lib.hid (gone1_any W x.g (x.i * 5) c.gone x4)
    have hgp := HPP.out x.p c hc
    rw [hgp] at HG
    have cF : W.cell? ⟨w.heap.size, 0, none⟩ = some (.func (.func 96) #[] #[]) := kF.cell 0
    have cL : W.cell? ⟨w.heap.size + 1, 0, none⟩ = some (.slice va n vc) := k0.cell 0
    cases hp : P x.p
    · rw [hp] at HG
      have hps : plsOf P (x.p + 1) = plsOf P x.p := by rw [plsOf, hp]; rfl
      have FIN := Lib.hid (show KeepsOthers W W ∧ gonI w D MB v bl P (x.p + 1) W from ⟨KeepsOthers.refl _, m0, hd, kF, kB, va, n, vc, k0, by rw [hps]; exact ho, by rw [hps]; exact hn⟩)
      clear hI0 hd kF kB k0 ho hn hx hc hcs hlt hgp hps m0 x4
      gi_wp2_with fail
      refine ⟨trivial, ?_⟩
      refine (CallsIn.inRound l (callsIn_wide.2 HG.out)).mono ?_
      rintro e w' ⟨rfl, rfl⟩
      gi_wp2_with fail
      exact FIN.out
    · rw [hp] at HG
      have hps : plsOf P (x.p + 1) = addPl (plsOf P x.p) x.p := by rw [plsOf, hp]; rfl
      have hpb : x.p ≤ 1099511627776 := by omega
      have hnb : n ≤ x.p := by rw [hn]; exact plsOf_len P x.p
      have hin := plsOf_in P x.p
      obtain ⟨L, hL⟩ : ∃ L, L = plsOf P x.p := ⟨_, rfl⟩
      rw [← hL] at ho hn hps hin
      have hYM : Mod none_ W ((W.alloc (.cells #[.int .i64 (x.p : Int), .int .i64 1] 49)).drew) := ((Mod.refl none_ W).alloc _).drew
      obtain ⟨i0, hi0, hz0, hz1, hz2⟩ := info_parts infoSpan
      obtain ⟨va', vc', w4, hrun, k4, m4, ko4, kL, hoL, koL, mL, prL⟩ := appOne (X := W.heap.size) (e := 49) (tl := 29) Tryz.underlying29 hi0 hz0 hz1 hz2 rfl (by decide) ho k0 (by decide) hYM (cs := [.int .i64 (x.p : Int), .int .i64 1]) (Blk.new (w := W) (cs := [.int .i64 (x.p : Int), .int .i64 1]) (t := 49)).drew rfl (fun u hu => by simp at hu; rcases hu with rfl | rfl <;> rfl) (by omega) (by unfold maxLen; omega) m0.size (by omega)
      have c4 : w4.cell? ⟨w.heap.size + 1, 0, none⟩ = some (.slice va n vc) := k4.cell 0
      have f4 := k4.frozen 0
      have hwl : w.heap.size + 1 < W.heap.size := k0.lt
      have mw : Mod none_ w (w4.setCell ⟨w.heap.size + 1, 0, none⟩ (.slice va' (n + 1) vc')) := m0.transIn mL (fun b hb e => by have e' : w.heap.size ≤ b := e; omega)
      have FIN := Lib.hid (fun (ha : addPl L x.p = L ++ [((x.p : Int), 1)]) => (show KeepsOthers W (w4.setCell ⟨w.heap.size + 1, 0, none⟩ (.slice va' (n + 1) vc')) ∧ gonI w D MB v bl P (x.p + 1) (w4.setCell ⟨w.heap.size + 1, 0, none⟩ (.slice va' (n + 1) vc')) from
        ⟨koL, mw, HDW.out.new hd mL, prL _ _ _ (by omega) (by decide) kF, prL _ _ _ (by omega) (by decide) kB, va', n + 1, vc', kL, by rw [hps, ha]; simpa using hoL, by rw [hps, ha]; simp [hn]⟩))
      have hwc : w.heap.size < W.heap.size := kF.lt
      by_cases hn0 : n = 0
      · subst hn0
        have hL0 : L = [] := List.eq_nil_of_length_eq_zero hn.symm
        have FN := Lib.hid (FIN.out (by rw [hL0]; rfl))
        clear hI0 hd kF kB k0 ho hn hx hc hcs hlt hgp hps m0 x4 hin hYM hi0 hz0 hz1 hz2 k4 m4 ko4 kL hoL koL mL prL mw FIN hL0
        gi_wp2_with fail
        refine ⟨trivial, ?_⟩
        refine (CallsIn.inRound l (callsIn_wide.2 HG.out)).mono ?_
        rintro e w' ⟨rfl, rfl⟩
        gi_wp2_with fail
        refine round_held (S := fun _ => True) (by kernel_rfl) (by kernel_rfl) (fun ⟨_, _, h⟩ => h) trivial (fun hS => ?_)
        refine wpAnyH_take (i := 0) (v := .int .i64 (-1)) rfl (by kernel_rfl) (by kernel_rfl) (by kernel_rfl) (fun _ _ _ h => h) (Or.inl ⟨by kernel_rfl, ?_⟩) hS ?_
        · rintro w' _; go_simp
        try simp only [Act.put, List.setIfInBounds_toArray]
        refine wpAnyH_take (i := 1) (v := .bool false) rfl (by kernel_rfl) (by kernel_rfl) (by kernel_rfl) (fun _ _ _ h => h) (Or.inl ⟨by kernel_rfl, ?_⟩) hS ?_
        · rintro w' _; go_simp
        try simp only [Act.put]
        refine wpAnyH_take (i := 2) (v := .bool false) rfl (by kernel_rfl) (by kernel_rfl) (by kernel_rfl) (fun _ _ _ h => h) (Or.inl ⟨by kernel_rfl, ?_⟩) hS ?_
        · rintro w' _; go_simp
        try simp only [Act.put]
        refine wpAnyH_take (i := 3) (v := undef) rfl (by kernel_rfl) (by kernel_rfl) (by kernel_rfl) (fun _ _ _ h => h) (Or.inr ⟨by kernel_rfl, rfl⟩) hS ?_
        try simp only [Act.put]
        refine wpAnyH_take (i := 4) (v := undef) rfl (by kernel_rfl) (by kernel_rfl) (by kernel_rfl) (fun _ _ _ h => h) (Or.inr ⟨by kernel_rfl, rfl⟩) hS ?_
        try simp only [Act.put]
        refine wpAnyH_take (i := 5) (v := undef) rfl (by kernel_rfl) (by kernel_rfl) (by kernel_rfl) (fun _ _ _ h => h) (Or.inr ⟨by kernel_rfl, rfl⟩) hS ?_
        try simp only [Act.put]
        refine wpAnyH_take (i := 6) (v := undef) rfl (by kernel_rfl) (by kernel_rfl) (by kernel_rfl) (fun _ _ _ h => h) (Or.inr ⟨by kernel_rfl, rfl⟩) hS ?_
        try simp only [Act.put]
        refine wpAnyH_take (i := 7) (v := undef) rfl (by kernel_rfl) (by kernel_rfl) (by kernel_rfl) (fun _ _ _ h => h) (Or.inr ⟨by kernel_rfl, rfl⟩) hS ?_
        try simp only [Act.put]
        refine wpAnyH_take (i := 8) (v := undef) rfl (by kernel_rfl) (by kernel_rfl) (by kernel_rfl) (fun _ _ _ h => h) (Or.inr ⟨by kernel_rfl, rfl⟩) hS ?_
        try simp only [Act.put]
        refine wpAnyH_take (i := 9) (v := undef) rfl (by kernel_rfl) (by kernel_rfl) (by kernel_rfl) (fun _ _ _ h => h) (Or.inr ⟨by kernel_rfl, rfl⟩) hS ?_
        try simp only [Act.put]
        refine wpAnyH_take (i := 10) (v := undef) rfl (by kernel_rfl) (by kernel_rfl) (by kernel_rfl) (fun _ _ _ h => h) (Or.inr ⟨by kernel_rfl, rfl⟩) hS ?_
        try simp only [Act.put]
        refine wpAnyH_take (i := 11) (v := undef) rfl (by kernel_rfl) (by kernel_rfl) (by kernel_rfl) (fun _ _ _ h => h) (Or.inr ⟨by kernel_rfl, rfl⟩) hS ?_
        try simp only [Act.put]
        refine wpAnyH_take (i := 12) (v := undef) rfl (by kernel_rfl) (by kernel_rfl) (by kernel_rfl) (fun _ _ _ h => h) (Or.inr ⟨by kernel_rfl, rfl⟩) hS ?_
        try simp only [Act.put]
        refine wpAnyH_take (i := 13) (v := undef) rfl (by kernel_rfl) (by kernel_rfl) (by kernel_rfl) (fun _ _ _ h => h) (Or.inr ⟨by kernel_rfl, rfl⟩) hS ?_
        try simp only [Act.put]
        refine wpAnyH_take (i := 14) (v := undef) rfl (by kernel_rfl) (by kernel_rfl) (by kernel_rfl) (fun _ _ _ h => h) (Or.inr ⟨by kernel_rfl, rfl⟩) hS ?_
        try simp only [Act.put]
        refine wpAnyH_take (i := 15) (v := undef) rfl (by kernel_rfl) (by kernel_rfl) (by kernel_rfl) (fun _ _ _ h => h) (Or.inr ⟨by kernel_rfl, rfl⟩) hS ?_
        try simp only [Act.put]
        refine wpAnyH_take (i := 16) (v := .bool false) rfl (by kernel_rfl) (by kernel_rfl) (by kernel_rfl) (fun _ _ _ h => h) (Or.inl ⟨by kernel_rfl, ?_⟩) hS ?_
        · rintro w' _; go_simp
        try simp only [Act.put]
        refine wpAnyH_done (by kernel_rfl) ?_ _
        try simp only [List.getElem_toArray, List.getElem_cons_succ, List.getElem_cons_zero]
        try simp only [List.setIfInBounds_toArray, List.set_cons_zero, List.set_cons_succ]
        gi_wp2_with fail
        exact FN.out
      · obtain ⟨n1, rfl⟩ : ∃ n1, n = n1 + 1 := ⟨n - 1, by omega⟩
        obtain ⟨⟨f, m⟩, hxl⟩ : ∃ y, L[n1]? = some y := ⟨L[n1]'(by omega), by simp⟩
        have hfm := hin (f, m) (List.mem_of_getElem? hxl)
        dsimp only at hfm
        rcases ownsRow_blk ho with ⟨_, h0, _⟩ | ⟨g, cap, more, hsl, hgb, kg, hnc, hcm, hll⟩
        · omega
        obtain ⟨rfl, rfl⟩ : va = some ⟨g, 0, none⟩ ∧ vc = cap := by simpa using hsl
        unfold maxLen at hcm
        have c0 : W.cell? ⟨g, n1 * 2, none⟩ = some (.int .i64 f) := Blk.elem spCs_len kg n1 0 _ hxl (by decide)
        have c1 : W.cell? ⟨g, n1 * 2 + 1, none⟩ = some (.int .i64 m) := Blk.elem spCs_len kg n1 1 _ hxl (by decide)
        have r1 := kg.frozen (n1 * 2 + 1)
        have hgL : g ≠ w.heap.size + 1 := Blk.apart kg k0 (by decide)
        have hix : ¬ ((n1 : Int) + 1 ≤ (n1 : Int)) := by omega
        have hwx : IntKind.i64.wrap (x.p : Int) = (x.p : Int) := by rw [IntKind.wrap_i64]; omega
        have hwf : IntKind.i64.wrap (f + m) = f + m := by rw [IntKind.wrap_i64]; omega
        have hadd := addPl_some hn.symm hxl x.p
        by_cases he : f + m = (x.p : Int)
        · rw [if_pos he] at hadd
          have hbe : (f + m == (x.p : Int)) = true := by simpa using he
          have hmS : Mod (one g) W ((W.setCell ⟨g, n1 * 2 + 1, none⟩ (.int .i64 (m + 1))).drew) := ((Mod.refl (one g) W).setCell ⟨g, n1 * 2 + 1, none⟩ (fun _ => rfl) _).drew
          have kg' := (kg.set (n1 * 2 + 1) (.int .i64 (m + 1))).drew
          rw [flat_more L n1 f m hn.symm hxl more, ← hadd, ← hps] at kg'
          have hL2 : (plsOf P (x.p + 1)).length = n1 + 1 := by rw [hps, hadd]; simp [← hn]
          have FI := Lib.hid (show KeepsOthers W ((W.setCell ⟨g, n1 * 2 + 1, none⟩ (.int .i64 (m + 1))).drew) ∧ gonI w D MB v bl P (x.p + 1) ((W.setCell ⟨g, n1 * 2 + 1, none⟩ (.int .i64 (m + 1))).drew) from
            ⟨⟨by rw [show ((W.setCell ⟨g, n1 * 2 + 1, none⟩ (.int .i64 (m + 1))).drew).heap.size = W.heap.size from by simp [World.setCell]]; exact Nat.le_refl _, fun k o hk ho' => (KeepsOthers.setCell W ⟨g, n1 * 2 + 1, none⟩ (.int .i64 (m + 1))).same k o hk ho'⟩, m0.transIn hmS (fun b hb e => by have e' : b = g := e; omega), hd.mod hmS (fun k hk e => by have e' : k = g := e; have := HDW.out.flt hk; omega), kF.mod hmS (Blk.apart kF kg (by decide)), kB.mod hmS (Blk.apart kB kg (by decide)), _, n1 + 1, _, k0.mod hmS (fun e => hgL e.symm), blk_ownsRow hgb kg' (by rw [flat_length spCs_len, hL2]) hnc (by unfold maxLen; omega) (by rw [flat_length spCs_len, hL2]; rw [flat_length spCs_len, ← hn] at hll; exact hll), hL2.symm⟩)
          clear hI0 hd kF kB k0 ho hn hx hc hcs hlt hgp hps m0 x4 hin hYM hi0 hz0 hz1 hz2 k4 m4 ko4 kL hoL koL mL prL mw FIN hsl hgb kg hll hxl hadd hmS kg' hL2 hL c4 f4 hrun
          gi_wp2_with fail
          refine ⟨trivial, ?_⟩
          refine (CallsIn.inRound l (callsIn_wide.2 HG.out)).mono ?_
          rintro e w' ⟨rfl, rfl⟩
          gi_wp2_with fail
          refine round_held (S := fun w' => w'.cell? ⟨w.heap.size + 1, 0, none⟩ = some (.slice (some ⟨g, 0, none⟩) (n1 + 1) vc) ∧ w'.cell? ⟨g, n1 * 2, none⟩ = some (.int .i64 f) ∧ w'.cell? ⟨g, n1 * 2 + 1, none⟩ = some (.int .i64 m)) (by kernel_rfl) (by kernel_rfl) (fun ⟨_, _, h⟩ => h) ⟨cL, c0, c1⟩ (fun hS => ?_)
          refine wpAnyH_take (i := 0) (v := .int .i64 (n1 : Int)) rfl (by kernel_rfl) (by kernel_rfl) (by kernel_rfl) (fun _ _ _ h => h) (Or.inl ⟨by kernel_rfl, ?_⟩) hS ?_
          · rintro w' ⟨q, q0, q1⟩; go_simp
          try simp only [Act.put, List.setIfInBounds_toArray]
          refine wpAnyH_take (i := 1) (v := .bool true) rfl (by kernel_rfl) (by kernel_rfl) (by kernel_rfl) (fun _ _ _ h => h) (Or.inl ⟨by kernel_rfl, ?_⟩) hS ?_
          · rintro w' ⟨q, q0, q1⟩; go_simp
          try simp only [Act.put]
          refine wpAnyH_take (i := 2) (v := .bool true) rfl (by kernel_rfl) (by kernel_rfl) (by kernel_rfl) (fun _ _ _ h => h) (Or.inl ⟨by kernel_rfl, ?_⟩) hS ?_
          · rintro w' ⟨q, q0, q1⟩; go_simp
          try simp only [Act.put]
          refine wpAnyH_take (i := 3) (v := .slice (some ⟨g, 0, none⟩) (n1 + 1) vc) rfl (by kernel_rfl) (by kernel_rfl) (by kernel_rfl) (fun _ _ _ h => h) (Or.inl ⟨by kernel_rfl, ?_⟩) hS ?_
          · rintro w' ⟨q, q0, q1⟩; go_simp
          try simp only [Act.put]
          refine wpAnyH_take (i := 4) (v := .int .i64 (n1 : Int)) rfl (by kernel_rfl) (by kernel_rfl) (by kernel_rfl) (fun _ _ _ h => h) (Or.inl ⟨by kernel_rfl, ?_⟩) hS ?_
          · rintro w' ⟨q, q0, q1⟩; go_simp
          try simp only [Act.put]
          refine wpAnyH_take (i := 5) (v := .pointer (some ⟨g, n1 * 2, none⟩)) rfl (by kernel_rfl) (by kernel_rfl) (by kernel_rfl) (fun _ _ _ h => h) (Or.inl ⟨by kernel_rfl, ?_⟩) hS ?_
          · rintro w' ⟨q, q0, q1⟩; go_simp
          try simp only [Act.put]
          refine wpAnyH_take (i := 6) (v := .pointer (some ⟨g, n1 * 2, none⟩)) rfl (by kernel_rfl) (by kernel_rfl) (by kernel_rfl) (fun _ _ _ h => h) (Or.inl ⟨by kernel_rfl, ?_⟩) hS ?_
          · rintro w' ⟨q, q0, q1⟩; go_simp
          try simp only [Act.put]
          refine wpAnyH_take (i := 7) (v := .int .i64 f) rfl (by kernel_rfl) (by kernel_rfl) (by kernel_rfl) (fun _ _ _ h => h) (Or.inl ⟨by kernel_rfl, ?_⟩) hS ?_
          · rintro w' ⟨q, q0, q1⟩; go_simp
          try simp only [Act.put]
          refine wpAnyH_take (i := 8) (v := .slice (some ⟨g, 0, none⟩) (n1 + 1) vc) rfl (by kernel_rfl) (by kernel_rfl) (by kernel_rfl) (fun _ _ _ h => h) (Or.inl ⟨by kernel_rfl, ?_⟩) hS ?_
          · rintro w' ⟨q, q0, q1⟩; go_simp
          try simp only [Act.put]
          refine wpAnyH_take (i := 9) (v := .int .i64 (n1 : Int)) rfl (by kernel_rfl) (by kernel_rfl) (by kernel_rfl) (fun _ _ _ h => h) (Or.inl ⟨by kernel_rfl, ?_⟩) hS ?_
          · rintro w' ⟨q, q0, q1⟩; go_simp
          try simp only [Act.put]
          refine wpAnyH_take (i := 10) (v := .pointer (some ⟨g, n1 * 2, none⟩)) rfl (by kernel_rfl) (by kernel_rfl) (by kernel_rfl) (fun _ _ _ h => h) (Or.inl ⟨by kernel_rfl, ?_⟩) hS ?_
          · rintro w' ⟨q, q0, q1⟩; go_simp
          try simp only [Act.put]
          refine wpAnyH_take (i := 11) (v := .pointer (some ⟨g, n1 * 2 + 1, none⟩)) rfl (by kernel_rfl) (by kernel_rfl) (by kernel_rfl) (fun _ _ _ h => h) (Or.inl ⟨by kernel_rfl, ?_⟩) hS ?_
          · rintro w' ⟨q, q0, q1⟩; go_simp
          try simp only [Act.put]
          refine wpAnyH_take (i := 12) (v := .int .i64 m) rfl (by kernel_rfl) (by kernel_rfl) (by kernel_rfl) (fun _ _ _ h => h) (Or.inl ⟨by kernel_rfl, ?_⟩) hS ?_
          · rintro w' ⟨q, q0, q1⟩; go_simp
          try simp only [Act.put]
          refine wpAnyH_take (i := 13) (v := .int .i64 (f + m)) rfl (by kernel_rfl) (by kernel_rfl) (by kernel_rfl) (fun _ _ _ h => h) (Or.inl ⟨by kernel_rfl, ?_⟩) hS ?_
          · rintro w' ⟨q, q0, q1⟩; go_simp
          try simp only [Act.put]
          refine wpAnyH_take (i := 14) (v := .int .i64 (x.p : Int)) rfl (by kernel_rfl) (by kernel_rfl) (by kernel_rfl) (fun _ _ _ h => h) (Or.inl ⟨by kernel_rfl, ?_⟩) hS ?_
          · rintro w' ⟨q, q0, q1⟩; go_simp
          try simp only [Act.put]
          refine wpAnyH_take (i := 15) (v := .bool true) rfl (by kernel_rfl) (by kernel_rfl) (by kernel_rfl) (fun _ _ _ h => h) (Or.inl ⟨by kernel_rfl, ?_⟩) hS ?_
          · rintro w' ⟨q, q0, q1⟩; go_simp
          try simp only [Act.put]
          refine wpAnyH_take (i := 16) (v := .bool true) rfl (by kernel_rfl) (by kernel_rfl) (by kernel_rfl) (fun _ _ _ h => h) (Or.inl ⟨by kernel_rfl, ?_⟩) hS ?_
          · rintro w' ⟨q, q0, q1⟩; go_simp
          try simp only [Act.put]
          refine wpAnyH_done (by kernel_rfl) ?_ _
          try simp only [List.getElem_toArray, List.getElem_cons_succ, List.getElem_cons_zero]
          try simp only [List.setIfInBounds_toArray, List.set_cons_zero, List.set_cons_succ]
          gi_wp2_with fail
          exact FI.out
        · rw [if_neg he] at hadd
          have hbe : (f + m == (x.p : Int)) = false := by simpa using he
          have FN := Lib.hid (FIN.out hadd)
          clear hI0 hd kF kB k0 ho hn hx hc hcs hlt hgp hps m0 x4 hin hYM hi0 hz0 hz1 hz2 k4 m4 ko4 kL hoL koL mL prL mw FIN hsl hgb kg hll hxl hadd hL
          gi_wp2_with fail
          refine ⟨trivial, ?_⟩
          refine (CallsIn.inRound l (callsIn_wide.2 HG.out)).mono ?_
          rintro e w' ⟨rfl, rfl⟩
          gi_wp2_with fail
          refine round_held (S := fun w' => w'.cell? ⟨w.heap.size + 1, 0, none⟩ = some (.slice (some ⟨g, 0, none⟩) (n1 + 1) vc) ∧ w'.cell? ⟨g, n1 * 2, none⟩ = some (.int .i64 f) ∧ w'.cell? ⟨g, n1 * 2 + 1, none⟩ = some (.int .i64 m)) (by kernel_rfl) (by kernel_rfl) (fun ⟨_, _, h⟩ => h) ⟨cL, c0, c1⟩ (fun hS => ?_)
          refine wpAnyH_take (i := 0) (v := .int .i64 (n1 : Int)) rfl (by kernel_rfl) (by kernel_rfl) (by kernel_rfl) (fun _ _ _ h => h) (Or.inl ⟨by kernel_rfl, ?_⟩) hS ?_
          · rintro w' ⟨q, q0, q1⟩; go_simp
          try simp only [Act.put, List.setIfInBounds_toArray]
          refine wpAnyH_take (i := 1) (v := .bool true) rfl (by kernel_rfl) (by kernel_rfl) (by kernel_rfl) (fun _ _ _ h => h) (Or.inl ⟨by kernel_rfl, ?_⟩) hS ?_
          · rintro w' ⟨q, q0, q1⟩; go_simp
          try simp only [Act.put]
          refine wpAnyH_take (i := 2) (v := .bool true) rfl (by kernel_rfl) (by kernel_rfl) (by kernel_rfl) (fun _ _ _ h => h) (Or.inl ⟨by kernel_rfl, ?_⟩) hS ?_
          · rintro w' ⟨q, q0, q1⟩; go_simp
          try simp only [Act.put]
          refine wpAnyH_take (i := 3) (v := .slice (some ⟨g, 0, none⟩) (n1 + 1) vc) rfl (by kernel_rfl) (by kernel_rfl) (by kernel_rfl) (fun _ _ _ h => h) (Or.inl ⟨by kernel_rfl, ?_⟩) hS ?_
          · rintro w' ⟨q, q0, q1⟩; go_simp
          try simp only [Act.put]
          refine wpAnyH_take (i := 4) (v := .int .i64 (n1 : Int)) rfl (by kernel_rfl) (by kernel_rfl) (by kernel_rfl) (fun _ _ _ h => h) (Or.inl ⟨by kernel_rfl, ?_⟩) hS ?_
          · rintro w' ⟨q, q0, q1⟩; go_simp
          try simp only [Act.put]
          refine wpAnyH_take (i := 5) (v := .pointer (some ⟨g, n1 * 2, none⟩)) rfl (by kernel_rfl) (by kernel_rfl) (by kernel_rfl) (fun _ _ _ h => h) (Or.inl ⟨by kernel_rfl, ?_⟩) hS ?_
          · rintro w' ⟨q, q0, q1⟩; go_simp
          try simp only [Act.put]
          refine wpAnyH_take (i := 6) (v := .pointer (some ⟨g, n1 * 2, none⟩)) rfl (by kernel_rfl) (by kernel_rfl) (by kernel_rfl) (fun _ _ _ h => h) (Or.inl ⟨by kernel_rfl, ?_⟩) hS ?_
          · rintro w' ⟨q, q0, q1⟩; go_simp
          try simp only [Act.put]
          refine wpAnyH_take (i := 7) (v := .int .i64 f) rfl (by kernel_rfl) (by kernel_rfl) (by kernel_rfl) (fun _ _ _ h => h) (Or.inl ⟨by kernel_rfl, ?_⟩) hS ?_
          · rintro w' ⟨q, q0, q1⟩; go_simp
          try simp only [Act.put]
          refine wpAnyH_take (i := 8) (v := .slice (some ⟨g, 0, none⟩) (n1 + 1) vc) rfl (by kernel_rfl) (by kernel_rfl) (by kernel_rfl) (fun _ _ _ h => h) (Or.inl ⟨by kernel_rfl, ?_⟩) hS ?_
          · rintro w' ⟨q, q0, q1⟩; go_simp
          try simp only [Act.put]
          refine wpAnyH_take (i := 9) (v := .int .i64 (n1 : Int)) rfl (by kernel_rfl) (by kernel_rfl) (by kernel_rfl) (fun _ _ _ h => h) (Or.inl ⟨by kernel_rfl, ?_⟩) hS ?_
          · rintro w' ⟨q, q0, q1⟩; go_simp
          try simp only [Act.put]
          refine wpAnyH_take (i := 10) (v := .pointer (some ⟨g, n1 * 2, none⟩)) rfl (by kernel_rfl) (by kernel_rfl) (by kernel_rfl) (fun _ _ _ h => h) (Or.inl ⟨by kernel_rfl, ?_⟩) hS ?_
          · rintro w' ⟨q, q0, q1⟩; go_simp
          try simp only [Act.put]
          refine wpAnyH_take (i := 11) (v := .pointer (some ⟨g, n1 * 2 + 1, none⟩)) rfl (by kernel_rfl) (by kernel_rfl) (by kernel_rfl) (fun _ _ _ h => h) (Or.inl ⟨by kernel_rfl, ?_⟩) hS ?_
          · rintro w' ⟨q, q0, q1⟩; go_simp
          try simp only [Act.put]
          refine wpAnyH_take (i := 12) (v := .int .i64 m) rfl (by kernel_rfl) (by kernel_rfl) (by kernel_rfl) (fun _ _ _ h => h) (Or.inl ⟨by kernel_rfl, ?_⟩) hS ?_
          · rintro w' ⟨q, q0, q1⟩; go_simp
          try simp only [Act.put]
          refine wpAnyH_take (i := 13) (v := .int .i64 (f + m)) rfl (by kernel_rfl) (by kernel_rfl) (by kernel_rfl) (fun _ _ _ h => h) (Or.inl ⟨by kernel_rfl, ?_⟩) hS ?_
          · rintro w' ⟨q, q0, q1⟩; go_simp
          try simp only [Act.put]
          refine wpAnyH_take (i := 14) (v := .int .i64 (x.p : Int)) rfl (by kernel_rfl) (by kernel_rfl) (by kernel_rfl) (fun _ _ _ h => h) (Or.inl ⟨by kernel_rfl, ?_⟩) hS ?_
          · rintro w' ⟨q, q0, q1⟩; go_simp
          try simp only [Act.put]
          refine wpAnyH_take (i := 15) (v := .bool false) rfl (by kernel_rfl) (by kernel_rfl) (by kernel_rfl) (fun _ _ _ h => h) (Or.inl ⟨by kernel_rfl, ?_⟩) hS ?_
          · rintro w' ⟨q, q0, q1⟩; go_simp
          try simp only [Act.put]
          refine wpAnyH_take (i := 16) (v := .bool false) rfl (by kernel_rfl) (by kernel_rfl) (by kernel_rfl) (fun _ _ _ h => h) (Or.inl ⟨by kernel_rfl, ?_⟩) hS ?_
          · rintro w' ⟨q, q0, q1⟩; go_simp
          try simp only [Act.put]
          refine wpAnyH_done (by kernel_rfl) ?_ _
          try simp only [List.getElem_toArray, List.getElem_cons_succ, List.getElem_cons_zero]
          try simp only [List.setIfInBounds_toArray, List.set_cons_zero, List.set_cons_succ]
          gi_wp2_with fail
          exact FN.out
  case done =>
    rintro Df st W rfl ⟨m0, hd, kF, kB, va, n, vc, k0, ho, hn⟩ hDf hlt
    have c0 : W.cell? ⟨w.heap.size + 1, 0, none⟩ = some (.slice va n vc) := k0.cell 0
    have mP := loopOwn_put (B := W0.heap.size) (.deferred none) hlt hDf rfl
    have M1 := Lib.hid (m0.transOwn mP (by omega))
    have O1 := Lib.hid (ownsRow_mod ho mP (fun k hk s => by
      obtain ⟨cs, hc⟩ := ownsRow_type ho hk
      have := s.2 _ hc; cases this))
    clear mP m0 hd kF kB k0 ho hn
    gi_wp2_with fail
    refine ⟨by simp, .inl ⟨_, _, rfl, run_takeDeferred hDf, ?_⟩⟩
    refine ⟨_, results_tmp rfl _ _ _, ⟨va, n, vc, rfl, O1.out⟩, M1.out⟩
  case stop => rintro Dd c st W h; exact h.elim

/-- The places of the cells that are gone. -/
def goneL (l : List CellV) : List (Int × Int) := plsOf (fun i => (l[i]?.map CellV.gone).getD false) l.length
theorem gone_any (w : World) (S : Nat → Prop) (D : Nat) (l : List CellV) (h : DocS w S D l) (hlen : l.length ≤ 1099511627776) :
    Calls Tryz.prog 50 #[.pointer (some ⟨D, 0, none⟩)] w fun e w' => (∃ va n vc, e = .returned (.slice va n vc) ∧ w'.ownsRow w.heap.size 49 2 (.slice va n vc) n (flat spCs (goneL l))) ∧ Mod none_ w w' := by
  obtain ⟨v, MB, bl, hv, _, hl, _⟩ := h.ex
  subst hl
  have HG := Lib.hid (goneP_any w D MB v bl (fun i => ((cellsOf bl)[i]?.map CellV.gone).getD false) hv hlen (fun i c hc => by simp [hc]))
  clear h hv
  go_enter Tryz.func50, Tryz.ntmps50
  go_wp2_with fail
  refine HG.out.mono ?_
  rintro e w1 ⟨⟨va, n, vc, rfl, ho⟩, m1⟩
  have HO := Lib.hid ho
  clear ho
  go_wp2_with fail
  go_ret
  exact ⟨⟨va, n, vc, rfl, HO.out⟩, m1⟩
end Go.Proofs.YthicagfeaekmoaaGreatDoor

namespace Go.Proofs.YthicagfeaekmoaaGreatDoor
open Go.RowKit Go.Shelf Go.Mine
attribute [local go_sem] Oper.semAt_some
attribute [local go_sem ↓] app_fold

/-- Does a cell that k live ones stand ahead of lie in the run of nn from i? -/
def runB (gone : Bool) (k : Nat) (i nn : Int) : Bool := !gone && (decide (i ≤ (k : Int)) && decide ((k : Int) - i < nn))
end Go.Proofs.YthicagfeaekmoaaGreatDoor

namespace Go.Proofs.YthicagfeaekmoaaGreatDoor
open Go.RowKit Go.Shelf Go.Mine
attribute [local go_sem] Oper.semAt_some
attribute [local go_sem ↓] app_fold

/-- The runes of the live cells. -/
def liveR (l : List CellV) : List Int := (l.filter fun c => !c.gone).map CellV.r
theorem liveR_snoc (l : List CellV) (c : CellV) : liveR (l ++ [c]) = liveR l ++ if c.gone then [] else [c.r] := by
  unfold liveR
  cases h : c.gone <;> simp [h]
theorem liveR_len (l : List CellV) : (liveR l).length = liveN l := by unfold liveR liveN; rw [List.length_map]
/-- What Text answers. -/
def textB (l : List CellV) : ByteArray := if (liveR l).all Lib.validRune then ⟨(bytesOf (liveR l)).toArray⟩ else ⟨#[]⟩
def r32s (rs : List Int) : List Value := rs.map fun r => Value.int .i32 r

def texI (w : World) (D MB : Nat) (v : Value) (bl : List BV) (st : Nat) (W : World) : Prop :=
  Mod none_ w W ∧ DocV W D v MB bl ∧ Blk W (w.heap.size + 1) [.pointer (some ⟨D, 0, none⟩)] 79 ∧ ∃ va n vc, Blk W w.heap.size [.slice va n vc] 145 ∧ W.ownsRow w.heap.size 21 1 (.slice va n vc) n (r32s (liveR ((cellsOf bl).take st))) ∧ n ≤ st

theorem infoR32 : (Tryz.prog.info? 21).map (fun i => (i.zero, i.size, i.bytes)) = some (some (.int .i32 0), 1, 4) := by kernel_rfl

theorem own_i32 {w : World} {B n vc : Nat} {va : Option Addr} {rs : List Int} (h : w.ownsRow B 21 1 (.slice va n vc) n (r32s rs)) (ok : ∀ r ∈ rs, -2147483648 ≤ r ∧ r ≤ 2147483647) : IsI32 w va n vc rs := by
  rcases ownsRow_blk h with ⟨h1, h2, h3⟩ | ⟨g, cap, more, h1, _, hb, hc, hm, _⟩
  · cases h1
    have : rs = [] := by unfold r32s at h3; simpa using h3
    subst this
    exact ⟨rfl, Nat.le_refl _, Nat.zero_le _, ok, fun i x hx => by simp at hx⟩
  · cases h1
    have hl : rs.length = n := by have := h.1; simpa [r32s] using this
    refine ⟨hl, hc, hm, ok, fun i x hx => ⟨g, 0, rfl, ?_⟩⟩
    have hi := (List.getElem?_eq_some_iff.1 hx).1
    rw [Nat.zero_add, hb.cell, List.getElem?_append_left (by simp [r32s]; omega)]
    simp [r32s, hx]

set_option maxHeartbeats 4000000 in
set_option maxRecDepth 1000000 in
theorem text_cells (w : World) (D MB : Nat) (v : Value) (bl : List BV) (h : DocV w D v MB bl) (hok : ∀ c ∈ cellsOf bl, c.ok) (hlen : (cellsOf bl).length ≤ 1099511627776) :
    Calls Tryz.prog 46 #[.pointer (some ⟨D, 0, none⟩)] w fun e w' => e = .returned (.string (textB (cellsOf bl))) ∧ Mod none_ w w' := by
  have HDW := Lib.hid h
  refine (callsIn_wide (n := 5)).1 ?_
  refine callsIn_of_wp_marks Tryz.func46 rfl trivial ?_ rfl
  simp only [Tryz.ntmps46, List.size_toArray, List.length_cons, List.length_nil, Nat.reduceAdd, Nat.reduceSub, Array.replicate_succ, Array.replicate_zero, List.push_toArray, List.append_toArray, List.nil_append, List.cons_append]
  gi_wp2_with fail
  refine ⟨trivial, ?_⟩
  refine (callsIn_wide.2 (each_any D _)).mono ?_
  rintro e w2 ⟨rfl, rfl⟩
  gi_wp2_with fail
  obtain ⟨W0, hW0⟩ : ∃ W0, (w.alloc (.cells #[.slice none 0 0] 145)).alloc (.cells #[.pointer (some ⟨D, 0, none⟩)] 79) = W0 := ⟨_, rfl⟩
  have hz : W0.heap.size = w.heap.size + 2 := by rw [← hW0]; simp
  have hI0 : texI w D MB v bl 0 W0 := by
    rw [← hW0]
    have b0 := Blk.new (w := w) (cs := [.slice none 0 0]) (t := 145)
    have b1 := Blk.new (w := w.alloc (.cells #[.slice none 0 0] 145)) (cs := [.pointer (some ⟨D, 0, none⟩)]) (t := 79)
    rw [World.size_alloc] at b1
    have m := ((Mod.refl none_ w).alloc (.cells #[.slice none 0 0] 145)).alloc (.cells #[.pointer (some ⟨D, 0, none⟩)] 79)
    exact ⟨m, h.grown m, b1, none, 0, 0, b0.mod ((Mod.refl none_ _).alloc _) (fun e => e), ⟨by simp [r32s, liveR], .inl ⟨rfl, rfl⟩⟩, Nat.le_refl _⟩
  rw [hW0]
  clear hW0
  refine rangeFunc_law (w := W0) rfl (by decide) (gf := 133) (lb := #[.pointer (some ⟨w.heap.size + 1, 0, none⟩)]) rfl trivial (enters_of Tryz.func133 (by kernel_rfl) rfl)
    CPos.enc (fun _ => rfl) (texI w D MB v bl) (fun _ _ _ => False) (fun st _ => st + 1) (fun st x => x.p = st ∧ x.at_ bl) (fun st => st = (cellsOf bl).length) 0 ?hI ?hIx hI0
    (fun x => { tmps := #[.pointer (some ⟨D, 0, none⟩), undef, .string { data := #[] }, .pointer (some ⟨w.heap.size, 0, none⟩), undef, .pointer (some ⟨x.g, x.i * 5, none⟩), undef, undef, .pointer (some ⟨D, 0, none⟩), .func (.func 133) #[] #[.pointer (some ⟨w.heap.size + 1, 0, none⟩)], .int .i64 (x.p : Int), .pointer (some ⟨x.g, x.i * 5, none⟩), undef, undef, undef, undef, undef, undef, undef, undef, undef, undef, undef, undef, undef, undef, undef, undef, undef, undef], defers := [] }) ?hiter ?assign ?body ?done ?stop
  case hI =>
    rintro st W W' ⟨m0, hd, k1, va, n, vc, k0, ho, hn⟩ m
    refine ⟨m0.transOwn m (by omega), hd.own m, k1.own m, va, n, vc, k0.own m, ownsRow_mod ho m (fun k hk s => ?_), hn⟩
    obtain ⟨cs, hc⟩ := ownsRow_type ho hk
    have := s.2 _ hc; cases this
  case hIx => rintro c st W W' h m; exact h
  case hiter =>
    intro l J Jx W hJI hJ hY h0
    refine (each1_any (5 - 1) D MB _ v bl hlen (texI w D MB v bl) (fun i W h => ⟨h.2.2.1, h.2.1⟩) l J Jx W hJI hY h0).mono ?_
    rintro e W' ⟨h1, h2 | h2⟩
    · exact ⟨h1, .inl ⟨_, rfl, h2⟩⟩
    · exact ⟨h1, .inr h2⟩
  case assign =>
    intro l x W K hK
    unfold CPos.enc
    gi_wp2
    exact hK
  case body =>
    rintro l st x W ⟨m0, hd, k1, va, n, vc, k0, ho, hn⟩ ⟨rfl, hx⟩
    obtain ⟨c, hc, hcs⟩ := CPos.get hd hx
    have hlt := (List.getElem?_eq_some_iff.1 hc).1
    have htk : (cellsOf bl).take (x.p + 1) = (cellsOf bl).take x.p ++ [c] := by
      rw [List.take_succ_eq_append_getElem hlt, (List.getElem?_eq_some_iff.1 hc).2]
    have x3 : W.cell? ⟨x.g, x.i * 5 + 3, none⟩ = some (.int .i32 c.r) := hcs 3 (by omega)
    have x4 : W.cell? ⟨x.g, x.i * 5 + 4, none⟩ = some (.bool c.gone) := hcs 4 (by omega)
    have hxb : x.g < W.heap.size := block_lt_of_cell x3
    cases hg : c.gone
    · rw [hg] at x4
      have hsn := liveR_snoc ((cellsOf bl).take x.p) c
      rw [hg, ← htk] at hsn
      have hYM : Mod none_ W ((W.alloc (.cells #[.int .i32 c.r] 21)).drew) := ((Mod.refl none_ W).alloc _).drew
      obtain ⟨i0, hi0, hz0, hz1, hz2⟩ := info_parts infoR32
      obtain ⟨va', vc', w4, hrun, k4, m4, ko4, kL, hoL, koL, mL, prL⟩ := appOne (X := W.heap.size) (e := 21) (tl := 145) Tryz.underlying145 hi0 hz0 hz1 hz2 rfl (by decide) ho k0 (by decide) hYM (cs := [.int .i32 c.r]) (Blk.new (w := W) (cs := [.int .i32 c.r]) (t := 21)).drew rfl (fun u hu => by rw [List.mem_singleton.1 hu]; rfl) (by omega) (by unfold maxLen; omega) m0.size (Nat.le_refl _)
      have c0 : W.cell? ⟨w.heap.size, 0, none⟩ = some (.slice va n vc) := k0.cell 0
      have hwl : w.heap.size < W.heap.size := k0.lt
      have c4 : w4.cell? ⟨w.heap.size, 0, none⟩ = some (.slice va n vc) := k4.cell 0
      have f4 := k4.frozen 0
      have mw : Mod none_ w (w4.setCell ⟨w.heap.size, 0, none⟩ (.slice va' (n + 1) vc')) := m0.transIn mL (fun b hb e => by have e' : w.heap.size ≤ b := e; omega)
      have FIN := Lib.hid (show KeepsOthers W (w4.setCell ⟨w.heap.size, 0, none⟩ (.slice va' (n + 1) vc')) ∧ texI w D MB v bl (x.p + 1) (w4.setCell ⟨w.heap.size, 0, none⟩ (.slice va' (n + 1) vc')) from
        ⟨koL, mw, HDW.out.new hd mL, prL _ _ _ (by omega) (by decide) k1, va', n + 1, vc', kL, by rw [hsn]; simpa [r32s] using hoL, by omega⟩)
      have d0 : ((W.alloc (.cells #[.int .i32 c.r] 21)).drew).cell? ⟨x.g, x.i * 5 + 3, none⟩ = some (.int .i32 c.r) := hYM.cell (fun e => e) x3
      have hxg : x.g < w.heap.size := by
        obtain ⟨k, b, hk, _, _, hgb⟩ := hx
        exact HDW.out.flt (.inr (.inr ⟨b, List.mem_of_getElem? hk, .inr hgb⟩))
      have d4 : w4.cell? ⟨x.g, x.i * 5 + 3, none⟩ = some (.int .i32 c.r) := m4.cell (fun e => by have e' : w.heap.size ≤ x.g := e; omega) x3
      have d5 : (w4.setCell ⟨w.heap.size, 0, none⟩ (.slice va' (n + 1) vc')).cell? ⟨x.g, x.i * 5 + 3, none⟩ = some (.int .i32 c.r) := mL.cell (fun e => by have e' : w.heap.size ≤ x.g := e; omega) x3
      clear hI0 hd k1 k0 ho hsn hYM hi0 hz0 hz1 hz2 k4 m4 ko4 kL hoL koL mL prL mw hcs hx hc hlt htk m0
      gi_wp2_with fail
      refine round_held (S := fun w' => w'.cell? ⟨x.g, x.i * 5 + 3, none⟩ = some (.int .i32 c.r)) (by kernel_rfl) (by kernel_rfl) (fun ⟨_, _, h⟩ => h) x3 (fun hS => ?_)
      refine wpAnyH_take (i := 1) (v := .pointer (some ⟨x.g, x.i * 5, none⟩)) rfl (by kernel_rfl) (by kernel_rfl) (by kernel_rfl) (fun _ _ _ h => h) (Or.inl ⟨by rfl, ?_⟩) hS ?_
      · intro w' hw'; go_simp
      simp only [Act.put, List.setIfInBounds_toArray]
      refine wpAnyH_take (i := 2) (v := .pointer (some ⟨x.g, x.i * 5, none⟩)) rfl (by kernel_rfl) (by kernel_rfl) (by kernel_rfl) (fun _ _ _ h => h) (Or.inl ⟨by rfl, ?_⟩) hS ?_
      · intro w' hw'; go_simp
      simp only [Act.put]
      refine wpAnyH_take (i := 3) (v := .pointer (some ⟨x.g, x.i * 5 + 3, none⟩)) rfl (by kernel_rfl) (by kernel_rfl) (by kernel_rfl) (fun _ _ _ h => h) (Or.inl ⟨by rfl, ?_⟩) hS ?_
      · intro w' hw'; go_simp
      simp only [Act.put]
      refine wpAnyH_take (i := 4) (v := .int .i32 c.r) rfl (by kernel_rfl) (by kernel_rfl) (by kernel_rfl) (fun _ _ _ h => h) (Or.inl ⟨by rfl, ?_⟩) hS ?_
      · intro w' hw'; go_simp
      simp only [Act.put]
      refine wpAnyH_ready (rs := [0, 5]) (by kernel_rfl) (by simp) (AllReadyH.cons rfl (fun K hK => ?_) <| AllReadyH.cons rfl (fun K hK => ?_) <| AllReadyH.nil)
      · go_simp
        refine hK.out _ _ hS (fun hS => ?_)
        clear hK K
        try simp only [Act.put, List.setIfInBounds_toArray, List.set_cons_zero, List.set_cons_succ]
        refine wpAnyH_ready (rs := [5]) (by kernel_rfl) (by simp) (AllReadyH.cons rfl (fun K hK => ?_) <| AllReadyH.nil)
        go_simp
        refine hK.out _ _ d0 (fun hS => ?_)
        clear hK K
        try simp only [Act.put, List.setIfInBounds_toArray, List.set_cons_zero, List.set_cons_succ]
        refine wpAnyH_ready (rs := [6]) (by kernel_rfl) (by simp) (AllReadyH.cons rfl (fun K hK => ?_) <| AllReadyH.nil)
        go_simp
        refine hK.out _ _ d4 (fun hS => ?_)
        clear hK K
        try simp only [Act.put, List.setIfInBounds_toArray, List.set_cons_zero, List.set_cons_succ]
        refine wpAnyH_ready (rs := [7]) (by kernel_rfl) (by simp) (AllReadyH.cons rfl (fun K hK => ?_) <| AllReadyH.nil)
        go_simp
        refine hK.out _ _ d5 (fun hS => ?_)
        clear hK K
        try simp only [Act.put, List.setIfInBounds_toArray, List.set_cons_zero, List.set_cons_succ]
        refine wpAnyH_done (by kernel_rfl) ?_ _
        exact FIN.out
      · go_simp
        refine hK.out _ _ d0 (fun hS => ?_)
        clear hK K
        try simp only [Act.put, List.setIfInBounds_toArray, List.set_cons_zero, List.set_cons_succ]
        refine wpAnyH_ready (rs := [0]) (by kernel_rfl) (by simp) (AllReadyH.cons rfl (fun K hK => ?_) <| AllReadyH.nil)
        go_simp
        refine hK.out _ _ hS (fun hS => ?_)
        clear hK K
        try simp only [Act.put, List.setIfInBounds_toArray, List.set_cons_zero, List.set_cons_succ]
        refine wpAnyH_ready (rs := [6]) (by kernel_rfl) (by simp) (AllReadyH.cons rfl (fun K hK => ?_) <| AllReadyH.nil)
        go_simp
        refine hK.out _ _ d4 (fun hS => ?_)
        clear hK K
        try simp only [Act.put, List.setIfInBounds_toArray, List.set_cons_zero, List.set_cons_succ]
        refine wpAnyH_ready (rs := [7]) (by kernel_rfl) (by simp) (AllReadyH.cons rfl (fun K hK => ?_) <| AllReadyH.nil)
        go_simp
        refine hK.out _ _ d5 (fun hS => ?_)
        clear hK K
        try simp only [Act.put, List.setIfInBounds_toArray, List.set_cons_zero, List.set_cons_succ]
        refine wpAnyH_done (by kernel_rfl) ?_ _
        exact FIN.out
    · rw [hg] at x4
      have hsn := liveR_snoc ((cellsOf bl).take x.p) c
      rw [hg, ← htk] at hsn
      have FIN := Lib.hid (show KeepsOthers W W ∧ texI w D MB v bl (x.p + 1) W from ⟨KeepsOthers.refl _, m0, hd, k1, va, n, vc, k0, by rw [hsn]; simpa using ho, by omega⟩)
      clear hI0 hd k1 k0 ho hsn hcs hx hc hlt htk m0
      gi_wp2_with fail
      exact FIN.out
  case done =>
    rintro Df st W rfl ⟨m0, hd, k1, va, n, vc, k0, ho, hn⟩ hDf hlt
    rw [List.take_length] at ho
    have hI := own_i32 ho (fun r hr => by
      unfold liveR at hr
      obtain ⟨c, hc, rfl⟩ := List.mem_map.1 hr
      exact (hok c (List.mem_filter.1 hc).1).i4)
    have HJ := join_any W va n vc _ hI (by omega)
    have hjv : joinV (liveR (cellsOf bl)) = .tuple #[.string (textB (cellsOf bl)), .int .i64 (if (liveR (cellsOf bl)).all Lib.validRune then 0 else 2)] := by
      unfold joinV textB
      cases (liveR (cellsOf bl)).all Lib.validRune <;> rfl
    rw [hjv] at HJ
    obtain ⟨TB, hTB⟩ : ∃ TB, TB = textB (cellsOf bl) := ⟨_, rfl⟩
    obtain ⟨ER, hER⟩ : ∃ ER : Int, ER = (if (liveR (cellsOf bl)).all Lib.validRune then 0 else 2) := ⟨_, rfl⟩
    rw [← hTB, ← hER] at HJ
    have HTB := Lib.hid hTB
    have HJ := Lib.hid HJ
    have c0 : W.cell? ⟨w.heap.size, 0, none⟩ = some (.slice va n vc) := k0.cell 0
    have HDF := Lib.hid hDf
    have M0 := Lib.hid m0
    clear hI hjv hd k1 k0 ho hTB hER m0 hDf
    gi_wp2_with fail
    refine ⟨trivial, ?_⟩
    refine (callsIn_wide.2 HJ.out).mono ?_
    rintro e w1 ⟨rfl, m1⟩
    have hdf := m1.blk (fun e => e) HDF.out
    have M1 := Lib.hid ((M0.out.trans m1).transOwn (loopOwn_put (B := W0.heap.size) (.deferred none) hlt hdf rfl) (by omega))
    clear m1
    gi_wp2_with fail
    refine ⟨by simp, .inl ⟨_, _, rfl, run_takeDeferred hdf, ?_⟩⟩
    refine ⟨_, results_tmp rfl _ _ _, by rw [← HTB.out]; rfl, M1.out⟩
  case stop => rintro Dd c st W h; exact h.elim
end Go.Proofs.YthicagfeaekmoaaGreatDoor

namespace Go.Proofs.YthicagfeaekmoaaGreatDoor
open Go.RowKit Go.Shelf Go.Mine
attribute [local go_sem] Oper.semAt_some
attribute [local go_sem ↓] app_fold

def clsI (w : World) (D MB : Nat) (v : Value) (bl : List BV) (st : Nat) (W : World) : Prop :=
  Mod none_ w W ∧ DocV W D v MB bl ∧ Blk W (w.heap.size + 1) [.pointer (some ⟨D, 0, none⟩)] 79 ∧ ∃ va n vc, Blk W w.heap.size [.slice va n vc] 22 ∧ W.ownsRow w.heap.size 47 5 (.slice va n vc) n (flat CellV.cs ((cellsOf bl).take st)) ∧ n = st

set_option maxHeartbeats 4000000 in
set_option maxRecDepth 1000000 in
theorem cells_any (w : World) (D MB : Nat) (v : Value) (bl : List BV) (h : DocV w D v MB bl) (hlen : (cellsOf bl).length ≤ 20000) :
    Calls Tryz.prog 48 #[.pointer (some ⟨D, 0, none⟩)] w fun e w' => (∃ va vc, e = .returned (.slice va (cellsOf bl).length vc) ∧ w'.ownsRow w.heap.size 47 5 (.slice va (cellsOf bl).length vc) (cellsOf bl).length (flat CellV.cs (cellsOf bl))) ∧ Mod none_ w w' := by
  have HDW := Lib.hid h
  refine (callsIn_wide (n := 5)).1 ?_
  refine callsIn_of_wp_marks Tryz.func48 rfl trivial ?_ rfl
  simp only [Tryz.ntmps48, List.size_toArray, List.length_cons, List.length_nil, Nat.reduceAdd, Nat.reduceSub, Array.replicate_succ, Array.replicate_zero, List.push_toArray, List.append_toArray, List.nil_append, List.cons_append]
  gi_wp2_with fail
  refine ⟨trivial, ?_⟩
  refine (callsIn_wide.2 (each_any D _)).mono ?_
  rintro e w2 ⟨rfl, rfl⟩
  gi_wp2_with fail
  obtain ⟨W0, hW0⟩ : ∃ W0, (w.alloc (.cells #[.slice none 0 0] 22)).alloc (.cells #[.pointer (some ⟨D, 0, none⟩)] 79) = W0 := ⟨_, rfl⟩
  have hz : W0.heap.size = w.heap.size + 2 := by rw [← hW0]; simp
  have hI0 : clsI w D MB v bl 0 W0 := by
    rw [← hW0]
    have b0 := Blk.new (w := w) (cs := [.slice none 0 0]) (t := 22)
    have b1 := Blk.new (w := w.alloc (.cells #[.slice none 0 0] 22)) (cs := [.pointer (some ⟨D, 0, none⟩)]) (t := 79)
    rw [World.size_alloc] at b1
    have m := ((Mod.refl none_ w).alloc (.cells #[.slice none 0 0] 22)).alloc (.cells #[.pointer (some ⟨D, 0, none⟩)] 79)
    exact ⟨m, h.grown m, b1, none, 0, 0, b0.mod ((Mod.refl none_ _).alloc _) (fun e => e), ⟨by simp [flat], .inl ⟨rfl, rfl⟩⟩, rfl⟩
  rw [hW0]
  clear hW0
  refine rangeFunc_law (w := W0) rfl (by decide) (gf := 133) (lb := #[.pointer (some ⟨w.heap.size + 1, 0, none⟩)]) rfl trivial (enters_of Tryz.func133 (by kernel_rfl) rfl)
    CPos.enc (fun _ => rfl) (clsI w D MB v bl) (fun _ _ _ => False) (fun st _ => st + 1) (fun st x => x.p = st ∧ x.at_ bl) (fun st => st = (cellsOf bl).length) 0 ?hI ?hIx hI0
    (fun x => { tmps := #[.pointer (some ⟨D, 0, none⟩), undef, .slice none 0 0, .pointer (some ⟨w.heap.size, 0, none⟩), undef, .pointer (some ⟨x.g, x.i * 5, none⟩), .pointer (some ⟨D, 0, none⟩), .func (.func 133) #[] #[.pointer (some ⟨w.heap.size + 1, 0, none⟩)], .int .i64 (x.p : Int), .pointer (some ⟨x.g, x.i * 5, none⟩), undef, undef, undef, undef, undef, undef, undef], defers := [] }) ?hiter ?assign ?body ?done ?stop
  case hI =>
    rintro st W W' ⟨m0, hd, k1, va, n, vc, k0, ho, hn⟩ m
    refine ⟨m0.transOwn m (by omega), hd.own m, k1.own m, va, n, vc, k0.own m, ownsRow_mod ho m (fun k hk s => ?_), hn⟩
    obtain ⟨cs, hc⟩ := ownsRow_type ho hk
    have := s.2 _ hc; cases this
  case hIx => rintro c st W W' h m; exact h
  case hiter =>
    intro l J Jx W hJI hJ hY h0
    refine (each1_any (5 - 1) D MB _ v bl (by omega) (clsI w D MB v bl) (fun i W h => ⟨h.2.2.1, h.2.1⟩) l J Jx W hJI hY h0).mono ?_
    rintro e W' ⟨h1, h2 | h2⟩
    · exact ⟨h1, .inl ⟨_, rfl, h2⟩⟩
    · exact ⟨h1, .inr h2⟩
  case assign =>
    intro l x W K hK
    unfold CPos.enc
    gi_wp2
    exact hK
  case body =>
    rintro l st x W ⟨m0, hd, k1, va, n, vc, k0, ho, hn⟩ ⟨rfl, hx⟩
    obtain ⟨c, hc, hcs⟩ := CPos.get hd hx
    have hlt := (List.getElem?_eq_some_iff.1 hc).1
    have htk : (cellsOf bl).take (x.p + 1) = (cellsOf bl).take x.p ++ [c] := by
      rw [List.take_succ_eq_append_getElem hlt, (List.getElem?_eq_some_iff.1 hc).2]
    have x0 : W.cell? ⟨x.g, x.i * 5, none⟩ = some (.int .i64 c.site) := hcs 0 (by omega)
    have x1 : W.cell? ⟨x.g, x.i * 5 + 1, none⟩ = some (.int .i64 c.seq) := hcs 1 (by omega)
    have x2 : W.cell? ⟨x.g, x.i * 5 + 2, none⟩ = some (.int .i64 c.off) := hcs 2 (by omega)
    have x3 : W.cell? ⟨x.g, x.i * 5 + 3, none⟩ = some (.int .i32 c.r) := hcs 3 (by omega)
    have x4 : W.cell? ⟨x.g, x.i * 5 + 4, none⟩ = some (.bool c.gone) := hcs 4 (by omega)
    have hxb : x.g < W.heap.size := block_lt_of_cell x3
    subst hn
    have hYM : Mod none_ W ((W.alloc (.cells c.cs.toArray 47)).drew) := ((Mod.refl none_ W).alloc _).drew
    obtain ⟨i0, hi0, hz0, hz1, hz2⟩ := info_parts infoCell
    obtain ⟨va', vc', w4, hrun, k4, m4, ko4, kL, hoL, koL, mL, prL⟩ := appOne (X := W.heap.size) (e := 47) (tl := 22) Tryz.underlying22 hi0 hz0 hz1 hz2 rfl (by decide) ho k0 (by decide) hYM (cs := c.cs) (Blk.new (w := W) (cs := c.cs) (t := 47)).drew rfl (fun u hu => by
        simp only [CellV.cs, List.mem_cons, List.not_mem_nil, or_false] at hu
        rcases hu with rfl | rfl | rfl | rfl | rfl <;> rfl) (by omega) (by unfold maxLen; omega) m0.size (Nat.le_refl _)
    have c0 : W.cell? ⟨w.heap.size, 0, none⟩ = some (.slice va x.p vc) := k0.cell 0
    have hwl : w.heap.size < W.heap.size := k0.lt
    have c4 : w4.cell? ⟨w.heap.size, 0, none⟩ = some (.slice va x.p vc) := k4.cell 0
    have f4 := k4.frozen 0
    have mw : Mod none_ w (w4.setCell ⟨w.heap.size, 0, none⟩ (.slice va' (x.p + 1) vc')) := m0.transIn mL (fun b hb e => by have e' : w.heap.size ≤ b := e; omega)
    have hfl : flat CellV.cs ((cellsOf bl).take (x.p + 1)) = flat CellV.cs ((cellsOf bl).take x.p) ++ c.cs := by rw [htk, flat_append]; simp [flat]
    have FIN := Lib.hid (show KeepsOthers W (w4.setCell ⟨w.heap.size, 0, none⟩ (.slice va' (x.p + 1) vc')) ∧ clsI w D MB v bl (x.p + 1) (w4.setCell ⟨w.heap.size, 0, none⟩ (.slice va' (x.p + 1) vc')) from
      ⟨koL, mw, HDW.out.new hd mL, prL _ _ _ (by omega) (by decide) k1, va', x.p + 1, vc', kL, by rw [hfl]; exact hoL, rfl⟩)
    have hxg : x.g < w.heap.size := by
      obtain ⟨k, b, hk, _, _, hgb⟩ := hx
      exact HDW.out.flt (.inr (.inr ⟨b, List.mem_of_getElem? hk, .inr hgb⟩))
    obtain ⟨s, hs⟩ : ∃ s, s = c.site := ⟨_, rfl⟩
    obtain ⟨q, hq⟩ : ∃ q, q = c.seq := ⟨_, rfl⟩
    obtain ⟨f, hf⟩ : ∃ f, f = c.off := ⟨_, rfl⟩
    obtain ⟨r, hr⟩ : ∃ r, r = c.r := ⟨_, rfl⟩
    obtain ⟨gn, hgn⟩ : ∃ gn, gn = c.gone := ⟨_, rfl⟩
    have hcs' : c.cs = [.int .i64 s, .int .i64 q, .int .i64 f, .int .i32 r, .bool gn] := by rw [hs, hq, hf, hr, hgn]
    rw [hcs'] at hYM hrun
    rw [← hs] at x0
    rw [← hq] at x1
    rw [← hf] at x2
    rw [← hr] at x3
    rw [← hgn] at x4
    have mT : ∀ {T : Nat → Prop} {w' : World}, Mod T W w' → ¬ T x.g → w'.cell? ⟨x.g, x.i * 5, none⟩ = some (.int .i64 s) ∧ w'.cell? ⟨x.g, x.i * 5 + 1, none⟩ = some (.int .i64 q) ∧ w'.cell? ⟨x.g, x.i * 5 + 2, none⟩ = some (.int .i64 f) ∧ w'.cell? ⟨x.g, x.i * 5 + 3, none⟩ = some (.int .i32 r) ∧ w'.cell? ⟨x.g, x.i * 5 + 4, none⟩ = some (.bool gn) :=
      fun m hT => ⟨m.cell hT x0, m.cell hT x1, m.cell hT x2, m.cell hT x3, m.cell hT x4⟩
    have D0 := Lib.hid (mT hYM (fun e => e))
    have D4 := Lib.hid (mT m4 (fun e => by have e' : w.heap.size ≤ x.g := e; omega))
    have D5 := Lib.hid (mT mL (fun e => by have e' : w.heap.size ≤ x.g := e; omega))
    clear hI0 hd k1 k0 ho hYM hi0 hz0 hz1 hz2 k4 m4 ko4 kL hoL koL mL prL mw hcs hx hc hlt htk m0 mT hfl hs hq hf hr hgn hcs'
    gi_wp2_with fail
    refine round_held (S := fun w' => w'.cell? ⟨x.g, x.i * 5, none⟩ = some (.int .i64 s) ∧ w'.cell? ⟨x.g, x.i * 5 + 1, none⟩ = some (.int .i64 q) ∧ w'.cell? ⟨x.g, x.i * 5 + 2, none⟩ = some (.int .i64 f) ∧ w'.cell? ⟨x.g, x.i * 5 + 3, none⟩ = some (.int .i32 r) ∧ w'.cell? ⟨x.g, x.i * 5 + 4, none⟩ = some (.bool gn)) (by kernel_rfl) (by kernel_rfl) (fun ⟨_, _, h⟩ => h) ⟨x0, x1, x2, x3, x4⟩ (fun hS => ?_)
    refine wpAnyH_take (i := 1) (v := .pointer (some ⟨x.g, x.i * 5, none⟩)) rfl (by kernel_rfl) (by kernel_rfl) (by kernel_rfl) (fun _ _ _ h => h) (Or.inl ⟨by rfl, ?_⟩) hS ?_
    · rintro w' _; go_simp
    try simp only [Act.put, List.setIfInBounds_toArray]
    refine wpAnyH_take (i := 2) (v := .pointer (some ⟨x.g, x.i * 5, none⟩)) rfl (by kernel_rfl) (by kernel_rfl) (by kernel_rfl) (fun _ _ _ h => h) (Or.inl ⟨by rfl, ?_⟩) hS ?_
    · rintro w' _; go_simp
    try simp only [Act.put]
    refine wpAnyH_take (i := 3) (v := .agg #[.int .i64 s, .int .i64 q, .int .i64 f, .int .i32 r, .bool gn]) rfl (by kernel_rfl) (by kernel_rfl) (by kernel_rfl) (fun _ _ _ h => h) (Or.inl ⟨by rfl, ?_⟩) hS ?_
    · rintro w' ⟨q0, q1, q2, q3, q4⟩; go_simp
    try simp only [Act.put]
    refine wpAnyH_ready (rs := [0, 4]) (by kernel_rfl) (by simp) (AllReadyH.cons rfl (fun K hK => ?_) <| AllReadyH.cons rfl (fun K hK => ?_) <| AllReadyH.nil)
    · go_simp
      refine hK.out _ _ hS (fun hS => ?_)
      clear hK K
      try simp only [Act.put, List.setIfInBounds_toArray, List.set_cons_zero, List.set_cons_succ]
      refine wpAnyH_ready (rs := [4]) (by kernel_rfl) (by simp) (AllReadyH.cons rfl (fun K hK => ?_) <| AllReadyH.nil)
      go_simp
      refine hK.out _ _ D0.out (fun hS => ?_)
      clear hK K
      try simp only [Act.put, List.setIfInBounds_toArray, List.set_cons_zero, List.set_cons_succ]
      refine wpAnyH_ready (rs := [5]) (by kernel_rfl) (by simp) (AllReadyH.cons rfl (fun K hK => ?_) <| AllReadyH.nil)
      go_simp
      refine hK.out _ _ D4.out (fun hS => ?_)
      clear hK K
      try simp only [Act.put, List.setIfInBounds_toArray, List.set_cons_zero, List.set_cons_succ]
      refine wpAnyH_ready (rs := [6]) (by kernel_rfl) (by simp) (AllReadyH.cons rfl (fun K hK => ?_) <| AllReadyH.nil)
      go_simp
      refine hK.out _ _ D5.out (fun hS => ?_)
      clear hK K
      try simp only [Act.put, List.setIfInBounds_toArray, List.set_cons_zero, List.set_cons_succ]
      refine wpAnyH_done (by kernel_rfl) ?_ _
      exact FIN.out
    · go_simp
      refine hK.out _ _ D0.out (fun hS => ?_)
      clear hK K
      try simp only [Act.put, List.setIfInBounds_toArray, List.set_cons_zero, List.set_cons_succ]
      refine wpAnyH_ready (rs := [0]) (by kernel_rfl) (by simp) (AllReadyH.cons rfl (fun K hK => ?_) <| AllReadyH.nil)
      go_simp
      refine hK.out _ _ hS (fun hS => ?_)
      clear hK K
      try simp only [Act.put, List.setIfInBounds_toArray, List.set_cons_zero, List.set_cons_succ]
      refine wpAnyH_ready (rs := [5]) (by kernel_rfl) (by simp) (AllReadyH.cons rfl (fun K hK => ?_) <| AllReadyH.nil)
      go_simp
      refine hK.out _ _ D4.out (fun hS => ?_)
      clear hK K
      try simp only [Act.put, List.setIfInBounds_toArray, List.set_cons_zero, List.set_cons_succ]
      refine wpAnyH_ready (rs := [6]) (by kernel_rfl) (by simp) (AllReadyH.cons rfl (fun K hK => ?_) <| AllReadyH.nil)
      go_simp
      refine hK.out _ _ D5.out (fun hS => ?_)
      clear hK K
      try simp only [Act.put, List.setIfInBounds_toArray, List.set_cons_zero, List.set_cons_succ]
      refine wpAnyH_done (by kernel_rfl) ?_ _
      exact FIN.out
  case done =>
    rintro Df st W rfl ⟨m0, hd, k1, va, n, vc, k0, ho, hn⟩ hDf hlt
    rw [List.take_length] at ho
    have HN := Lib.hid hn
    have c0 := k0.cell 0
    simp only [List.getElem?_cons_zero] at c0
    have mP := loopOwn_put (B := W0.heap.size) (.deferred none) hlt hDf rfl
    have M1 := Lib.hid (m0.transOwn mP (by omega))
    have O1 := Lib.hid (ownsRow_mod ho mP (fun k hk s => by
      obtain ⟨cs, hc⟩ := ownsRow_type ho hk
      have := s.2 _ hc; cases this))
    clear mP m0 hd k1 k0 ho hn
    gi_wp2_with fail
    refine ⟨by simp, .inl ⟨_, _, rfl, run_takeDeferred hDf, ?_⟩⟩
    refine ⟨_, results_tmp rfl _ _ _, ?_, M1.out⟩
    rw [← HN.out]
    exact ⟨va, vc, rfl, O1.out⟩
  case stop => rintro Dd c st W h; exact h.elim
end Go.Proofs.YthicagfeaekmoaaGreatDoor

namespace Go.Proofs.YthicagfeaekmoaaGreatDoor
open Go.RowKit Go.Mine Go.Maps Go.MapKept
open Go.ChangeMaps (setBlock heap_setBlock_same)
open Classical
variable {P : Program} {k t e : TypeId} {w : World} {b : Nat} {ks : List Value}

theorem IMap.del {m : Value → Option Value} {n : Nat} (h : IMap P k w b m n) (K : Keyed P k) (ht : P.underlying t = some (.map k e)) {x : Value} (hm : m x ≠ none) (ty : TypeId) :
    ∃ w', (Builtin.delete_ #[t, k] ty #[.map (some b), x]).run P w = .ok (.tuple #[]) w' ∧ IMap P k w' b (delM m x) (n - 1) ∧ Mod (one b) w w' := by
  have hx := h.key hm
  obtain ⟨es, clock, hb, hst, rfl, h1, h2⟩ := h
  obtain ⟨q, hq⟩ := hx
  rcases IMap.find K h1 h2 ⟨q, hq⟩ w with ⟨a, c, d⟩ | ⟨j, e0, a, hj, hk, d⟩
  · exact absurd d hm
  have hjl : j < es.toList.length := (List.getElem?_eq_some_iff.1 hj).1
  have hje := (List.getElem?_eq_some_iff.1 hj).2
  have hlist : (es.eraseIdxIfInBounds j).toList = es.toList.eraseIdx j := by simp [Array.eraseIdxIfInBounds, show j < es.size by simpa using hjl]
  have hnd := hst.2.2
  rw [List.nodup_iff_pairwise_ne, List.pairwise_iff_getElem] at hnd
  have hkey : ∀ (i : Nat) (hi : i < es.toList.length), i ≠ j → es.toList[i].key ≠ x := by
    intro i hi hij heq
    rcases Nat.lt_or_gt_of_ne hij with hlt | hgt
    · have := hnd i j (by simpa using hi) (by simpa using hjl) hlt
      simp at this; simp at heq hje; rw [hje] at this; exact this (by rw [heq, hk])
    · have := hnd j i (by simpa using hjl) (by simpa using hi) hgt
      simp at this; simp at heq hje; rw [hje] at this; exact this (by rw [heq, hk])
  refine ⟨setBlock w b (.map (es.eraseIdxIfInBounds j) clock), ?_, ⟨_, clock, heap_setBlock_same hb _, stamped_erase hst j, ?_, ?_, ?_⟩, setBlock_mod hb _⟩
  · have hne : es.isEmpty = false := by
      cases hz : es.isEmpty
      · rfl
      · simp at hz; subst hz; simp at hjl
    simp [Builtin.delete_, run_underlying ht, MapKept.run_getObj_map hb, K.check w false hq, a, MapKept.run_setObj_map _ hb, Result.andThen, setBlock, hne]
  · rw [← Array.length_toList, hlist, List.length_eraseIdx, if_pos hjl, Array.length_toList]
  · intro y hy
    rw [hlist] at hy
    obtain ⟨i, hi, hy⟩ := List.mem_eraseIdx_iff_getElem.1 hy
    obtain ⟨hij, hy⟩ := hy
    subst hy
    exact ⟨(h1 _ (List.getElem_mem _)).1, by unfold delM; rw [if_neg (hkey i hi hij)]; exact (h1 _ (List.getElem_mem _)).2⟩
  · intro y hy
    unfold delM at hy
    by_cases hyx : y = x
    · rw [if_pos hyx] at hy; exact absurd rfl hy
    · rw [if_neg hyx] at hy
      obtain ⟨e', he', hke⟩ := h2 y hy
      refine ⟨e', ?_, hke⟩
      rw [hlist]
      obtain ⟨i, hi, rfl⟩ := List.getElem_of_mem he'
      refine List.mem_eraseIdx_iff_getElem.2 ⟨i, hi, ?_, rfl⟩
      intro hij
      subst hij
      rw [hje, hk] at hke
      exact hyx hke.symm

theorem cnt_erase {x : Value} (hx : x ∈ ks) (y : Value) : cnt (ks.erase x) y = if y = x then cnt ks y - 1 else cnt ks y := by
  have hp := List.perm_cons_erase hx
  have h1 := cnt_perm hp y
  rw [show x :: ks.erase x = [x] ++ ks.erase x from rfl, cnt_append, cnt_one] at h1
  by_cases hyx : y = x
  · subst hyx
    rw [if_pos rfl] at h1 ⊢
    omega
  · rw [if_neg (fun e => hyx e.symm)] at h1
    rw [if_neg hyx]
    omega
theorem cnt_pos {x : Value} (hx : x ∈ ks) : 0 < cnt ks x := by
  have := mt cnt_zero.1 (fun h => h hx)
  omega

/-- 'm[x]--', read, entry, store. -/
theorem Names.less (h : Names P k w b ks) (K : Keyed P k) (ht : P.underlying t = some (.map k e)) (hz : ∀ w, (zeroValue e).run P w = .ok (.int .i64 0) w) {x : Value} (hx : x ∈ ks) (hk : isKey P k x) :
    ∃ (s : Nat) (w3 w4 : World), (Instr.lookup t (.map (some b)) x false).run P w = .ok (.int .i64 (cnt ks x : Int)) w ∧ (Instr.mapEntry t (.map (some b)) x).run P w = .ok (.tuple #[.int .i64 (cnt ks x : Int), .int .i64 (s : Int)]) w3 ∧ (Instr.lookup t (.map (some b)) x false).run P w3 = .ok (.int .i64 (cnt ks x : Int)) w3 ∧
      (Instr.entryStore t (.map (some b)) (.int .i64 (s : Int)) (.int .i64 ((cnt ks x : Int) - 1))).run P w3 = .ok () w4 ∧ Mod (one b) w w3 ∧ Mod (one b) w w4 ∧
      (1 < cnt ks x → Names P k w4 b (ks.erase x)) ∧ ∃ m n, IMap P k w4 b m n ∧ m x = some (.int .i64 ((cnt ks x : Int) - 1)) ∧ (∀ y, m y ≠ none ↔ y ∈ ks) ∧ ∀ y v, y ≠ x → m y = some v → v = .int .i64 (cnt ks y : Int) := by
  have hlk := h.at_ K ht hz hk
  obtain ⟨m, n, hm, hmem, hval⟩ := h
  have hmx : m x = some (.int .i64 (cnt ks x : Int)) := by
    cases hmx : m x with
    | none => exact absurd hmx ((hmem x).2 hx)
    | some v => rw [hval x v hmx]
  obtain ⟨s, w3, e1, i3, M3, ent⟩ := hm.entry K ht (hz w) hk
  rw [hmx, if_neg (by simp)] at i3
  rw [hmx] at e1
  have hput : putM m x (.int .i64 (cnt ks x : Int)) = m := by
    funext y
    by_cases hyx : y = x
    · rw [hyx, putM_same, hmx]
    · rw [putM_other hyx]
  simp only [Option.getD_some] at i3 e1
  rw [hput] at i3
  have hlk3 := i3.lookup K ht (hz w3) hk false
  rw [if_neg (by simp), hmx] at hlk3
  obtain ⟨w4, e2, i4, M4⟩ := i3.store ent (.int .i64 ((cnt ks x : Int) - 1))
  have hrest : ∀ y, putM m x (.int .i64 ((cnt ks x : Int) - 1)) y ≠ none ↔ y ∈ ks := by
    intro y
    by_cases hyx : y = x
    · rw [hyx, putM_same]; exact ⟨fun _ => hx, fun _ => by simp⟩
    · rw [putM_other hyx]; exact hmem y
  refine ⟨s, w3, w4, hlk, e1, hlk3, e2, M3, M3.trans M4, fun hc => ⟨_, _, i4, fun y => ?_, fun y v hy => ?_⟩, _, _, i4, putM_same .., hrest, fun y v hyx hy => ?_⟩
  · rw [hrest y]
    have h1 := cnt_erase hx y
    have h2 : y ∈ ks.erase x ↔ cnt (ks.erase x) y ≠ 0 := by rw [ne_eq, cnt_zero]; simp
    have h3 : y ∈ ks ↔ cnt ks y ≠ 0 := by rw [ne_eq, cnt_zero]; simp
    rw [h2, h3, h1]
    by_cases hyx : y = x
    · subst hyx; rw [if_pos rfl]; omega
    · rw [if_neg hyx]
  · rw [cnt_erase hx y]
    by_cases hyx : y = x
    · subst hyx
      rw [putM_same] at hy
      cases hy
      rw [if_pos rfl]
      congr 1; omega
    · rw [putM_other hyx] at hy
      rw [if_neg hyx]
      exact hval y v hy
  · rw [putM_other hyx] at hy
    exact hval y v hy
/-- .. and where none is left: the key struck. -/
theorem Names.last {m : Value → Option Value} {n : Nat} (h : IMap P k w b m n) (K : Keyed P k) (ht : P.underlying t = some (.map k e)) {x : Value} (hx : x ∈ ks) (hc : cnt ks x = 1) (h1 : ∀ y, m y ≠ none ↔ y ∈ ks) (h2 : ∀ y v, y ≠ x → m y = some v → v = .int .i64 (cnt ks y : Int)) :
    ∃ w', (∀ ty, (Builtin.delete_ #[t, k] ty #[.map (some b), x]).run P w = .ok (.tuple #[]) w') ∧ Mod (one b) w w' ∧ Names P k w' b (ks.erase x) := by
  obtain ⟨w', hr, hi, M⟩ := IMap.del h K ht ((h1 x).2 hx) 0
  refine ⟨w', fun ty => ?_, M, _, _, hi, fun y => ?_, fun y v hy => ?_⟩
  · rw [← hr]; rfl
  · have e1 := cnt_erase hx y
    have e2 : y ∈ ks.erase x ↔ cnt (ks.erase x) y ≠ 0 := by rw [ne_eq, cnt_zero]; simp
    have e3 : y ∈ ks ↔ cnt ks y ≠ 0 := by rw [ne_eq, cnt_zero]; simp
    unfold delM
    by_cases hyx : y = x
    · subst hyx
      rw [if_pos rfl, e2, e1, if_pos rfl, hc]
      simp
    · rw [if_neg hyx, h1 y, e2, e1, if_neg hyx, e3]
  · unfold delM at hy
    by_cases hyx : y = x
    · rw [if_pos hyx] at hy; cases hy
    · rw [if_neg hyx] at hy
      rw [cnt_erase hx y, if_neg hyx]
      exact h2 y v hyx hy
end Go.Proofs.YthicagfeaekmoaaGreatDoor

namespace Go.Proofs.YthicagfeaekmoaaGreatDoor
open Go.RowKit Go.Mine

theorem drop1_any (w : World) (p s : Nat) (h : w.cell? ⟨p, 0, none⟩ = some (.int .i64 (s : Int))) :
    Calls Tryz.prog 132 #[.pointer (some ⟨p, 0, none⟩)] w fun e w' => e = .returned (.bool (decide (s = 0))) ∧ w' = w := by
  by_cases h0 : s = 0
  · subst h0
    go_enter Tryz.func132, Tryz.ntmps132
    go_wp2
    go_ret
    exact ⟨rfl, rfl⟩
  · have hb : ((s : Int) == 0) = false := by simp; omega
    have hd : decide (s = 0) = false := by simpa using h0
    rw [hd]
    go_enter Tryz.func132, Tryz.ntmps132
    go_wp2
    go_ret
    exact ⟨rfl, rfl⟩

/-- Blocks: where, and of what size. -/
abbrev ptB (x : Nat × Nat) : Value := .pointer (some ⟨x.1, 0, none⟩)
def fullB (x : Nat × Nat) : Bool := !decide (x.2 = 0)
def filB (l : List (Nat × Nat)) : List (Nat × Nat) := l.filter fullB

set_option maxHeartbeats 2000000 in
set_option maxRecDepth 1000000 in
theorem dropIx_any (w : World) (g n cap : Nat) (bs : List (Nat × Nat)) (cs : List Value) (hb : Blk w g cs 131) (hn : bs.length = n) (hnc : n ≤ cap) (hcap : cap ≤ 9223372036854775807) (hat : ∀ (t : Nat) (x : Nat × Nat), bs[t]? = some x → cs[t]? = some (ptB x)) (hs : ∀ x ∈ bs, w.cell? ⟨x.1, 0, none⟩ = some (.int .i64 (x.2 : Int))) :
    Calls Tryz.prog 159 #[.slice (some ⟨g, 0, none⟩) n cap, .func (.func 132) #[] #[]] w fun e w' => w' = w ∧ ((e = .returned (.int .i64 (-1)) ∧ filB bs = bs) ∨ ∃ i : Nat, e = .returned (.int .i64 (i : Int)) ∧ i < n ∧ filB (bs.take (i + 1)) = bs.take i) := by
  have HB := Lib.hid hb
  have HAT := Lib.hid hat
  have HS := Lib.hid hs
  have HN := Lib.hid hn
  clear hb hat hs hn
  go_enter Tryz.func159, Tryz.ntmps159
  go_wp2_with fail
  go_loopg [8] n (fun q s8 wx => ∃ k : Nat, q = n - k ∧ s8 = .int .i64 k ∧ k ≤ n ∧ wx = w ∧ RowKit.Hid (filB (bs.take k) = bs.take k))
  case atStart => exact ⟨0, rfl, rfl, Nat.zero_le _, rfl, Lib.hid rfl⟩
  case round =>
    obtain ⟨k, rfl, rfl, hk, rfl, hst⟩ := hrel
    by_cases hlk : k < n
    · obtain ⟨x, hx⟩ : ∃ x, bs[k]? = some x := ⟨bs[k]'(by rw [HN.out]; exact hlk), by simp⟩
      have c0 : wr.cell? ⟨g, k, none⟩ = some (.pointer (some ⟨x.1, 0, none⟩)) := by rw [HB.out.cell]; exact HAT.out k x hx
      have HC := Lib.hid (drop1_any wr x.1 x.2 (HS.out x (List.mem_of_getElem? hx)))
      have HT := Lib.hid (show filB (bs.take (k + 1)) = if x.2 = 0 then bs.take k else bs.take (k + 1) by
        obtain ⟨hi, e⟩ := List.getElem?_eq_some_iff.1 hx
        have h1 := hst.out
        rw [List.take_succ_eq_append_getElem hi, e]
        unfold filB at *
        rw [List.filter_append, h1]
        by_cases h0 : x.2 = 0
        · rw [if_pos h0]; simp [fullB, h0]
        · rw [if_neg h0]; simp [fullB, h0])
      clear hx hst
      by_cases h0 : x.2 = 0
      · have hd : decide (x.2 = 0) = true := by simpa using h0
        rw [hd] at HC
        rw [if_pos h0] at HT
        clear h0 hd
        go_wp2_with fail
        refine HC.out.mono ?_
        rintro e w1 ⟨rfl, rfl⟩
        go_wp2_with fail
        go_ret
        exact ⟨rfl, .inr ⟨k, rfl, hlk, HT.out⟩⟩
      · have hd : decide (x.2 = 0) = false := by simpa using h0
        rw [hd] at HC
        rw [if_neg h0] at HT
        clear h0 hd
        go_wp2_with fail
        refine HC.out.mono ?_
        rintro e w1 ⟨rfl, rfl⟩
        go_wp2_with fail
        go_roundg (n - (k + 1))
        all_goals first
          | omega
          | exact ⟨k + 1, rfl, by go_num, by omega, rfl, HT⟩
    · obtain rfl : k = n := by omega
      have hF : filB bs = bs := by
        have := hst.out
        rwa [List.take_of_length_le (by rw [HN.out]; omega)] at this
      have HF := Lib.hid hF
      clear hst hF
      go_wp2_with fail
      go_ret
      exact ⟨rfl, .inl ⟨rfl, HF.out⟩⟩

theorem zPtr (w : World) : (zeroValue 131).run Tryz.prog w = .ok (.pointer none) w := by kernel_rfl
/-- What DeleteFunc leaves: a row of the blocks that are not empty. -/
def DelTo (w : World) (g : Nat) (bs : List (Nat × Nat)) (e : Ending) (w' : World) : Prop :=
  ∃ cap, e = .returned (.slice (some ⟨g, 0, none⟩) (filB bs).length cap) ∧ w'.ownsRow 0 131 1 (.slice (some ⟨g, 0, none⟩) (filB bs).length cap) (filB bs).length ((filB bs).map ptB) ∧ Mod (one g) w w'

set_option maxHeartbeats 4000000 in
set_option maxRecDepth 1000000 in
theorem delFn_any (w : World) (g n cap : Nat) (bs : List (Nat × Nat)) (more : List Value) (hb : Blk w g (bs.map ptB ++ more) 131) (hn : bs.length = n) (hnc : n ≤ cap) (hcap : cap ≤ maxLen) (hl : n + more.length = cap) (hs : ∀ x ∈ bs, w.cell? ⟨x.1, 0, none⟩ = some (.int .i64 (x.2 : Int))) (hne : ∀ x ∈ bs, x.1 ≠ g) :
    Calls Tryz.prog 131 #[.slice (some ⟨g, 0, none⟩) n cap, .func (.func 132) #[] #[]] w (DelTo w g bs) := by
  have hcap' := hcap
  unfold maxLen at hcap'
  have HI := Lib.hid (dropIx_any w g n cap bs _ hb hn hnc hcap' (fun t x hx => by
    have ht := (List.getElem?_eq_some_iff.1 hx).1
    rw [List.getElem?_append_left (by simpa using ht), List.getElem?_map, hx]; rfl) hs)
  have HB := Lib.hid hb
  have HN := Lib.hid hn
  have HL := Lib.hid hl
  have HS := Lib.hid hs
  have HNE := Lib.hid hne
  have HCAP := Lib.hid hcap
  clear hb hn hl hs hne hcap
  go_enter Tryz.func131, Tryz.ntmps131
  go_wp2_with fail
  refine HI.out.mono ?_
  rintro e w1 ⟨rfl, ⟨rfl, hf⟩ | ⟨i, rfl, hin, hf⟩⟩
  · have HF := Lib.hid hf
    clear hf
    go_wp2_with fail
    go_ret
    refine ⟨cap, by rw [HF.out, HN.out]; rfl, ?_, Mod.refl _ _⟩
    rw [HF.out, HN.out]
    exact blk_ownsRow (Nat.zero_le _) HB.out (by simp [HN.out]) hnc HCAP.out (by simp [HN.out, HL.out])
  · have hib : ((i : Int) == -1) = false := by simp <;> omega
    have hi0 : (i : Int) ≤ 9223372036854775806 := by omega
    have HST := Lib.hid (show (bs.map ptB ++ more).take i = (filB (bs.take (i + 1))).map ptB ∧ i = (filB (bs.take (i + 1))).length ∧ (bs.map ptB ++ more).length = cap ∧ ∀ (t : Nat) (x : Nat × Nat), i + 1 ≤ t → bs[t]? = some x → (bs.map ptB ++ more)[t]? = some (ptB x) by
      rw [hf]
      refine ⟨?_, ?_, by simp [HN.out, HL.out], fun t x _ hx => ?_⟩
      · rw [List.take_append_of_le_length (by simp [HN.out]; omega), List.map_take]
      · rw [List.length_take, HN.out]; omega
      · have ht := (List.getElem?_eq_some_iff.1 hx).1
        rw [List.getElem?_append_left (by simpa using ht), List.getElem?_map, hx]; rfl)
    clear hf
    go_wp2_with fail
    go_loopg [5, 6] (n - (i + 1)) (fun q s5 s6 wx => ∃ (i j : Nat) (cs : List Value), q = n - j ∧ s5 = .int .i64 i ∧ s6 = .int .i64 j ∧ i < j ∧ j ≤ n ∧ Mod (one g) w1 wx ∧ Blk wx g cs 131 ∧ RowKit.Hid (cs.take i = (filB (bs.take j)).map ptB ∧ i = (filB (bs.take j)).length ∧ cs.length = cap ∧ ∀ (t : Nat) (x : Nat × Nat), j ≤ t → bs[t]? = some x → cs[t]? = some (ptB x)))
    case atStart => exact ⟨i, i + 1, _, rfl, rfl, by go_num, by omega, by omega, Mod.refl _ _, HB.out, HST⟩
    case round =>
      obtain ⟨i, j, cs, rfl, rfl, rfl, hij, hjn, mx, kx, hst⟩ := hrel
      have MX := Lib.hid mx
      have KX := Lib.hid kx
      by_cases hlj : j < n
      · obtain ⟨x, hx⟩ : ∃ x, bs[j]? = some x := ⟨bs[j]'(by rw [HN.out]; exact hlj), by simp⟩
        have hxm := List.mem_of_getElem? hx
        have c0 : wr.cell? ⟨g, j, none⟩ = some (.pointer (some ⟨x.1, 0, none⟩)) := by rw [kx.cell]; exact hst.out.2.2.2 j x (Nat.le_refl _) hx
        have HC := Lib.hid (drop1_any wr x.1 x.2 (mx.cell (fun e => HNE.out x hxm e) (HS.out x hxm)))
        have hfs : filB (bs.take (j + 1)) = filB (bs.take j) ++ if x.2 = 0 then [] else [x] := by
          obtain ⟨hi, e⟩ := List.getElem?_eq_some_iff.1 hx
          rw [List.take_succ_eq_append_getElem hi, e]
          unfold filB
          rw [List.filter_append]
          by_cases h0 : x.2 = 0 <;> simp [fullB, h0]
        have HFS := Lib.hid hfs
        have HX := Lib.hid hx
        clear hx hxm mx hfs
        by_cases h0 : x.2 = 0
        · have hd : decide (x.2 = 0) = true := by simpa using h0
          rw [hd] at HC
          rw [if_pos h0, List.append_nil] at HFS
          have HS2 := Lib.hid (show cs.take i = (filB (bs.take (j + 1))).map ptB ∧ i = (filB (bs.take (j + 1))).length ∧ cs.length = cap ∧ ∀ (t : Nat) (x : Nat × Nat), j + 1 ≤ t → bs[t]? = some x → cs[t]? = some (ptB x) by
            rw [HFS.out]
            exact ⟨hst.out.1, hst.out.2.1, hst.out.2.2.1, fun t x ht hx => hst.out.2.2.2 t x (by omega) hx⟩)
          clear h0 hd hst kx
          go_wp2_with fail
          refine HC.out.mono ?_
          rintro e w2 ⟨rfl, rfl⟩
          go_wp2_with fail
          go_roundg (n - (j + 1))
          all_goals first
            | omega
            | exact ⟨i, j + 1, cs, rfl, rfl, by go_num, by omega, by omega, MX.out, KX.out, HS2⟩
        · have hd : decide (x.2 = 0) = false := by simpa using h0
          rw [hd] at HC
          rw [if_neg h0] at HFS
          have hcl : cs.length = cap := hst.out.2.2.1
          have HS2 := Lib.hid (show (cs.set i (ptB x)).take (i + 1) = (filB (bs.take (j + 1))).map ptB ∧ i + 1 = (filB (bs.take (j + 1))).length ∧ (cs.set i (ptB x)).length = cap ∧ ∀ (t : Nat) (y : Nat × Nat), j + 1 ≤ t → bs[t]? = some y → (cs.set i (ptB x))[t]? = some (ptB y) by
            rw [HFS.out]
            refine ⟨?_, by simp [← hst.out.2.1], by simp [hcl], fun t y ht hy => ?_⟩
            · rw [List.take_succ_eq_append_getElem (by simp; omega), List.map_append, ← hst.out.1, List.take_set, List.set_eq_of_length_le (by rw [List.length_take]; omega)]
              simp
            · rw [List.getElem?_set_ne (by omega)]
              exact hst.out.2.2.2 t y (by omega) hy)
          have c1 : wr.cell? ⟨g, i, none⟩ = some (cs[i]'(by omega)) := by rw [kx.cell]; exact List.getElem?_eq_getElem _
          have r1 := kx.frozen i
          have hin : i < n := by omega
          generalize cs[i]'(by omega) = vv at c1
          have HCL := Lib.hid hcl
          clear h0 hd hst kx hcl
          go_wp2_with fail
          refine HC.out.mono ?_
          rintro e w2 ⟨rfl, rfl⟩
          go_wp2_with fail
          go_roundg (n - (j + 1))
          all_goals first
            | omega
            | exact ⟨i + 1, j + 1, _, rfl, by go_num, by go_num, by omega, by omega, MX.out.setCell ⟨g, i, none⟩ (fun _ => rfl) _, KX.out.set i (ptB x), HS2⟩
      · obtain rfl : j = n := by omega
        obtain ⟨h1, h2, h3, _⟩ := hst.out
        have hbt : bs.take j = bs := List.take_of_length_le (by rw [HN.out]; omega)
        rw [hbt] at h1 h2
        have hcl := fun ty => Lib.run_clear_slice (P := Tryz.prog) wr 125 131 ty (.pointer none) Tryz.underlying125 zPtr rfl rfl g i (j - i) (cap - i) (by omega) (fun t ht => by rw [kx.cell, List.getElem?_eq_getElem (by omega)]; rfl) (fun t ht => kx.frozen _)
        obtain ⟨B2, M2⟩ := Blk.setCells (List.replicate (j - i) (.pointer none)) i wr cs kx (by simp; omega)
        have M3 := Lib.hid (MX.out.trans M2)
        have O3 : RowKit.Hid ((wr.setCells g i (List.replicate (j - i) (.pointer none))).ownsRow 0 131 1 (.slice (some ⟨g, 0, none⟩) i cap) i ((filB bs).map ptB)) := by
          refine Lib.hid ?_
          rw [← h1]
          have e : cs.take i ++ List.replicate (j - i) (Value.pointer none) ++ cs.drop (i + (List.replicate (j - i) (Value.pointer none)).length) = cs.take i ++ (List.replicate (j - i) (Value.pointer none) ++ cs.drop j) := by
            rw [List.append_assoc, List.length_replicate, show i + (j - i) = j by omega]
          rw [e] at B2
          exact blk_ownsRow (Nat.zero_le _) B2 (by rw [List.length_take]; omega) (by omega) HCAP.out (by simp; omega)
        have H2 := Lib.hid h2
        have hic : i ≤ cap := by omega
        have hin : i < j := hij
        have hne : ¬ cap = i := by omega
        clear hst mx kx h1 h2 h3 B2 M2
        go_wp2_with fail
        go_ret
        exact ⟨cap, by rw [← H2.out]; rfl, by rw [← H2.out]; exact O3.out, M3.out⟩
end Go.Proofs.YthicagfeaekmoaaGreatDoor

namespace Go.Proofs.YthicagfeaekmoaaGreatDoor
open Go.RowKit Go.Mine

set_option maxHeartbeats 2000000 in
set_option maxRecDepth 1000000 in
theorem has1_any (w : World) (P : Addr) (f n p : Int) (h : w.cell? P = some (.int .i64 p)) (hb : -9223372036854775808 ≤ f + n ∧ f + n ≤ 9223372036854775807) :
    Calls Tryz.prog 158 #[.agg #[.int .i64 f, .int .i64 n], .pointer (some P)] w fun e w' => e = .returned (.bool (decide (f ≤ p ∧ p < f + n))) ∧ Mod none_ w w' := by
  obtain ⟨W0, hW0⟩ : ∃ W0, w.alloc (.cells #[.int .i64 f, .int .i64 n] 49) = W0 := ⟨_, rfl⟩
  have m0 : Mod none_ w W0 := by rw [← hW0]; exact (Mod.refl none_ w).alloc _
  have kB : Blk W0 w.heap.size [.int .i64 f, .int .i64 n] 49 := by rw [← hW0]; exact Blk.new
  have hP : W0.cell? P = some (.int .i64 p) := m0.cell (fun e => e) h
  have c0 : W0.cell? ⟨w.heap.size, 0, none⟩ = some (.int .i64 f) := kB.cell 0
  have c1 : W0.cell? ⟨w.heap.size, 1, none⟩ = some (.int .i64 n) := kB.cell 1
  have M0 := Lib.hid m0
  clear h m0 kB
  by_cases h1 : f ≤ p
  · have hd : decide (f ≤ p) = true := by simpa using h1
    have hR : (decide (f ≤ p ∧ p < f + n)) = decide (p < f + n) := by simp [h1]
    rw [hR]
    clear hR
    go_enter Tryz.func158, Tryz.ntmps158
    go_upto_region 1 with fail
    clear hW0
    go_region_held3 (fun w' => Mod none_ W0 w' ∧ w'.cell? P = some (.int .i64 p) ∧ w'.cell? ⟨w.heap.size, 0, none⟩ = some (.int .i64 f) ∧ w'.cell? ⟨w.heap.size, 1, none⟩ = some (.int .i64 n))
      (first
        | exact ⟨Mod.drew (Mod.refl none_ W0), hP, c0, c1⟩
        | assumption
        | (obtain ⟨q, q0, q1, q2⟩ := ‹Mod none_ W0 _ ∧ _›; exact ⟨q.trans m1, m1.cell (fun e => e) q0, m1.cell (fun e => e) q1, m1.cell (fun e => e) q2⟩))
      (first
        | (go_at_call 156; refine (end_any f n _ hb).mono ?_; rintro e w1 ⟨rfl, m1⟩))
    go_wp2_with fail
    go_ret
    exact ⟨rfl, M0.out.trans (And.left (by assumption))⟩
  · have hd : decide (f ≤ p) = false := by simpa using h1
    have hR : (decide (f ≤ p ∧ p < f + n)) = false := by simp [h1]
    rw [hR]
    clear hR
    go_enter Tryz.func158, Tryz.ntmps158
    go_upto_region 1 with fail
    clear hW0
    refine wp_region_held_drew (S := fun w' => Mod none_ W0 w' ∧ w'.cell? P = some (.int .i64 p) ∧ w'.cell? ⟨w.heap.size, 0, none⟩ = some (.int .i64 f) ∧ w'.cell? ⟨w.heap.size, 1, none⟩ = some (.int .i64 n)) (by kernel_rfl) ⟨Mod.drew (Mod.refl none_ W0), hP, c0, c1⟩ (fun hS => ?_)
    refine wpAnyH_take (i := 0) (v := .int .i64 p) rfl (by kernel_rfl) (by kernel_rfl) (by kernel_rfl) (fun _ _ _ h => h) (Or.inl ⟨by kernel_rfl, ?_⟩) hS ?_
    · rintro w' ⟨_, q0, q1, q2⟩; go_simp
    try simp only [Act.put, List.setIfInBounds_toArray]
    refine wpAnyH_take (i := 1) (v := .pointer (some ⟨w.heap.size, 0, none⟩)) rfl (by kernel_rfl) (by kernel_rfl) (by kernel_rfl) (fun _ _ _ h => h) (Or.inl ⟨by kernel_rfl, ?_⟩) hS ?_
    · rintro w' ⟨_, q0, q1, q2⟩; go_simp
    try simp only [Act.put]
    refine wpAnyH_take (i := 2) (v := .int .i64 f) rfl (by kernel_rfl) (by kernel_rfl) (by kernel_rfl) (fun _ _ _ h => h) (Or.inl ⟨by kernel_rfl, ?_⟩) hS ?_
    · rintro w' ⟨_, q0, q1, q2⟩; go_simp
    try simp only [Act.put]
    refine wpAnyH_take (i := 3) (v := .bool false) rfl (by kernel_rfl) (by kernel_rfl) (by kernel_rfl) (fun _ _ _ h => h) (Or.inl ⟨by kernel_rfl, ?_⟩) hS ?_
    · rintro w' ⟨_, q0, q1, q2⟩; go_simp
    try simp only [Act.put]
    refine wpAnyH_take (i := 4) (v := .bool false) rfl (by kernel_rfl) (by kernel_rfl) (by kernel_rfl) (fun _ _ _ h => h) (Or.inl ⟨by kernel_rfl, ?_⟩) hS ?_
    · rintro w' ⟨_, q0, q1, q2⟩; go_simp
    try simp only [Act.put]
    refine wpAnyH_take (i := 5) (v := undef) rfl (by kernel_rfl) (by kernel_rfl) (by kernel_rfl) (fun _ _ _ h => h) (Or.inr ⟨by kernel_rfl, rfl⟩) hS ?_
    try simp only [Act.put]
    refine wpAnyH_take (i := 6) (v := undef) rfl (by kernel_rfl) (by kernel_rfl) (by kernel_rfl) (fun _ _ _ h => h) (Or.inr ⟨by kernel_rfl, rfl⟩) hS ?_
    try simp only [Act.put]
    refine wpAnyH_take (i := 7) (v := undef) rfl (by kernel_rfl) (by kernel_rfl) (by kernel_rfl) (fun _ _ _ h => h) (Or.inr ⟨by kernel_rfl, rfl⟩) hS ?_
    try simp only [Act.put]
    refine wpAnyH_take (i := 8) (v := undef) rfl (by kernel_rfl) (by kernel_rfl) (by kernel_rfl) (fun _ _ _ h => h) (Or.inr ⟨by kernel_rfl, rfl⟩) hS ?_
    try simp only [Act.put]
    refine wpAnyH_take (i := 9) (v := .bool false) rfl (by kernel_rfl) (by kernel_rfl) (by kernel_rfl) (fun _ _ _ h => h) (Or.inl ⟨by kernel_rfl, ?_⟩) hS ?_
    · rintro w' ⟨_, q0, q1, q2⟩; go_simp
    try simp only [Act.put]
    refine wpAnyH_take (i := 10) (v := .bool false) rfl (by kernel_rfl) (by kernel_rfl) (by kernel_rfl) (fun _ _ _ h => h) (Or.inl ⟨by kernel_rfl, ?_⟩) hS ?_
    · rintro w' ⟨_, q0, q1, q2⟩; go_simp
    try simp only [Act.put]
    refine wpAnyH_done (by kernel_rfl) ?_ _
    try simp only [List.getElem_toArray, List.getElem_cons_succ, List.getElem_cons_zero]
    try simp only [List.setIfInBounds_toArray, List.set_cons_zero, List.set_cons_succ]
    go_wp2_with fail
    go_ret
    exact ⟨rfl, M0.out.trans hS.1⟩

theorem ok_fits : ∀ (l : List (Int × Int)) (last : Int), spansFrom last l = true → ∀ x ∈ l, 0 ≤ x.1 ∧ x.1 ≤ 20000 ∧ 1 ≤ x.2 ∧ x.2 ≤ 20000 - x.1 := spansFrom_ok

set_option maxHeartbeats 2000000 in
set_option maxRecDepth 1000000 in
theorem hasIx_any (w : World) (a : Option Addr) (len cap : Nat) (l : List (Int × Int)) (P : Addr) (p : Int) (h : IsSpans w a len cap l) (hok : ∀ x ∈ l, -9223372036854775808 ≤ x.1 + x.2 ∧ x.1 + x.2 ≤ 9223372036854775807) (hP : w.cell? P = some (.int .i64 p)) :
    Calls Tryz.prog 178 #[.slice a len cap, .func (.func 158) #[] #[.pointer (some P)]] w fun e w' => (∃ r : Int, e = .returned (.int .i64 r) ∧ -1 ≤ r ∧ r ≤ 9223372036854775807 ∧ (decide (0 ≤ r) = l.any fun x => decide (x.1 ≤ p ∧ p < x.1 + x.2))) ∧ Mod none_ w w' := by
  have hle := h.le
  have hcap := h.big
  unfold maxLen at hcap
  have H := Lib.hid h
  have HN := Lib.hid h.n
  have HOK := Lib.hid hok
  have HP := Lib.hid hP
  clear h hok hP
  go_enter Tryz.func178, Tryz.ntmps178
  go_wp2_with fail
  go_loopg [8] len (fun g s8 wx => ∃ k : Nat, g = len - k ∧ s8 = .int .i64 k ∧ k ≤ len ∧ Mod none_ w wx ∧ RowKit.Hid (((l.take k).any fun x => decide (x.1 ≤ p ∧ p < x.1 + x.2)) = false))
  case atStart => exact ⟨0, rfl, rfl, Nat.zero_le _, Mod.refl _ _, Lib.hid rfl⟩
  case round =>
    obtain ⟨k, rfl, rfl, hk, mx, hst⟩ := hrel
    have MX := Lib.hid mx
    by_cases hlk : k < len
    · obtain ⟨x, hx⟩ : ∃ x, l[k]? = some x := ⟨l[k]'(by rw [HN.out]; exact hlk), by simp⟩
      obtain ⟨b, off, rfl, c0, c1⟩ := (H.out.grown mx).cells k x hx
      have HC := Lib.hid (has1_any wr P x.1 x.2 p (mx.cell (fun e => e) HP.out) (HOK.out x (List.mem_of_getElem? hx)))
      have HT := Lib.hid (show ((l.take (k + 1)).any fun x => decide (x.1 ≤ p ∧ p < x.1 + x.2)) = decide (x.1 ≤ p ∧ p < x.1 + x.2) by
        obtain ⟨hi, e⟩ := List.getElem?_eq_some_iff.1 hx
        rw [List.take_succ_eq_append_getElem hi, List.any_append, hst.out, e]; simp)
      have HA := Lib.hid (fun (hb : decide (x.1 ≤ p ∧ p < x.1 + x.2) = true) => (show (l.any fun x => decide (x.1 ≤ p ∧ p < x.1 + x.2)) = true from List.any_eq_true.2 ⟨x, List.mem_of_getElem? hx, hb⟩))
      generalize decide (x.1 ≤ p ∧ p < x.1 + x.2) = bb at HC HT HA
      obtain ⟨f, n⟩ := x
      clear hx hst mx
      cases bb
      · go_wp2_with fail
        refine HC.out.mono ?_
        rintro e w1 ⟨rfl, m1⟩
        have M1 := Lib.hid (MX.out.trans m1)
        clear m1
        go_wp2_with fail
        go_roundg (len - (k + 1))
        all_goals first
          | omega
          | exact ⟨k + 1, rfl, by go_num, by omega, M1.out, HT⟩
      · go_wp2_with fail
        refine HC.out.mono ?_
        rintro e w1 ⟨rfl, m1⟩
        have M1 := Lib.hid (MX.out.trans m1)
        clear m1
        go_wp2_with fail
        go_ret
        exact ⟨⟨k, rfl, by omega, by omega, by rw [HA.out trivial]; simp⟩, M1.out⟩
    · obtain rfl : k = len := by omega
      have hF : (l.any fun x => decide (x.1 ≤ p ∧ p < x.1 + x.2)) = false := by
        have := hst.out
        rwa [List.take_of_length_le (by rw [HN.out]; omega)] at this
      have HF := Lib.hid hF
      clear hst mx hF
      go_wp2_with fail
      go_ret
      exact ⟨⟨-1, rfl, by omega, by omega, by rw [HF.out]; rfl⟩, MX.out⟩

set_option maxHeartbeats 2000000 in
set_option maxRecDepth 1000000 in
theorem hasCf_any (w : World) (a : Option Addr) (len cap : Nat) (l : List (Int × Int)) (P : Addr) (p : Int) (h : IsSpans w a len cap l) (hok : ∀ x ∈ l, -9223372036854775808 ≤ x.1 + x.2 ∧ x.1 + x.2 ≤ 9223372036854775807) (hP : w.cell? P = some (.int .i64 p)) :
    Calls Tryz.prog 157 #[.slice a len cap, .func (.func 158) #[] #[.pointer (some P)]] w fun e w' => e = .returned (.bool (l.any fun x => decide (x.1 ≤ p ∧ p < x.1 + x.2))) ∧ Mod none_ w w' := by
  have HI := Lib.hid (hasIx_any w a len cap l P p h hok hP)
  clear h hok hP
  go_enter Tryz.func157, Tryz.ntmps157
  go_wp2_with fail
  refine HI.out.mono ?_
  rintro e w2 ⟨⟨r, rfl, h1, h2, h3⟩, m2⟩
  have M2 := Lib.hid m2
  have H3 := Lib.hid h3
  clear m2 h3
  go_wp2_with fail
  go_ret
  exact ⟨by rw [← H3.out]; rfl, M2.out⟩

set_option maxHeartbeats 2000000 in
set_option maxRecDepth 1000000 in
theorem has_any (w : World) (a : Option Addr) (len cap : Nat) (l : List (Int × Int)) (p : Nat) (h : IsSpans w a len cap l) (hok : spansOk l = true) :
    Calls Tryz.prog 130 #[.slice a len cap, .int .i64 p] w fun e w' => e = .returned (.bool (hasPl l p)) ∧ Mod none_ w w' := by
  obtain ⟨W0, hW0⟩ : ∃ W0, w.alloc (.cells #[.int .i64 p] 3) = W0 := ⟨_, rfl⟩
  have m0 : Mod none_ w W0 := by rw [← hW0]; exact (Mod.refl none_ w).alloc _
  have kB : Blk W0 w.heap.size [.int .i64 p] 3 := by rw [← hW0]; exact Blk.new
  have HM := Lib.hid (spansMay_any W0 a len cap l (h.grown m0))
  rw [hok] at HM
  have HL := Lib.hid (fun (W : World) (m : Mod none_ W0 W) => hasCf_any W a len cap l ⟨w.heap.size, 0, none⟩ p ((h.grown m0).grown m) (fun x hx => by have := ok_fits l (-1) hok x hx; omega) (m.cell (fun e => e) (kB.cell 0)))
  have M0 := Lib.hid m0
  unfold hasPl
  generalize (l.any fun x => decide (x.1 ≤ (p : Int) ∧ (p : Int) < x.1 + x.2)) = R at HL ⊢
  clear h m0 kB hok
  go_enter Tryz.func130, Tryz.ntmps130
  go_upto_region 1 with fail
  clear hW0
  go_wp2_with fail
  refine HM.out.mono ?_
  rintro e w1 ⟨rfl, m1⟩
  have HI := Lib.hid (HL.out w1 m1)
  have M1 := Lib.hid (M0.out.trans m1)
  clear m1 HM HL
  go_wp2_with fail
  refine HI.out.mono ?_
  rintro e w2 ⟨rfl, m2⟩
  have M2 := Lib.hid (M1.out.trans m2)
  clear m2
  go_wp2_with fail
  go_ret
  exact ⟨rfl, M2.out⟩
end Go.Proofs.YthicagfeaekmoaaGreatDoor

namespace Go.Proofs.YthicagfeaekmoaaGreatDoor
open Go.RowKit Go.Shelf Go.Mine Go.Maps
open Classical

/-- Is a live cell at one of the places? (the list begins at place p) -/
def hitFrom (sp : List (Int × Int)) : Nat → List CellV → Bool
  | _, [] => false
  | p, c :: r => (!c.gone && hasPl sp p) || hitFrom sp (p + 1) r
/-- The cells at other places. -/
def dropFrom (sp : List (Int × Int)) : Nat → List CellV → List CellV
  | _, [] => []
  | p, c :: r => if hasPl sp p then dropFrom sp (p + 1) r else c :: dropFrom sp (p + 1) r
theorem hitFrom_append (sp : List (Int × Int)) : ∀ (a b : List CellV) (p : Nat), hitFrom sp p (a ++ b) = (hitFrom sp p a || hitFrom sp (p + a.length) b)
  | [], b, p => by simp [hitFrom]
  | c :: r, b, p => by
    rw [List.cons_append, hitFrom, hitFrom_append sp r b (p + 1), hitFrom, List.length_cons, Bool.or_assoc, show p + 1 + r.length = p + (r.length + 1) by omega]
theorem dropFrom_append (sp : List (Int × Int)) : ∀ (a b : List CellV) (p : Nat), dropFrom sp p (a ++ b) = dropFrom sp p a ++ dropFrom sp (p + a.length) b
  | [], b, p => by simp [dropFrom]
  | c :: r, b, p => by
    rw [List.cons_append, dropFrom, dropFrom_append sp r b (p + 1), dropFrom, List.length_cons, show p + 1 + r.length = p + (r.length + 1) by omega]
    split <;> simp
theorem hitFrom_one (sp : List (Int × Int)) (p : Nat) (c : CellV) : hitFrom sp p [c] = (!c.gone && hasPl sp p) := by simp [hitFrom]
theorem dropFrom_one (sp : List (Int × Int)) (p : Nat) (c : CellV) : dropFrom sp p [c] = if hasPl sp p then [] else [c] := by rw [dropFrom, dropFrom]
theorem dropFrom_sub (sp : List (Int × Int)) : ∀ (l : List CellV) (p : Nat), (dropFrom sp p l).Sublist l
  | [], _ => List.Sublist.refl _
  | c :: r, p => by
    rw [dropFrom]
    split
    · exact (dropFrom_sub sp r (p + 1)).cons c
    · exact (dropFrom_sub sp r (p + 1)).cons_cons c
theorem dropFrom_len (sp : List (Int × Int)) (l : List CellV) (p : Nat) : (dropFrom sp p l).length ≤ l.length := (dropFrom_sub sp l p).length_le
/-- The last span's end. -/
def endS (sp : List (Int × Int)) : Int := match sp.getLast? with
  | some x => x.1 + x.2
  | none => 0
/-- What Drop answers, and what it leaves. -/
def dropE (sp : List (Int × Int)) (l : List CellV) : Int := if spansOk sp then (if (l.length : Int) < endS sp then 1 else if hitFrom sp 0 l then 13 else 0) else 1
def dropL (sp : List (Int × Int)) (l : List CellV) : List CellV := if dropE sp l = 0 then dropFrom sp 0 l else l

/-- One name less. -/
theorem erase_perm {A B : List Value} {x : Value} : ((A ++ x :: B).erase x).Perm (A ++ B) := by
  have h1 : (A ++ x :: B).Perm (x :: (A ++ B)) := List.perm_middle
  have h2 := h1.erase x
  rwa [List.erase_cons_head] at h2

/-- The blocks, the empty ones struck. -/
def fullBl (bl : List BV) : List BV := bl.filter fun x => !decide (x.c.length = 0)
theorem fullBl_cells : ∀ bl : List BV, cellsOf (fullBl bl) = cellsOf bl
  | [] => rfl
  | x :: r => by
    have ih := fullBl_cells r
    unfold fullBl cellsOf at *
    rw [List.filter_cons]
    by_cases h : x.c.length = 0
    · rw [if_neg (by simp [h]), ih, List.flatMap_cons, List.eq_nil_of_length_eq_zero h]; rfl
    · rw [if_pos (by simp [h]), List.flatMap_cons, List.flatMap_cons, ih]
theorem fullBl_ne (bl : List BV) : ∀ x ∈ fullBl bl, x.c ≠ [] := by
  intro x hx e
  have := (List.mem_filter.1 hx).2
  rw [e] at this
  simp at this
abbrev bsOf (bl : List BV) : List (Nat × Nat) := bl.map fun x => (x.p, x.c.length)
theorem filB_bs (bl : List BV) : filB (bsOf bl) = bsOf (fullBl bl) := by
  unfold filB bsOf fullBl
  rw [List.filter_map]
  rfl
theorem bsOf_ptrs (bl : List BV) : (bsOf bl).map ptB = ptrsOf bl := by unfold bsOf ptrsOf; rw [List.map_map]; rfl

/-- The document behind DeleteFunc and the store of its result. -/
theorem DocV.full {w w1 w2 : World} {D MB g k cap : Nat} {v : Value} {bl : List BV} (h : DocV w D v MB bl) (hv : v.ownBlock = some g) (m1 : Mod (one g) w w1) (ho : w1.ownsRow 0 131 1 (.slice (some ⟨g, 0, none⟩) k cap) k (ptrsOf (fullBl bl))) (hk : k = (fullBl bl).length)
    (he : w2 = w1.setCell ⟨D, 0, none⟩ (.slice (some ⟨g, 0, none⟩) k cap)) : DocV w2 D (.slice (some ⟨g, 0, none⟩) k cap) MB (fullBl bl) := by
  subst hk
  have hty : ∃ cs, Blk w g cs 131 := ownsRow_type h.ptrs hv
  obtain ⟨cs, kg⟩ := hty
  have d1 := h.doc.mod m1 (fun e => by have e' : D = g := e; exact Blk.apart h.doc kg (by decide) e')
  have mS : Mod (one D) w1 w2 := by rw [he]; exact (Mod.refl (one D) w1).setCell ⟨D, 0, none⟩ (fun _ => rfl) _
  refine ⟨by rw [he]; exact d1.set 0 _, ownsRow_mod ho mS (fun b hb e => ?_), fun x hx => ?_, h.apart.filter _⟩
  · have e' : b = D := e
    subst e'
    obtain ⟨cs', hc⟩ := ownsRow_type ho hb
    exact Blk.apart d1 hc (by decide) rfl
  · have hxm : x ∈ bl := (List.mem_filter.1 hx).1
    have hb := h.blk x hxm
    have ne1 : ¬ one g x.p := fun e => by have e' : x.p = g := e; exact Blk.apart hb.b kg (by decide) e'
    have ne2 : ∀ b, x.v.ownBlock = some b → ¬ one g b := fun b hb' e => by
      have e' : b = g := e
      subst e'
      obtain ⟨cs', hc⟩ := ownsRow_type hb.o hb'
      exact Blk.apart hc kg (by decide) rfl
    have hb1 := hb.mod m1 ne1 ne2
    refine hb1.mod mS (fun e => by have e' : x.p = D := e; exact Blk.apart hb1.b d1 (by decide) e') (fun b hb' e => ?_)
    have e' : b = D := e
    subst e'
    obtain ⟨cs', hc⟩ := ownsRow_type hb1.o hb'
    exact Blk.apart hc d1 (by decide) rfl

/-- Behind k blocks: bl' in their places. -/
structure DrpI (wb : World) (D MB : Nat) (v : Value) (bl : List BV) (sp : List (Int × Int)) (k : Nat) (bl' : List BV) (wx : World) : Prop where
  doc : DocV wx D v MB (bl' ++ bl.drop k)
  len : bl'.length = k
  cs : cellsOf bl' = dropFrom sp 0 (cellsOf (bl.take k))
  nm : Names Tryz.prog 28 wx MB ((cellsOf bl' ++ cellsOf (bl.drop k)).map CellV.name)
  m : Mod (fun b => foot D v bl b ∨ b = MB) wb wx
  ft : ∀ b, foot D v (bl' ++ bl.drop k) b → foot D v bl b ∨ wb.heap.size ≤ b
/-- In block x, behind i of its cells: lv is what is left of them. -/
structure DrpJ (wx : World) (MB P : Nat) (A B : List CellV) (c : List CellV) (sp : List (Int × Int)) (i n : Nat) (lv : Value) (wy : World) : Prop where
  m : Mod (one MB) wx wy
  row : wy.ownsRow wx.heap.size 47 5 lv n (flat CellV.cs (dropFrom sp P (c.take i)))
  nm : Names Tryz.prog 28 wy MB ((A ++ dropFrom sp P (c.take i) ++ c.drop i ++ B).map CellV.name)
theorem DrpJ.grown {wx wy wz : World} {MB P i n : Nat} {A B c : List CellV} {sp : List (Int × Int)} {lv : Value} (h : DrpJ wx MB P A B c sp i n lv wy) (m : Mod none_ wy wz) : DrpJ wx MB P A B c sp i n lv wz :=
  ⟨h.m.transIn m (fun _ _ e => e.elim), ownsRow_mod h.row m (fun _ _ e => e), h.nm.mod m (fun e => e)⟩
theorem DrpJ.n {wx wy : World} {MB P i n : Nat} {A B c : List CellV} {sp : List (Int × Int)} {lv : Value} (h : DrpJ wx MB P A B c sp i n lv wy) : n = (dropFrom sp P (c.take i)).length := by
  have := h.row.1
  rw [flat_length CellV.len] at this
  omega
theorem DrpJ.start {wx : World} {MB P : Nat} {A B c : List CellV} {sp : List (Int × Int)} (h : Names Tryz.prog 28 wx MB ((A ++ c ++ B).map CellV.name)) : DrpJ wx MB P A B c sp 0 0 (.slice none 0 0) wx :=
  ⟨Mod.refl _ _, ⟨rfl, .inl ⟨rfl, rfl⟩⟩, by simpa [dropFrom] using h⟩
theorem drop_step {sp : List (Int × Int)} {P i : Nat} {c : List CellV} {x : CellV} (hx : c[i]? = some x) : dropFrom sp P (c.take (i + 1)) = dropFrom sp P (c.take i) ++ (if hasPl sp (P + i) then [] else [x]) ∧ c.drop i = x :: c.drop (i + 1) := by
  obtain ⟨hi, e⟩ := List.getElem?_eq_some_iff.1 hx
  refine ⟨?_, by rw [List.drop_eq_getElem_cons hi, e]⟩
  rw [List.take_succ_eq_append_getElem hi, e, dropFrom_append, dropFrom_one, List.length_take, Nat.min_eq_left (by omega)]
/-- A cell stays: it is appended. -/
theorem DrpJ.keep {wx wy Y : World} {MB P i n vc X : Nat} {va : Option Addr} {A B c : List CellV} {sp : List (Int × Int)} {x : CellV} (h : DrpJ wx MB P A B c sp i n (.slice va n vc) wy) (hx : c[i]? = some x) (hp : hasPl sp (P + i) = false) (hn : n ≤ 1099511627776) (mY : Mod none_ wy Y) (kY : Blk Y X x.cs 47) :
    ∃ va' vc' w4, (appSem #[22, 22] 22 #[.slice va n vc, .slice (some ⟨X, 0, none⟩) 1 1]).run Tryz.prog Y = .ok (.slice va' (n + 1) vc') w4 ∧ DrpJ wx MB P A B c sp (i + 1) (n + 1) (.slice va' (n + 1) vc') w4 ∧ ∀ (b : Nat) (ds : List Value) (t : TypeId), t ≠ 47 → Blk Y b ds t → Blk w4 b ds t := by
  obtain ⟨i0, hi0, hz0, hz1, hz2⟩ := info_parts infoCell
  have hY := h.grown mY
  obtain ⟨v', w4, hrun, hown, hgrow, _⟩ := run_append_own (P := Tryz.prog) Y wx.heap.size 22 22 47 i0 _ 5 32 Tryz.underlying22 hi0 hz0 hz1 hz2 rfl (by decide) (.slice va n vc) n _ hY.row ⟨X, 0, none⟩ 1 1 x.cs rfl (World.news_of_block kY) (CellV.ones x) (by unfold maxLen; omega) (by omega) hY.m.size
  obtain ⟨va', vc', rfl⟩ : ∃ va' vc', v' = .slice va' (n + 1) vc' := by
    rcases ownsRow_blk hown with ⟨_, h0, _⟩ | ⟨g, c', _, rfl, _⟩
    · omega
    · exact ⟨_, c', rfl⟩
  obtain ⟨h1, h2⟩ := drop_step (sp := sp) (P := P) hx
  rw [hp] at h1
  have mg : Mod (fun k => (Value.slice va n vc).ownBlock = some k) Y w4 := (Mod.refl _ Y).grown hgrow (fun k e _ => e)
  have lo : ∀ k, (Value.slice va n vc).ownBlock = some k → wx.heap.size ≤ k := fun k hk => (hY.row.lt k hk).1
  refine ⟨va', vc', w4, hrun, ⟨hY.m.transIn mg (fun b hb e => absurd (lo b e) (by omega)), ?_, ?_⟩, fun b ds t ht k => k.mod mg (fun e => ?_)⟩
  · rw [h1]
    simpa using hown
  · have hne : ¬ (Value.slice va n vc).ownBlock = some MB := fun e => by
      obtain ⟨cs, hc⟩ := ownsRow_type hY.row e
      obtain ⟨m, n', hm, _⟩ := hY.nm
      exact imap_blk hm hc
    have := hY.nm.mod mg hne
    rw [h2] at this
    rw [h1]
    simpa using this
  · obtain ⟨cs, hc⟩ := ownsRow_type hY.row e
    exact Blk.apart k hc ht rfl
/-- A cell goes: its name is one less. -/
theorem DrpJ.gone {wx wy w4 : World} {MB P i n : Nat} {lv : Value} {A B c : List CellV} {sp : List (Int × Int)} {x : CellV} (h : DrpJ wx MB P A B c sp i n lv wy) (hx : c[i]? = some x) (hp : hasPl sp (P + i) = true) (m : Mod (one MB) wy w4)
    (hN : Names Tryz.prog 28 w4 MB (((A ++ dropFrom sp P (c.take i) ++ c.drop i ++ B).map CellV.name).erase x.name)) : DrpJ wx MB P A B c sp (i + 1) n lv w4 := by
  obtain ⟨h1, h2⟩ := drop_step (sp := sp) (P := P) hx
  rw [hp] at h1
  simp only [if_true, List.append_nil] at h1
  refine ⟨h.m.trans m, ?_, ?_⟩
  · rw [h1]
    refine ownsRow_mod h.row m (fun k hk e => ?_)
    have e' : k = MB := e
    subst e'
    obtain ⟨cs, hc⟩ := ownsRow_type h.row hk
    obtain ⟨mm, n', hm, _⟩ := h.nm
    exact imap_blk hm hc
  · rw [h1]
    refine hN.perm ?_
    rw [h2]
    simp only [List.map_append, List.map_cons, List.append_assoc, List.cons_append]
    rw [← List.append_assoc, ← List.append_assoc (List.map CellV.name A)]
    exact erase_perm
/-- One block is written, its array being nobody else's. -/
theorem DocV.upd2 {w w' : World} {D MB : Nat} {v : Value} {A B : List BV} {x y : BV} (h : DocV w D v MB (A ++ x :: B)) (m : Mod (fun b => b = x.p ∨ x.v.ownBlock = some b) w w') (hy : BlkV w' y) (hp : y.p = x.p) (hv : ∀ g, y.v.ownBlock = some g → ∀ z, (z ∈ A ∨ z ∈ B) → z.v.ownBlock ≠ some g) :
    DocV w' D v MB (A ++ y :: B) := by
  have hxm : x ∈ A ++ x :: B := by simp
  have hx := h.blk x hxm
  have hap := List.pairwise_append.1 h.apart
  obtain ⟨apA, apX, apAX⟩ := hap
  obtain ⟨apXB, apB⟩ := List.pairwise_cons.1 apX
  have other : ∀ z, (z ∈ A ∨ z ∈ B) → BlkV w' z ∧ apartB z x ∧ apartB x z := by
    intro z hz
    have hzm : z ∈ A ++ x :: B := by rcases hz with hz | hz <;> simp [hz]
    have hzx : apartB z x ∧ apartB x z := by
      rcases hz with hz | hz
      · have := apAX z hz x (by simp)
        exact ⟨this, fun e => this.1 e.symm, fun g h1 h2 => this.2 g h2 h1⟩
      · have := apXB z hz
        exact ⟨⟨fun e => this.1 e.symm, fun g h1 h2 => this.2 g h2 h1⟩, this⟩
    refine ⟨(h.blk z hzm).mod m ?_ ?_, hzx⟩
    · rintro (e | e)
      · exact hzx.1.1 e
      · obtain ⟨cs, hc⟩ := hx.apart_arr e
        exact Blk.apart (h.blk z hzm).b hc (by decide) rfl
    · rintro g hg (e | e)
      · obtain ⟨cs, hc⟩ := (h.blk z hzm).apart_arr hg
        exact Blk.apart hx.b hc (by decide) e.symm
      · exact hzx.1.2 g hg e
  refine ⟨h.doc.mod m ?_, ?_, ?_, ?_⟩
  · rintro (e | e)
    · exact Blk.apart h.doc hx.b (by decide) e
    · obtain ⟨cs, hc⟩ := hx.apart_arr e
      exact Blk.apart h.doc hc (by decide) rfl
  · have e1 : (A ++ y :: B).length = (A ++ x :: B).length := by simp
    have e2 : ptrsOf (A ++ y :: B) = ptrsOf (A ++ x :: B) := by simp [ptrsOf, hp]
    rw [e1, e2]
    refine ownsRow_mod h.ptrs m ?_
    rintro k hk (e | e)
    · obtain ⟨cs, hc⟩ := ownsRow_type h.ptrs hk
      exact Blk.apart hx.b hc (by decide) e.symm
    · obtain ⟨cs, hc⟩ := ownsRow_type h.ptrs hk
      obtain ⟨cs', hc'⟩ := hx.apart_arr e
      exact Blk.apart hc hc' (by decide) rfl
  · intro z hz
    rcases List.mem_append.1 hz with hz | hz
    · exact (other z (.inl hz)).1
    · rcases List.mem_cons.1 hz with rfl | hz
      · exact hy
      · exact (other z (.inr hz)).1
  · have far : ∀ z, (z ∈ A ∨ z ∈ B) → apartB z y ∧ apartB y z := by
      intro z hz
      obtain ⟨_, ⟨h1, h2⟩, _⟩ := other z hz
      have hzm : z ∈ A ++ x :: B := by rcases hz with hz | hz <;> simp [hz]
      have key : ∀ g, z.v.ownBlock = some g → y.v.ownBlock ≠ some g := fun g hg e => by
        exact hv g e z hz hg
      exact ⟨⟨by rw [hp]; exact h1, key⟩, ⟨by rw [hp]; exact fun e => h1 e.symm, fun g e1 e2 => key g e2 e1⟩⟩
    refine List.pairwise_append.2 ⟨apA, List.pairwise_cons.2 ⟨fun z hz => (far z (.inr hz)).2, apB⟩, fun z hz u hu => ?_⟩
    rcases List.mem_cons.1 hu with rfl | hu
    · exact (far z (.inl hz)).1
    · exact apAX z hz u (by simp [hu])
/-- A block done: its cells written back, and counted. -/
theorem DrpI.step {wb wx wy wz : World} {D MB k n : Nat} {v lv : Value} {bl bl' : List BV} {sp : List (Int × Int)} {x : BV} (h : DrpI wb D MB v bl sp k bl' wx) (hx : bl[k]? = some x)
    (j : DrpJ wx MB (cellsOf (bl.take k)).length (cellsOf bl') (cellsOf (bl.drop (k + 1))) x.c sp x.c.length n lv wy) (mz : Mod (one x.p) wy wz) (kz : Blk wz x.p [.int .i64 (n : Int), .int .i64 (liveN (dropFrom sp (cellsOf (bl.take k)).length x.c) : Int), lv] 183) :
    DrpI wb D MB v bl sp (k + 1) (bl' ++ [⟨x.p, lv, dropFrom sp (cellsOf (bl.take k)).length x.c⟩]) wz := by
  obtain ⟨hk, e⟩ := List.getElem?_eq_some_iff.1 hx
  have hdk : bl.drop k = x :: bl.drop (k + 1) := by rw [List.drop_eq_getElem_cons hk, e]
  have hdoc := h.doc
  rw [hdk] at hdoc
  have hnm0 := h.nm
  have hnf := foot_names hdoc (by rw [hdk] at hnm0; simpa [cellsOf] using hnm0)
  have hy := hdoc.mod j.m (fun b hb e => by have e' : b = MB := e; subst e'; exact hnf hb)
  have hbx := hy.blk x (by simp)
  have hn := j.n
  have hrow := j.row
  have hnmj := j.nm
  rw [List.take_length] at hrow hn hnmj
  rw [List.drop_length, List.append_nil] at hnmj
  have hlv : ∀ g, lv.ownBlock = some g → wx.heap.size ≤ g := fun g hg => (hrow.lt g hg).1
  have hrz := ownsRow_mod hrow mz (fun b hb e => by
    have e' : b = x.p := e
    subst e'
    obtain ⟨cs, hc⟩ := ownsRow_type hrow hb
    exact Blk.apart hbx.b hc (by decide) rfl)
  have hMBx : MB ≠ x.p := fun e => hnf (.inr (.inr ⟨x, by simp, .inl e⟩))
  have hBV : BlkV wz ⟨x.p, lv, dropFrom sp (cellsOf (bl.take k)).length x.c⟩ := by
    refine ⟨by rw [hn] at kz; exact kz, ?_⟩
    have := ownsRow_base hrz (Nat.zero_le _)
    rw [hn] at this
    exact this
  have hwx : wx.heap.size ≤ wy.heap.size := j.m.size
  have hdz : DocV wz D v MB (bl' ++ ⟨x.p, lv, dropFrom sp (cellsOf (bl.take k)).length x.c⟩ :: bl.drop (k + 1)) :=
    hy.upd2 (mz.mono (fun b _ e => .inl e)) hBV rfl (fun g hg z hz e => by
      have h1 := hlv g hg
      have h2 := ((hdoc.blk z (List.mem_append.2 (hz.imp id (List.mem_cons_of_mem _)))).o.lt g e).2
      omega)
  have hs2 := cellsOf_succ hx
  refine ⟨by simpa using hdz, by simp [h.len], ?_, ?_, (h.m.trans (j.m.mono (fun b _ e => .inr e))).transIn mz (fun b hb e => ?_), ?_⟩
  · rw [hs2, dropFrom_append, ← h.cs, Nat.zero_add]
    simp [cellsOf]
  · have := hnmj.mod mz hMBx
    simpa [cellsOf] using this
  · have e' : b = x.p := e
    subst e'
    rcases h.ft x.p (.inr (.inr ⟨x, by rw [hdk]; simp, .inl rfl⟩)) with h1 | h1
    · exact .inl h1
    · omega
  · intro b hb
    have hold : ∀ z, z ∈ bl' ++ bl.drop k → (b = z.p ∨ z.v.ownBlock = some b) → foot D v bl b ∨ wb.heap.size ≤ b := fun z hz hzb => h.ft b (.inr (.inr ⟨z, hz, hzb⟩))
    rcases hb with hb | hb | ⟨z, hz, hzb⟩
    · exact h.ft b (.inl hb)
    · exact h.ft b (.inr (.inl hb))
    · rw [List.append_assoc, List.mem_append] at hz
      rcases hz with hz | hz
      · exact hold z (List.mem_append_left _ hz) hzb
      · rcases List.mem_cons.1 hz with rfl | hz
        · rcases hzb with hzb | hzb
          · exact hold x (by rw [hdk]; simp) (.inl hzb)
          · right
            have h1 := hlv b hzb
            have h2 := h.m.size
            omega
        · have hz' : z ∈ bl.drop (k + 1) := by simpa using hz
          exact hold z (by rw [hdk]; simp [hz']) hzb
/-- What a document's blocks are. -/
theorem foot_blk {w : World} {D MB k : Nat} {v : Value} {bl : List BV} (h : DocV w D v MB bl) (hk : foot D v bl k) : ∃ cs t, Blk w k cs t ∧ (t = 127 ∨ t = 131 ∨ t = 183 ∨ t = 47) := by
  rcases hk with rfl | hk | ⟨x, hx, rfl | hk⟩
  · exact ⟨_, _, h.doc, .inl rfl⟩
  · obtain ⟨cs, hc⟩ := ownsRow_type h.ptrs hk
    exact ⟨_, _, hc, .inr (.inl rfl)⟩
  · exact ⟨_, _, (h.blk x hx).b, .inr (.inr (.inl rfl))⟩
  · obtain ⟨cs, hc⟩ := ownsRow_type (h.blk x hx).o hk
    exact ⟨_, _, hc, .inr (.inr (.inr rfl))⟩

set_option maxHeartbeats 1000000 in
set_option maxRecDepth 1000000 in
theorem delFn_zero (w : World) (a : Option Addr) (cap : Nat) : Calls Tryz.prog 131 #[.slice a 0 cap, .func (.func 132) #[] #[]] w fun e w' => e = .returned (.slice a 0 cap) ∧ w' = w := by
  have HI : RowKit.Hid (Calls Tryz.prog 159 #[.slice a 0 cap, .func (.func 132) #[] #[]] w fun e w' => e = .returned (.int .i64 (-1)) ∧ w' = w) := by
    refine Lib.hid ?_
    go_enter Tryz.func159, Tryz.ntmps159
    go_wp2_with fail
    go_loopg [8] 0 (fun q s8 wx => q = 0 ∧ s8 = .int .i64 0 ∧ wx = w)
    case atStart => exact ⟨rfl, rfl, rfl⟩
    case round =>
      obtain ⟨rfl, rfl, rfl⟩ := hrel
      go_wp2_with fail
      go_ret
      exact ⟨rfl, rfl⟩
  go_enter Tryz.func131, Tryz.ntmps131
  go_wp2_with fail
  refine HI.out.mono ?_
  rintro e w1 ⟨rfl, rfl⟩
  go_wp2_with fail
  go_ret
  exact ⟨rfl, rfl⟩
/-- DeleteFunc of a document's blocks. -/
theorem delDoc_any (w : World) (D MB : Nat) (v : Value) (bl : List BV) (h : DocV w D v MB bl) :
    Calls Tryz.prog 131 #[v, .func (.func 132) #[] #[]] w fun e w1 => ∃ a2 n2 c2, e = .returned (.slice a2 n2 c2) ∧ DocV (w1.setCell ⟨D, 0, none⟩ (.slice a2 n2 c2)) D (.slice a2 n2 c2) MB (fullBl bl) ∧ Mod (fun b => v.ownBlock = some b) w w1 ∧ ∀ b, (Value.slice a2 n2 c2).ownBlock = some b → v.ownBlock = some b := by
  have zero : ∀ (a : Option Addr) (cap : Nat), bl = [] → v = .slice a 0 cap → DocV (w.setCell ⟨D, 0, none⟩ (.slice a 0 cap)) D (.slice a 0 cap) MB (fullBl bl) := by
    intro a cap hb hv
    subst hb hv
    have mS : Mod (one D) w (w.setCell ⟨D, 0, none⟩ (.slice a 0 cap)) := (Mod.refl (one D) w).setCell ⟨D, 0, none⟩ (fun _ => rfl) _
    refine ⟨h.doc.set 0 _, ownsRow_mod h.ptrs mS (fun b hb e => ?_), (fun x hx => by cases hx), List.Pairwise.nil⟩
    have e' : b = D := e
    subst e'
    obtain ⟨cs', hc⟩ := ownsRow_type h.ptrs hb
    exact Blk.apart h.doc hc (by decide) rfl
  rcases ownsRow_blk h.ptrs with ⟨hv, h0, _⟩ | ⟨g, cap, more, hv, _, hb, hnc, hcm, hl⟩
  · have hbl : bl = [] := List.eq_nil_of_length_eq_zero h0
    have hz := zero none 0 hbl hv
    rw [hv]
    refine (delFn_zero w none 0).mono ?_
    rintro e w1 ⟨rfl, rfl⟩
    exact ⟨none, 0, 0, rfl, hz, Mod.refl _ _, fun b hb => hb⟩
  · have hpl : (ptrsOf bl).length = bl.length := by simp
    rw [← bsOf_ptrs] at hb
    have hne : ∀ x ∈ bsOf bl, x.1 ≠ g := by
      intro x hx
      obtain ⟨y, hy, rfl⟩ := List.mem_map.1 hx
      exact Blk.apart (h.blk y hy).b hb (by decide)
    have hsz : ∀ x ∈ bsOf bl, w.cell? ⟨x.1, 0, none⟩ = some (.int .i64 (x.2 : Int)) := by
      intro x hx
      obtain ⟨y, hy, rfl⟩ := List.mem_map.1 hx
      exact (h.blk y hy).b.cell 0
    have hC := delFn_any w g bl.length cap (bsOf bl) more hb (by simp) hnc hcm (by rw [hpl] at hl; omega) hsz hne
    rw [hv]
    refine hC.mono ?_
    rintro e w1 ⟨cap2, rfl, ho, m1⟩
    rw [filB_bs, bsOf_ptrs] at ho
    have hfl : (filB (bsOf bl)).length = (fullBl bl).length := by rw [filB_bs]; simp
    have hfl2 : (bsOf (fullBl bl)).length = (fullBl bl).length := by simp
    rw [hfl2] at ho
    refine ⟨some ⟨g, 0, none⟩, (fullBl bl).length, cap2, by rw [hfl], ?_, m1.mono (fun b _ e => by have e' : b = g := e; subst e'; rfl), fun b hb => hb⟩
    exact DocV.full h (by rw [hv]; rfl) m1 ho rfl rfl
/-- Drop's end: the blocks that are left are the document's. -/
theorem drop_end {w wo wf wF : World} {S T : Nat → Prop} {D MB : Nat} {v v2 : Value} {bl' bl2 : List BV} (hmo : Mod S w wo) (hS : ∀ b, foot D v bl' b → S b ∨ w.heap.size ≤ b) (hMB : S MB) (hnm : Names Tryz.prog 28 wo MB ((cellsOf bl').map CellV.name)) (hnmf : ¬ foot D v bl' MB)
    (hd2 : DocV wf D v2 MB bl2) (hf2 : ∀ b, foot D v2 bl2 b → foot D v bl' b) (hc2 : cellsOf bl2 = cellsOf bl') (hne2 : ∀ y ∈ bl2, y.c ≠ []) (m2 : Mod (fun b => foot D v bl' b) wo wf)
    (mF : Mod T wf wF) (hT : ∀ b, T b → w.heap.size ≤ b ∧ ¬ foot D v bl' b ∧ b ≠ MB) : Mod S w wF ∧ DocS wF (grew S w wF) D (cellsOf bl') := by
  have M : Mod S w wF := (hmo.transIn m2 (fun b hb hf => by
    rcases hS b hf with h | h
    · exact h
    · omega)).transIn mF (fun b hb ht => absurd (hT b ht).1 (by omega))
  have hdF := hd2.mod mF (fun b hb ht => (hT b ht).2.1 (hf2 b hb))
  refine ⟨M, v2, MB, bl2, hdF, ?_, hc2, fun b hb => ?_, .inl hMB, hne2⟩
  · exact (hnm.mod m2 hnmf).mod mF (fun ht => (hT MB ht).2.2 rfl)
  · rcases hS b (hf2 b hb) with h | h
    · exact .inl h
    · exact .inr ⟨h, hdF.flt hb⟩
theorem fullBl_foot {D : Nat} {v v2 : Value} {bl : List BV} (hv : ∀ b, v2.ownBlock = some b → v.ownBlock = some b) (b : Nat) (h : foot D v2 (fullBl bl) b) : foot D v bl b := by
  rcases h with h | h | ⟨x, hx, h⟩
  · exact .inl h
  · exact .inr (.inl (hv b h))
  · exact .inr (.inr ⟨x, (List.mem_filter.1 hx).1, h⟩)
end Go.Proofs.YthicagfeaekmoaaGreatDoor

namespace Go.Proofs.YthicagfeaekmoaaGreatDoor
open Go.RowKit Go.Mine

/-- An operation that came in: whatever long its text is. -/
structure OpV.ok0 (o : OpV) (w : World) (l : List (Int × Int)) : Prop where
  sz : o.text.size ≤ maxLen
  sp : IsSpans w o.sa o.slen o.scap l
  ok : o.text.size < 4611686018427387904 → o.ok w l
theorem OpV.ok0.grown {o : OpV} {w w' : World} {l : List (Int × Int)} (h : o.ok0 w l) (m : Mod none_ w w') : o.ok0 w' l := ⟨h.sz, h.sp.grown m, fun hs => (h.ok hs).grown m⟩
/-- An act of a document. -/
structure ActV where
  k : Int
  o : OpV
  sp : List (Int × Int)
/-- Acts in memory. -/
structure IsActs (w : World) (a : Option Addr) (len cap : Nat) (l : List ActV) : Prop where
  n : l.length = len
  le : len ≤ cap
  big : cap ≤ maxLen
  ok : ∀ x ∈ l, x.o.ok0 w x.sp ∧ 0 ≤ x.k ∧ x.k ≤ 255
  acts : ∀ (i : Nat) (x : ActV), l[i]? = some x → ∃ b off, a = some ⟨b, off, none⟩ ∧ w.cell? ⟨b, off + i * 8, none⟩ = some (.int .u8 x.k) ∧ w.rangeAt b (off + i * 8 + 1) x.o.cs
theorem IsActs.grown {w w' : World} {a : Option Addr} {len cap : Nat} {l : List ActV} (h : IsActs w a len cap l) (m : Mod none_ w w') : IsActs w' a len cap l :=
  ⟨h.n, h.le, h.big, fun x hx => ⟨(h.ok x hx).1.grown m, (h.ok x hx).2⟩, fun i c hc => by
    obtain ⟨b, off, e, hk, hr⟩ := h.acts i c hc
    exact ⟨b, off, e, m.cell (fun e => e) hk, fun j v hv => m.cell (fun e => e) (hr j v hv)⟩⟩

def bigOp (o : OpV) : Bool := decide (40 < (o.slen : Int)) || decide (1000 < (o.text.size : Int))
set_option maxHeartbeats 1000000 in
set_option maxRecDepth 1000000 in
theorem great_op (o : OpV) (w : World) (l : List (Int × Int)) (h : o.ok0 w l) :
    Calls Tryz.prog 11 #[o.v] w fun e w' => e = .returned (.bool (bigOp o)) ∧ Mod none_ w w' := by
  have hsz := h.sz
  have hle := h.sp.le
  have hbig := h.sp.big
  unfold maxLen at hbig hsz
  obtain ⟨W0, hW0⟩ : ∃ W0, w.alloc (.cells o.cs.toArray 31) = W0 := ⟨_, rfl⟩
  obtain ⟨m0, kB⟩ := opBox1 hW0
  have M0 := Lib.hid m0
  have c5 : W0.cell? ⟨w.heap.size, 5, none⟩ = some (.string o.text) := by rw [kB.cell]; rfl
  have c6 : W0.cell? ⟨w.heap.size, 6, none⟩ = some (.slice o.sa o.slen o.scap) := by rw [kB.cell]; rfl
  unfold bigOp
  clear h m0 kB
  by_cases h1 : 40 < (o.slen : Int)
  · have hd : decide (40 < (o.slen : Int)) = true := by simpa using h1
    go_enter Tryz.func11, Tryz.ntmps11
    go_upto_region 1 with fail
    clear hW0
    go_wp2_with fail
    go_ret
    exact ⟨by rw [hd]; rfl, M0.out⟩
  · have hd : decide (40 < (o.slen : Int)) = false := by simp; omega
    go_enter Tryz.func11, Tryz.ntmps11
    go_upto_region 1 with fail
    clear hW0
    go_wp2_with fail
    go_ret
    exact ⟨rfl, M0.out⟩

def greatB (n : Nat) (l : List ActV) : Bool := decide (250 < (n : Int)) || decide (25 < (l.length : Int)) || l.any fun x => bigOp x.o
set_option maxHeartbeats 4000000 in
set_option maxRecDepth 1000000 in
theorem great_acts (w : World) (a : Option Addr) (len cap : Nat) (hle : len ≤ cap) (hcap : cap ≤ maxLen) (b : Option Addr) (alen acap : Nat) (l : List ActV) (h : IsActs w b alen acap l) :
    Calls Tryz.prog 36 #[.slice a len cap, .slice b alen acap] w fun e w' => e = .returned (.bool (greatB len l)) ∧ Mod none_ w w' := by
  obtain ⟨R, hR⟩ : ∃ R, R = greatB len l := ⟨_, rfl⟩
  rw [← hR]
  have HR := Lib.hid hR
  have hale := h.le
  have hacap := h.big
  have hn := h.n
  unfold maxLen at hcap hacap
  have H := Lib.hid h
  have HN := Lib.hid hn
  clear h hR hn
  by_cases h1 : 250 < (len : Int)
  · have hd : decide (250 < (len : Int)) = true := by simpa using h1
    go_enter Tryz.func36, Tryz.ntmps36
    go_wp2_with fail
    go_ret
    exact ⟨by rw [HR.out]; unfold greatB; rw [hd]; rfl, Mod.refl _ _⟩
  have hd : decide (250 < (len : Int)) = false := by simp; omega
  by_cases h2 : 25 < (alen : Int)
  · have hd2 : decide (25 < (alen : Int)) = true := by simpa using h2
    go_enter Tryz.func36, Tryz.ntmps36
    go_wp2_with fail
    go_ret
    exact ⟨by rw [HR.out]; unfold greatB; rw [HN.out, hd2]; simp, Mod.refl _ _⟩
  have hd2 : decide (25 < (alen : Int)) = false := by simp; omega
  go_enter Tryz.func36, Tryz.ntmps36
  go_wp2_with fail
  go_loopg [5] alen (fun g s5 wx => ∃ k : Nat, g = alen - k ∧ s5 = .int .i64 k ∧ k ≤ alen ∧ Mod none_ w wx ∧ RowKit.Hid (((l.take k).any fun x => bigOp x.o) = false))
  case atStart => exact ⟨0, rfl, rfl, Nat.zero_le _, Mod.refl _ _, Lib.hid rfl⟩
  case round =>
    obtain ⟨k, rfl, rfl, hk, mx, hst⟩ := hrel
    by_cases hlk : k < alen
    · obtain ⟨x, hx⟩ : ∃ x, l[k]? = some x := ⟨l[k]'(by rw [HN.out]; exact hlk), by simp⟩
      obtain ⟨g, off, rfl, _, hr⟩ := (H.out.grown mx).acts k x hx
      have c0 := hr 0 _ rfl
      have c1 := hr 1 _ rfl
      have c2 := hr 2 _ rfl
      have c3 := hr 3 _ rfl
      have c4 := hr 4 _ rfl
      have c5 := hr 5 _ rfl
      have c6 := hr 6 _ rfl
      rw [Nat.add_zero] at c0
      have HG := Lib.hid (great_op x.o wr x.sp (((H.out.grown mx).ok x (List.mem_of_getElem? hx)).1))
      have MX := Lib.hid mx
      have HS := Lib.hid (fun (hb : bigOp x.o = false) => (show ((l.take (k + 1)).any fun x => bigOp x.o) = false by
        obtain ⟨hi, e⟩ := List.getElem?_eq_some_iff.1 hx
        rw [List.take_succ_eq_append_getElem hi, List.any_append, hst.out, e]
        simp [hb]))
      have HT := Lib.hid (fun (hb : bigOp x.o = true) => (show R = true by
        rw [HR.out]; unfold greatB
        have : (l.any fun x => bigOp x.o) = true := List.any_eq_true.2 ⟨x, List.mem_of_getElem? hx, hb⟩
        rw [this, Bool.or_true]))
      clear hr hx hst mx
      cases hb : bigOp x.o
      · rw [hb] at HG
        go_wp2_with fail
        refine HG.out.mono ?_
        rintro e w1 ⟨rfl, m1⟩
        have M1 := Lib.hid (MX.out.trans m1)
        clear m1
        go_wp2_with fail
        go_roundg (alen - (k + 1))
        all_goals first
          | omega
          | exact ⟨k + 1, rfl, by go_num, by omega, M1.out, Lib.hid (HS.out hb)⟩
      · rw [hb] at HG
        go_wp2_with fail
        refine HG.out.mono ?_
        rintro e w1 ⟨rfl, m1⟩
        have M1 := Lib.hid (MX.out.trans m1)
        clear m1
        go_wp2_with fail
        go_ret
        exact ⟨by rw [HT.out hb]; rfl, M1.out⟩
    · obtain rfl : k = alen := by omega
      have MX := Lib.hid mx
      have hF : R = false := by
        rw [HR.out]; unfold greatB
        have := hst.out
        rw [List.take_of_length_le (by rw [HN.out]; omega)] at this
        rw [hd, HN.out, hd2, this]; rfl
      have HF := Lib.hid hF
      clear hst mx hF
      go_wp2_with fail
      go_ret
      exact ⟨by rw [HF.out]; rfl, MX.out⟩

/-- How many of the first p cells are live. -/
def seenN (l : List CellV) (p : Nat) : Nat := liveN (l.take p)
theorem seenN_succ {l : List CellV} {k : Nat} {c : CellV} (h : l[k]? = some c) : seenN l (k + 1) = seenN l k + if c.gone then 0 else 1 := by
  obtain ⟨hi, e⟩ := List.getElem?_eq_some_iff.1 h
  unfold seenN
  rw [List.take_succ_eq_append_getElem hi, e, liveN_snoc]
theorem seenN_all (l : List CellV) : seenN l l.length = liveN l := by unfold seenN; rw [List.take_length]
set_option maxHeartbeats 1000000 in
set_option maxRecDepth 1000000 in
theorem rseen_any (w : World) (a : Option Addr) (len cap : Nat) (l : List CellV) (h : IsCells w a len cap l) (p : Nat) (hp : p ≤ len) :
    Calls Tryz.prog 91 #[.slice a len cap, .int .i64 p] w fun e w' => e = .returned (.int .i64 (seenN l p : Int)) ∧ Mod none_ w w' := by
  have hle := h.le
  have hcap := h.big
  have hn := h.n
  unfold maxLen at hcap
  have H := Lib.hid h
  have HN := Lib.hid hn
  clear h hn
  go_enter Tryz.func91, Tryz.ntmps91
  go_wp2_with fail
  go_loopg [5, 6] p (fun g s5 s6 wx => ∃ k n : Nat, g = p - k ∧ s5 = .int .i64 n ∧ s6 = .int .i64 k ∧ k ≤ p ∧ n ≤ k ∧ wx = w ∧ RowKit.Hid (n = seenN l k))
  case atStart => exact ⟨0, 0, rfl, rfl, rfl, Nat.zero_le _, Nat.zero_le _, rfl, Lib.hid rfl⟩
  case round =>
    obtain ⟨k, n, rfl, rfl, rfl, hk, hnk, rfl, hst⟩ := hrel
    by_cases hlk : k < p
    · obtain ⟨c, hx⟩ : ∃ x, l[k]? = some x := ⟨l[k]'(by rw [HN.out]; omega), by simp⟩
      obtain ⟨g, off, rfl, hr⟩ := H.out.cells k c hx
      have c4 := hr 4 _ rfl
      have HS := Lib.hid (seenN_succ hx)
      have hkl : k < len := by omega
      clear hr hx
      cases hg : c.gone
      · rw [hg] at c4 HS
        go_wp2_with fail
        go_roundg (p - (k + 1))
        all_goals first
          | omega
          | exact ⟨k + 1, n + 1, rfl, by go_num, by go_num, by omega, by omega, rfl, Lib.hid (by rw [HS.out, hst.out]; rfl)⟩
      · rw [hg] at c4 HS
        go_wp2_with fail
        go_roundg (p - (k + 1))
        all_goals first
          | omega
          | exact ⟨k + 1, n, rfl, rfl, by go_num, by omega, by omega, rfl, Lib.hid (by rw [HS.out, hst.out]; rfl)⟩
    · obtain rfl : k = p := by omega
      have HF := Lib.hid hst.out
      clear hst
      go_wp2_with fail
      go_ret
      exact ⟨by rw [← HF.out]; rfl, Mod.refl _ _⟩
theorem rlive_any (w : World) (a : Option Addr) (len cap : Nat) (l : List CellV) (h : IsCells w a len cap l) :
    Calls Tryz.prog 45 #[.slice a len cap] w fun e w' => e = .returned (.int .i64 (liveN l : Int)) ∧ Mod none_ w w' := by
  have HS := Lib.hid (rseen_any w a len cap l h len (Nat.le_refl _))
  rw [← h.n, seenN_all, h.n] at HS
  have hle := h.le
  have hcap := h.big
  unfold maxLen at hcap
  clear h
  go_enter Tryz.func45, Tryz.ntmps45
  go_wp2_with fail
  refine HS.out.mono ?_
  rintro e w1 ⟨rfl, m1⟩
  go_wp2_with fail
  go_ret
  exact ⟨rfl, m1⟩
end Go.Proofs.YthicagfeaekmoaaGreatDoor

namespace Go.Proofs.YthicagfeaekmoaaGreatDoor
open Go.RowKit Go.Mine

def seenV (l : List CellV) (p : Int) : Value := if p < 0 ∨ (l.length : Int) < p then .tuple #[.int .i64 0, .int .i64 3] else .tuple #[.int .i64 (seenN l p.toNat : Int), .int .i64 0]
theorem seenN_le (l : List CellV) (p : Nat) : seenN l p ≤ p ∧ seenN l p ≤ l.length := by
  unfold seenN
  have := liveN_le (l.take p)
  rw [List.length_take] at this
  omega
theorem seenN_ge (c r : List CellV) (p : Nat) (h : c.length ≤ p) : seenN (c ++ r) p = liveN c + seenN r (p - c.length) := by
  unfold seenN
  rw [List.take_append, List.take_of_length_le h, liveN_append]
theorem seenN_lt (c r : List CellV) (p : Nat) (h : p ≤ c.length) : seenN (c ++ r) p = seenN c p := by
  unfold seenN
  rw [List.take_append_of_le_length h]

end Go.Proofs.YthicagfeaekmoaaGreatDoor

namespace Go.Proofs.YthicagfeaekmoaaGreatDoor
open Go.RowKit Go.Mine


end Go.Proofs.YthicagfeaekmoaaGreatDoor

namespace Go.Proofs.YthicagfeaekmoaaGreatDoor
open Go.RowKit Go.Mine

/-- Where a place is behind n cells inserted. -/
def pointOf (p at_ n : Int) (stays : Bool) : Int := if at_ < p ∨ (p = at_ ∧ stays = false) then p + n else p

theorem point_any (at_ n p : Int) (stays : Bool) (w : World) (hb : -9223372036854775808 ≤ p + n ∧ p + n ≤ 9223372036854775807) :
    Calls Tryz.prog 168 #[.agg #[.int .i64 at_, .int .i64 n], .int .i64 p, .bool stays] w fun e w' => e = .returned (.int .i64 (pointOf p at_ n stays)) ∧ Mod none_ w w' := by
  have M0 := Lib.hid ((Mod.refl none_ w).alloc (.cells #[.int .i64 at_, .int .i64 n] 218))
  by_cases h1 : at_ < p
  · have hR : pointOf p at_ n stays = p + n := by unfold pointOf; rw [if_pos (.inl h1)]
    rw [hR]
    go_enter Tryz.func168, Tryz.ntmps168
    go_wp2
    go_ret
    exact ⟨rfl, M0.out⟩
  · by_cases h2 : p = at_
    · cases stays
      · have hR : pointOf p at_ n false = p + n := by unfold pointOf; rw [if_pos (.inr ⟨h2, rfl⟩)]
        rw [hR]
        subst h2
        go_enter Tryz.func168, Tryz.ntmps168
        go_wp2
        go_ret
        exact ⟨rfl, M0.out⟩
      · have hR : pointOf p at_ n true = p := by unfold pointOf; rw [if_neg]; rintro (h | ⟨_, h⟩); exact h1 h; cases h
        rw [hR]
        subst h2
        go_enter Tryz.func168, Tryz.ntmps168
        go_wp2
        go_ret
        exact ⟨rfl, M0.out⟩
    · have hR : pointOf p at_ n stays = p := by unfold pointOf; rw [if_neg]; rintro (h | ⟨h, _⟩); exact h1 h; exact h2 h
      rw [hR]
      have hb2 : (p == at_) = false := by simpa using h2
      go_enter Tryz.func168, Tryz.ntmps168
      go_wp2
      go_ret
      exact ⟨rfl, M0.out⟩

end Go.Proofs.YthicagfeaekmoaaGreatDoor

namespace Go.Proofs.YthicagfeaekmoaaGreatDoor
open Go.RowKit Go.Mine

end Go.Proofs.YthicagfeaekmoaaGreatDoor

namespace Go.Proofs.YthicagfeaekmoaaGreatDoor
open Go.RowKit Go.Mine

/-- What is answered when cells are dropped. -/
def dropV (s a t : Int) (l : List (Int × Int)) : Value := if markOk s a t 20000 && spansOk l then .tuple #[.agg #[.int .i64 s, .int .i64 (a - aheadOf l a), .int .i64 (t - aheadOf l t)], .int .i64 0] else .tuple #[.agg #[.int .i64 0, .int .i64 0, .int .i64 0], .int .i64 1]

/-- The two places behind k of them. -/
def twoAt (k : Nat) (a t x y : Int) : List Value := match k with
  | 0 => [.int .i64 a, .int .i64 t]
  | 1 => [.int .i64 x, .int .i64 t]
  | _ => [.int .i64 x, .int .i64 y]

end Go.Proofs.YthicagfeaekmoaaGreatDoor

namespace Go.Proofs.YthicagfeaekmoaaGreatDoor
open Go.RowKit Go.Mine

def seenBad (l : List CellV) (i : Int) : Bool := decide (i < 0) || decide ((l.length : Int) < i)
def seenM (l : List CellV) (i : Int) : Int := if seenBad l i then 0 else seenN l i.toNat
theorem seenV_bad {l : List CellV} {i : Int} (h : seenBad l i = true) : seenV l i = .tuple #[.int .i64 0, .int .i64 3] := by
  unfold seenV seenBad at *; rw [if_pos (by simpa using h)]
theorem seenV_ok {l : List CellV} {i : Int} (h : seenBad l i = false) : seenV l i = .tuple #[.int .i64 (seenM l i), .int .i64 0] := by
  have h1 : ¬ (i < 0 ∨ (l.length : Int) < i) := by unfold seenBad at h; simp at h; omega
  unfold seenV seenM
  rw [if_neg h1, h]
  simp

/-- What asks answers, asked of Seen. -/
def asksS (l : List CellV) (i j : Int) : Value := if seenBad l i || seenBad l j then .tuple #[.agg #[.int .i64 0, .int .i64 0], .int .i64 3] else .tuple #[.agg #[.int .i64 (seenM l i), .int .i64 (seenM l j)], .int .i64 0]

/-- What Shown answers. -/
def shownV (l : List CellV) (s a t : Int) : Value := if markOk s a t l.length then .tuple #[.int .i64 (seenM l a), .int .i64 (seenM l t), .int .i64 0] else .tuple #[.int .i64 0, .int .i64 0, .int .i64 1]

end Go.Proofs.YthicagfeaekmoaaGreatDoor

namespace Go.Proofs.YthicagfeaekmoaaGreatDoor
open Go.RowKit Go.Mine

/-- Where a place is behind an operation. -/
def movP (o : OpV) (p : Int) (stays : Bool) : Int := if o.kind = 1 then pointOf p o.at_ (addsOf o) stays else p

end Go.Proofs.YthicagfeaekmoaaGreatDoor

namespace Go.Proofs.YthicagfeaekmoaaGreatDoor
open Go.RowKit Go.Mine

def gapBad (l : List CellV) (i : Int) : Bool := decide (i < 0) || decide ((liveN l : Int) < i)
def gapN (l : List CellV) (i : Int) : Int := if gapBad l i then 0 else if i = liveN l then l.length else gapPos l i.toNat
theorem gapV_bad {l : List CellV} {i : Int} (h : gapBad l i = true) : gapV l i = .tuple #[.int .i64 0, .int .i64 3] := by
  unfold gapV gapBad at *; rw [if_pos (by simpa using h)]
theorem gapV_ok {l : List CellV} {i : Int} (h : gapBad l i = false) : gapV l i = .tuple #[.int .i64 (gapN l i), .int .i64 0] := by
  have h1 : ¬ (i < 0 ∨ (liveN l : Int) < i) := by unfold gapBad at h; simp at h; omega
  unfold gapV gapN
  rw [if_neg h1, h]
  simp only [Bool.false_eq_true, if_false]
  split <;> rfl

/-- What asks answers, asked of Gap. -/
def asksV (l : List CellV) (i j : Int) : Value := if gapBad l i || gapBad l j then .tuple #[.agg #[.int .i64 0, .int .i64 0], .int .i64 3] else .tuple #[.agg #[.int .i64 (gapN l i), .int .i64 (gapN l j)], .int .i64 0]

end Go.Proofs.YthicagfeaekmoaaGreatDoor

namespace Go.Proofs.YthicagfeaekmoaaGreatDoor
open Go.RowKit Go.Mine

/-- What Put answers. -/
def putV (l : List CellV) (s i j : Int) : Value := if inB s 1 16 then (if gapBad l i || gapBad l j then .tuple #[.agg #[.int .i64 0, .int .i64 0, .int .i64 0], .int .i64 3] else .tuple #[.agg #[.int .i64 s, .int .i64 (gapN l i), .int .i64 (gapN l j)], .int .i64 0]) else .tuple #[.agg #[.int .i64 0, .int .i64 0, .int .i64 0], .int .i64 1]

end Go.Proofs.YthicagfeaekmoaaGreatDoor

namespace Go.Proofs.YthicagfeaekmoaaGreatDoor
open Go.RowKit Go.Shelf Go.Mine Go.Maps
open Classical

/-- Cells that a document may have. -/
structure Cl (l : List CellV) : Prop where
  ids : (l.map CellV.id).Nodup
  ok : ∀ c ∈ l, c.ok
  big : l.length ≤ 20000

theorem ins_runes {o : OpV} {n : Int} (h : insOk o n = true) : ∃ rs, runesOf o.text = some rs ∧ runesD o.text = rs ∧ ulen o.text = rs.length ∧ 1 ≤ rs.length ∧ rs.length ≤ 200 ∧ (rs.length : Int) ≤ 20000 - n ∧ 0 ≤ o.at_ ∧ o.at_ ≤ n ∧ ∀ r ∈ rs, r ≤ 1114111 := by
  simp only [insOk, Bool.and_eq_true, decide_eq_true_eq, inB, textOk] at h
  obtain ⟨⟨⟨h1, h2, h3⟩, h4⟩, h5⟩ := h
  cases hr : runesOf o.text with
  | none => rw [ulen_none hr] at h3; omega
  | some rs =>
    have hu := ulen_some hr
    exact ⟨rs, rfl, by unfold runesD; rw [hr]; rfl, hu, by omega, by omega, by omega, h1.1, h1.2, runes_le _ o.text (Nat.le_refl _) rs hr⟩

theorem markS_ids (sp : List (Int × Int)) (l : List CellV) : (markS sp 0 l).map CellV.id = l.map CellV.id := by
  unfold markS
  apply List.ext_getElem?
  intro i
  rw [List.getElem?_map, List.getElem?_map, markP_get]
  cases l[i]? with
  | none => rfl
  | some c => simp only [Option.map_some]; split <;> rfl

theorem fresh_ids (o : OpV) (rs : List Nat) : ((freshC o rs).map CellV.id).Nodup := by
  unfold List.Nodup
  rw [List.pairwise_iff_getElem]
  intro i j hi hj hij e
  simp [freshC, CellV.id] at e
  omega
theorem fresh_name {o : OpV} {rs : List Nat} {c : CellV} (h : c ∈ freshC o rs) : c.site = o.site ∧ c.seq = o.seq := by
  unfold freshC at h
  rw [List.mem_mapIdx] at h
  obtain ⟨i, hi, rfl⟩ := h
  exact ⟨rfl, rfl⟩

/-- An operation that may be and is carried out: what it is. -/
theorem doE_zero {o : OpV} {sp : List (Int × Int)} {l : List CellV} (h : doE o sp l = 0) : opMay o sp l.length = true ∧ ((¬ o.kind = 1 ∧ doL o sp l = markS sp 0 l) ∨ (o.kind = 1 ∧ insOk o l.length = true ∧ o.name ∉ l.map CellV.name ∧ doL o sp l = l.take o.at_.toNat ++ freshC o (runesD o.text) ++ l.drop o.at_.toNat)) := by
  unfold doE at h
  by_cases hm : opMay o sp l.length = true
  · rw [if_pos hm] at h
    refine ⟨hm, ?_⟩
    unfold doL
    rw [if_pos hm]
    have hm' := hm
    unfold opMay at hm'
    simp only [Bool.and_eq_true] at hm'
    by_cases hk : o.kind = 2
    · rw [if_pos hk]
      exact .inl ⟨by omega, rfl⟩
    · rw [if_neg hk] at h ⊢
      by_cases hn : o.name ∈ l.map CellV.name
      · rw [if_pos hn] at h; omega
      · rw [if_neg hn]
        have h3 := hm'.2
        by_cases hk1 : o.kind = 1
        · rw [if_pos hk1] at h3
          exact .inr ⟨hk1, h3, hn, rfl⟩
        · rw [if_neg hk1, if_neg hk] at h3; cases h3
  · rw [if_neg hm] at h; omega

/-- An operation that is refused leaves the cells. -/
theorem doL_same {o : OpV} {sp : List (Int × Int)} {l : List CellV} (h : ¬ doE o sp l = 0) : doL o sp l = l := by
  unfold doE at h
  unfold doL
  by_cases hm : opMay o sp l.length = true
  · rw [if_pos hm] at h ⊢
    by_cases hk : o.kind = 2
    · rw [if_pos hk] at h; exact absurd rfl h
    · rw [if_neg hk] at h ⊢
      by_cases hn : o.name ∈ l.map CellV.name
      · rw [if_pos hn]
      · rw [if_neg hn] at h; exact absurd rfl h
  · rw [if_neg hm]

theorem Cl.doL {o : OpV} {sp : List (Int × Int)} {l : List CellV} (h : Cl l) (hs : -9223372036854775808 ≤ o.site ∧ o.site ≤ 9223372036854775807) (hq : -9223372036854775808 ≤ o.seq ∧ o.seq ≤ 9223372036854775807) : Cl (doL o sp l) := by
  by_cases he : doE o sp l = 0
  · rcases (doE_zero he).2 with ⟨_, e⟩ | ⟨_, hi, hn, e⟩
    · rw [e]
      exact ⟨by rw [markS_ids]; exact h.ids, fun c hc => markP_ok h.ok c hc, by rw [markS_len]; exact h.big⟩
    · rw [e]
      obtain ⟨rs, hr, hd, hu, h1, h2, h3, h4, h5, h6⟩ := ins_runes hi
      rw [hd]
      refine ⟨?_, ?_, ?_⟩
      · have hp : ((l.take o.at_.toNat ++ freshC o rs ++ l.drop o.at_.toNat).map CellV.id).Perm ((l ++ freshC o rs).map CellV.id) := by
          refine List.Perm.map _ ?_
          conv => rhs; rw [← List.take_append_drop o.at_.toNat l]
          rw [List.append_assoc, List.append_assoc]
          exact (List.perm_append_comm).append_left _
        rw [hp.nodup_iff, List.map_append, List.nodup_append]
        refine ⟨h.ids, fresh_ids o rs, ?_⟩
        intro a ha b hb hab
        subst hab
        obtain ⟨c, hc, rfl⟩ := List.mem_map.1 ha
        obtain ⟨d, hd', e2⟩ := List.mem_map.1 hb
        obtain ⟨e3, e4⟩ := fresh_name hd'
        simp [CellV.id] at e2
        exact hn (List.mem_map.2 ⟨c, hc, by simp [CellV.name, OpV.name, ← e2.1, ← e2.2.1, e3, e4]⟩)
      · intro c hc
        simp only [List.mem_append] at hc
        rcases hc with (hc | hc) | hc
        · exact h.ok c (List.mem_of_mem_take hc)
        · exact freshC_ok o rs hs hq h2 h6 c hc
        · exact h.ok c (List.mem_of_mem_drop hc)
      · simp only [List.length_append, List.length_take, List.length_drop, freshC_len]
        have := h.big
        omega
  · rw [doL_same he]; exact h

/-- A place right behind the cell of a name. -/
def behind (s q f : Int) (l : List CellV) (p : Int) : Prop := ∃ (i : Nat) (c : CellV), l[i]? = some c ∧ c.site = s ∧ c.seq = q ∧ c.off = f ∧ p = (i : Int) + 1
theorem behind.doL {s q f p : Int} {o : OpV} {sp : List (Int × Int)} {l : List CellV} (h : behind s q f l p) (he : doE o sp l = 0) : behind s q f (doL o sp l) (movP o p true) := by
  obtain ⟨i, c, hc, h1, h2, h3, hp⟩ := h
  have hlt := (List.getElem?_eq_some_iff.1 hc).1
  rcases (doE_zero he).2 with ⟨hk, e⟩ | ⟨hk, hi, hn, e⟩
  · rw [e]
    unfold movP
    rw [if_neg hk]
    refine ⟨i, _, by unfold markS; rw [markP_get, hc]; rfl, ?_, ?_, ?_, hp⟩
    all_goals split <;> assumption
  · rw [e]
    obtain ⟨rs, hr, hd, hu, g1, g2, g3, g4, g5, g6⟩ := ins_runes hi
    rw [hd]
    have hadd : addsOf o = rs.length := by unfold addsOf; rw [if_pos hk, hu]; omega
    unfold movP pointOf
    rw [if_pos hk, hadd]
    obtain ⟨at_, hat⟩ : ∃ n : Nat, o.at_ = n := ⟨o.at_.toNat, by omega⟩
    rw [hat] at g5 ⊢
    have hat2 : at_ ≤ l.length := by omega
    simp only [Int.toNat_natCast]
    by_cases hia : at_ ≤ i
    · rw [if_pos (.inl (by omega))]
      refine ⟨i + rs.length, c, ?_, h1, h2, h3, by rw [hp]; omega⟩
      rw [List.append_assoc, List.getElem?_append_right (by rw [List.length_take]; omega), List.length_take, Nat.min_eq_left hat2, List.getElem?_append_right (by rw [freshC_len]; omega), freshC_len, List.getElem?_drop, ← hc]
      congr 1; omega
    · rw [if_neg (by rintro (h | ⟨_, h⟩); omega; cases h)]
      refine ⟨i, c, ?_, h1, h2, h3, hp⟩
      rw [List.append_assoc, List.getElem?_append_left (by rw [List.length_take]; omega), List.getElem?_take, if_pos (by omega)]
      exact hc
theorem movP_zero {o : OpV} {sp : List (Int × Int)} {l : List CellV} (he : doE o sp l = 0) : movP o 0 true = 0 := by
  rcases (doE_zero he).2 with ⟨hk, e⟩ | ⟨hk, hi, hn, e⟩
  · unfold movP; rw [if_neg hk]
  · obtain ⟨rs, hr, hd, hu, g1, g2, g3, g4, g5, g6⟩ := ins_runes hi
    unfold movP pointOf
    rw [if_pos hk, if_neg (by rintro (h | ⟨_, h⟩); omega; cases h)]

theorem gapPos_lt_len : ∀ (l : List CellV) (i : Nat), i < liveN l → gapPos l i < l.length
  | [], i, h => by simp [liveN] at h
  | c :: r, i, h => by
    rw [liveN_cons] at h
    rw [gapPos, List.length_cons]
    cases hg : c.gone
    · rw [hg] at h
      simp only [Bool.false_eq_true, if_false] at h ⊢
      by_cases h0 : i = 0
      · rw [if_pos h0]; omega
      · rw [if_neg h0]
        have := gapPos_lt_len r (i - 1) (by omega)
        omega
    · rw [hg] at h
      simp only [if_true] at h ⊢
      have := gapPos_lt_len r i (by omega)
      omega
theorem gapN_le {l : List CellV} {i : Int} (h : gapBad l i = false) : 0 ≤ gapN l i ∧ gapN l i ≤ l.length := by
  unfold gapN
  rw [if_neg (by simp [h])]
  unfold gapBad at h
  simp at h
  split
  · omega
  · have := gapPos_lt_len l i.toNat (by omega)
    omega
end Go.Proofs.YthicagfeaekmoaaGreatDoor

namespace Go.Proofs.YthicagfeaekmoaaGreatDoor
open Go.RowKit Go.Mine
open Classical

/-- The end of the last span of a list that begins behind last. -/
def lastE : Int → List (Int × Int) → Int
  | last, [] => last
  | _, x :: r => lastE (x.1 + x.2) r
theorem spansFrom_snoc : ∀ (L : List (Int × Int)) (last : Int) (x : Int × Int), spansFrom last (L ++ [x]) = (spansFrom last L && decide (0 ≤ x.1 ∧ x.1 ≤ 20000 ∧ 1 ≤ x.2 ∧ x.2 ≤ 20000 - x.1 ∧ lastE last L < x.1))
  | [], last, x => by
    simp only [List.nil_append, spansFrom, lastE, Bool.and_true, Bool.true_and]
    congr 1
  | y :: r, last, x => by
    rw [List.cons_append, spansFrom, spansFrom_snoc r, spansFrom, lastE, Bool.and_assoc]
theorem lastE_snoc : ∀ (L : List (Int × Int)) (last : Int) (x : Int × Int), lastE last (L ++ [x]) = x.1 + x.2
  | [], _, _ => rfl
  | y :: r, _, x => by rw [List.cons_append, lastE, lastE_snoc r]
theorem hasPl_snoc (L : List (Int × Int)) (x : Int × Int) (i : Nat) : hasPl (L ++ [x]) i = (hasPl L i || decide (x.1 ≤ (i : Int) ∧ (i : Int) < x.1 + x.2)) := by
  unfold hasPl; rw [List.any_append]; simp
theorem addPl_one (p : Nat) : addPl [] p = [((p : Int), 1)] := rfl
theorem addPl_snoc (L : List (Int × Int)) (f m : Int) (p : Nat) : addPl (L ++ [(f, m)]) p = if f + m = p then L ++ [(f, m + 1)] else L ++ [(f, m)] ++ [((p : Int), 1)] := by
  unfold addPl
  simp
/-- The places that are marked may be told, and are just those. -/
theorem plsOf_ok (P : Nat → Bool) : ∀ n, n ≤ 20000 → spansOk (plsOf P n) = true ∧ ∀ i, hasPl (plsOf P n) i = (decide (i < n) && P i)
  | 0, _ => ⟨rfl, fun i => by simp [plsOf, hasPl]⟩
  | n + 1, hn => by
    obtain ⟨h1, h2⟩ := plsOf_ok P n (by omega)
    have h3 := plsOf_in P n
    rw [plsOf]
    cases hP : P n
    · refine ⟨by simpa using h1, fun i => ?_⟩
      simp only [Bool.false_eq_true, if_false]
      rw [h2]
      by_cases hi : i = n
      · subst hi; simp [hP]
      · have : (i < n) = (i < n + 1) := propext ⟨fun h => by omega, fun h => by omega⟩
        simp only [this]
    · simp only [if_true]
      have key : ∀ i, (decide (i < n + 1) && P i) = ((decide (i < n) && P i) || decide (i = n)) := by
        intro i
        by_cases hi : i = n
        · subst hi; simp [hP]
        · have : (i < n) = (i < n + 1) := propext ⟨fun h => by omega, fun h => by omega⟩
          simp only [this, hi, decide_false, Bool.or_false]
      rcases List.eq_nil_or_concat (plsOf P n) with hL | ⟨L, x, hL⟩
      · rw [hL] at h2 ⊢
        rw [addPl_one]
        refine ⟨by simp [spansOk, spansFrom]; omega, fun i => ?_⟩
        rw [key, ← h2]
        have : ((n : Int) ≤ (i : Int) ∧ (i : Int) < (n : Int) + 1) = (i = n) := propext ⟨fun h => by omega, fun h => by omega⟩
        simp only [hasPl, List.any_cons, List.any_nil, Bool.or_false, Bool.false_or, this]
      · obtain ⟨f, m⟩ := x
        rw [List.concat_eq_append] at hL
        rw [hL] at h1 h2 h3 ⊢
        have hx := h3 (f, m) (by simp)
        simp only at hx
        rw [addPl_snoc]
        unfold spansOk at h1 ⊢
        rw [spansFrom_snoc] at h1
        simp only [Bool.and_eq_true, decide_eq_true_eq] at h1
        split
        · rename_i he
          refine ⟨?_, fun i => ?_⟩
          · rw [spansFrom_snoc]
            simp only [Bool.and_eq_true, decide_eq_true_eq]
            exact ⟨h1.1, by omega⟩
          · rw [key, ← h2, hasPl_snoc, hasPl_snoc, Bool.or_assoc, ← Bool.decide_or]
            congr 1
            exact decide_eq_decide.2 ⟨fun h => by omega, fun h => by omega⟩
        · rename_i he
          refine ⟨?_, fun i => ?_⟩
          · rw [spansFrom_snoc, spansFrom_snoc, lastE_snoc]
            simp only [Bool.and_eq_true, decide_eq_true_eq]
            exact ⟨⟨h1.1, by omega⟩, by omega⟩
          · rw [key, ← h2, hasPl_snoc]
            congr 1
            exact decide_eq_decide.2 ⟨fun h => by omega, fun h => by omega⟩
theorem goneL_ok {l : List CellV} (h : l.length ≤ 20000) : spansOk (goneL l) = true := (plsOf_ok _ _ h).1
theorem goneL_has {l : List CellV} (h : l.length ≤ 20000) (i : Nat) : hasPl (goneL l) i = (l[i]?.map CellV.gone).getD false := by
  unfold goneL
  rw [(plsOf_ok _ _ h).2]
  by_cases hi : i < l.length
  · simp [hi]
  · rw [List.getElem?_eq_none (by omega)]; simp
theorem goneL_end (l : List CellV) : endS (goneL l) ≤ l.length := by
  unfold endS
  cases h : (goneL l).getLast? with
  | none => simp
  | some x =>
    have := plsOf_in _ _ x (List.mem_of_getLast? h)
    simp only
    omega
/-- The cells that live. -/
def lives (l : List CellV) : List CellV := l.filter fun c => !c.gone
theorem drop_gone (sp : List (Int × Int)) : ∀ (c : List CellV) (p : Nat), (∀ i x, c[i]? = some x → hasPl sp (p + i) = x.gone) → dropFrom sp p c = lives c ∧ hitFrom sp p c = false
  | [], _, _ => ⟨rfl, rfl⟩
  | x :: r, p, h => by
    have h0 := h 0 x rfl
    rw [Nat.add_zero] at h0
    obtain ⟨h1, h2⟩ := drop_gone sp r (p + 1) (fun i y hy => by have := h (i + 1) y (by simpa using hy); rw [← this]; congr 1; omega)
    refine ⟨?_, ?_⟩
    · rw [dropFrom, h0, h1]
      unfold lives
      rw [List.filter_cons]
      cases x.gone <;> rfl
    · rw [hitFrom, h0, h2]
      cases x.gone <;> rfl
theorem goneL_drop {l : List CellV} (h : l.length ≤ 20000) : dropE (goneL l) l = 0 ∧ dropL (goneL l) l = lives l := by
  obtain ⟨h1, h2⟩ := drop_gone (goneL l) l 0 (fun i x hx => by rw [Nat.zero_add, goneL_has h, hx]; rfl)
  have h3 := goneL_end l
  have hE : dropE (goneL l) l = 0 := by
    unfold dropE
    rw [if_pos (goneL_ok h), if_neg (by omega), h2]
    rfl
  exact ⟨hE, by unfold dropL; rw [if_pos hE, h1]⟩
theorem goneL_cnt {l : List CellV} (h : l.length ≤ 20000) : ∀ p : Nat, p ≤ l.length → cntTo (goneL l) p + seenN l p = p
  | 0, _ => by simp [cntTo, seenN, liveN]
  | p + 1, hp => by
    have ih := goneL_cnt h p (by omega)
    have hx : l[p]? = some l[p] := by simp
    rw [seenN_succ hx, cntTo, goneL_has h, hx]
    simp only [Option.map_some, Option.getD_some]
    by_cases hgn : l[p].gone = true <;> simp [hgn] <;> omega
theorem goneL_ahead {l : List CellV} (h : l.length ≤ 20000) {p : Int} (h0 : 0 ≤ p) (hp : p ≤ l.length) : p - aheadOf (goneL l) p = seenN l p.toNat := by
  obtain ⟨n, rfl⟩ : ∃ n : Nat, p = n := ⟨p.toNat, by omega⟩
  have h1 := cnt_ahead _ (goneL_ok h) n
  have h2 := goneL_cnt h n (by omega)
  rw [← h1, Int.toNat_natCast]
  omega
theorem lives_len (l : List CellV) : (lives l).length = liveN l := rfl
theorem lives_seen (l : List CellV) {q : Nat} (h : q ≤ liveN l) : seenN (lives l) q = q := by
  unfold seenN liveN
  rw [List.filter_eq_self.2 (fun c hc => ?_), List.length_take, lives_len]
  · omega
  · exact (List.mem_filter.1 (List.mem_of_mem_take hc)).2
theorem seen_gapPos : ∀ (l : List CellV) (i : Nat), i < liveN l → seenN l (gapPos l i) = i
  | [], i, h => by simp [liveN] at h
  | c :: t, i, h => by
    rw [liveN_cons] at h
    rw [gapPos]
    cases hg : c.gone
    · rw [hg] at h
      simp only [Bool.false_eq_true, if_false] at h ⊢
      by_cases h0 : i = 0
      · rw [if_pos h0, h0]; simp [seenN, liveN]
      · rw [if_neg h0, Nat.add_comm]
        unfold seenN
        rw [List.take_succ_cons, liveN_cons, hg]
        have := seen_gapPos t (i - 1) (by omega)
        unfold seenN at this
        rw [this]
        simp; omega
    · rw [hg] at h
      simp only [if_true] at h ⊢
      rw [Nat.add_comm]
      unfold seenN
      rw [List.take_succ_cons, liveN_cons, hg]
      have := seen_gapPos t i (by omega)
      unfold seenN at this
      rw [this]
      simp
theorem seen_gapN {l : List CellV} {i : Int} (h : gapBad l i = false) : (seenN l (gapN l i).toNat : Int) = i := by
  have hb := h
  simp [gapBad] at h
  unfold gapN
  rw [hb]
  simp only [Bool.false_eq_true, if_false]
  split
  · rename_i he
    rw [Int.toNat_natCast, seenN_all, he]
  · rw [Int.toNat_natCast, seen_gapPos l _ (by omega)]
    omega
/-- What is put is shown there. -/
theorem shown_put {l : List CellV} {s i j : Int} (hl : l.length ≤ 20000) (hs : inB s 1 16 = true) (hi : gapBad l i = false) (hj : gapBad l j = false) : shownV l s (gapN l i) (gapN l j) = .tuple #[.int .i64 i, .int .i64 j, .int .i64 0] := by
  have h1 := gapN_le hi
  have h2 := gapN_le hj
  have hm : markOk s (gapN l i) (gapN l j) l.length = true := by
    unfold markOk
    rw [hs]
    simp [inB]
    omega
  have b1 : seenBad l (gapN l i) = false := by unfold seenBad; simp; omega
  have b2 : seenBad l (gapN l j) = false := by unfold seenBad; simp; omega
  unfold shownV seenM
  rw [hm, b1, b2]
  simp only [if_true, Bool.false_eq_true, if_false, seen_gapN hi, seen_gapN hj]
theorem drop_put {l : List CellV} {s i j : Int} (hl : l.length ≤ 20000) (hs : inB s 1 16 = true) (hi : gapBad l i = false) (hj : gapBad l j = false) : dropV s (gapN l i) (gapN l j) (goneL l) = .tuple #[.agg #[.int .i64 s, .int .i64 i, .int .i64 j], .int .i64 0] := by
  have h1 := gapN_le hi
  have h2 := gapN_le hj
  have hm : markOk s (gapN l i) (gapN l j) 20000 = true := by
    unfold markOk
    rw [hs]
    simp [inB]
    omega
  unfold dropV
  rw [hm, goneL_ok hl, goneL_ahead hl h1.1 h1.2, goneL_ahead hl h2.1 h2.2, seen_gapN hi, seen_gapN hj]
  rfl
theorem shown_drop {l : List CellV} {s i j : Int} (hl : l.length ≤ 20000) (hs : inB s 1 16 = true) (hi : gapBad l i = false) (hj : gapBad l j = false) : shownV (lives l) s i j = .tuple #[.int .i64 i, .int .i64 j, .int .i64 0] := by
  simp [gapBad] at hi hj
  have hle := liveN_le l
  have hm : markOk s i j (lives l).length = true := by
    rw [lives_len]
    unfold markOk
    rw [hs]
    simp [inB]
    omega
  have b1 : seenBad (lives l) i = false := by unfold seenBad; rw [lives_len]; simp; omega
  have b2 : seenBad (lives l) j = false := by unfold seenBad; rw [lives_len]; simp; omega
  unfold shownV seenM
  rw [hm, b1, b2]
  simp only [if_true, Bool.false_eq_true, if_false]
  rw [lives_seen l (by omega), lives_seen l (by omega), Int.toNat_of_nonneg hi.1, Int.toNat_of_nonneg hj.1]
theorem shown_far (l : List CellV) (s : Int) : shownV l s (((l.length : Nat) : Int) + 1) 0 = .tuple #[.int .i64 0, .int .i64 0, .int .i64 1] := by
  have hm : markOk s (((l.length : Nat) : Int) + 1) 0 l.length = false := by
    unfold markOk
    simp [inB]
    omega
  unfold shownV
  rw [hm]
  rfl
end Go.Proofs.YthicagfeaekmoaaGreatDoor

namespace Go.Proofs.YthicagfeaekmoaaGreatDoor
open Go.RowKit Go.Mine
open Classical

end Go.Proofs.YthicagfeaekmoaaGreatDoor
