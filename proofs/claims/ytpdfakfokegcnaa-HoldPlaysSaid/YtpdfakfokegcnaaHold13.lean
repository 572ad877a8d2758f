/-
  Layer 21 (hold): the walk of HoldOrder.
-/
import Derived.Test.YtpdfakfokegcnaaHold12
namespace Go.Proofs.Ytpdfakfokegcnaa
open Go.RowKit Go.Mine
attribute [local go_sem ↓] ld_msg st_msg
attribute [local go_sem] run_ld_msg run_st_msg cut_drew setCells_drew World.there_drew setCells_alloc_at there_alloc_at cut_alloc_at there_alloc_old cut_alloc_old fold_set_whole fold_set_at there_drewN cut_drewN setCells_drewN

structure IsBytes (w : World) (a : Option Addr) (len cap : Nat) (l : List Nat) : Prop where
  n : l.length = len
  le : len ≤ cap
  big : cap ≤ maxLen
  ok : ∀ x ∈ l, x < 256
  cells : ∀ (i : Nat) (x : Nat), l[i]? = some x → ∃ b off, a = some ⟨b, off, none⟩ ∧ w.cell? ⟨b, off + i, none⟩ = some (.int .u8 (x : Int))

theorem IsBytes.below {w w' : World} {a : Option Addr} {len cap : Nat} {l : List Nat} (h : IsBytes w a len cap l) (hb : Below w.heap.size w w') : IsBytes w' a len cap l :=
  ⟨h.n, h.le, h.big, h.ok, fun i x hx => by
    obtain ⟨b, off, e, hc⟩ := h.cells i x hx
    exact ⟨b, off, e, cell_later hb hc⟩⟩

/-- Which numbers are there, as a row of bools. -/
def marks (first : Int) (L : List Itm) : List Value := (List.range 300).map fun (k : Nat) => .bool (decide (first + (k : Int) ∈ L.map Itm.num))
theorem marks_len (first : Int) (L : List Itm) : (marks first L).length = 300 := by unfold marks; rw [List.length_map, List.length_range]
theorem marks_at (first : Int) (L : List Itm) (k : Nat) (hk : k < 300) : (marks first L)[k]? = some (.bool (decide (first + (k : Int) ∈ L.map Itm.num))) := by
  unfold marks; rw [List.getElem?_map, List.getElem?_range hk]; rfl
theorem marks_nil (first : Int) : marks first [] = List.replicate 300 (.bool false) := by
  unfold marks
  apply List.ext_getElem?
  intro j
  by_cases hj : j < 300
  · rw [List.getElem?_map, List.getElem?_range hj, List.getElem?_replicate, if_pos hj]
    show some (Value.bool (decide (_ ∈ []))) = _
    rw [decide_eq_false List.not_mem_nil]
  · rw [List.getElem?_eq_none (by rw [List.length_map, List.length_range]; omega), List.getElem?_eq_none (by rw [List.length_replicate]; omega)]
theorem marks_set (first : Int) (L : List Itm) (x : Itm) (k : Nat) (hk : k < 300) (hx : x.num = first + (k : Int)) : (marks first L).set k (.bool true) = marks first (x :: L) := by
  apply List.ext_getElem?
  intro j
  by_cases hj : j < 300
  · rw [marks_at _ _ _ hj, List.getElem?_set, marks_len, marks_at _ _ _ hj]
    by_cases e : k = j
    · subst e
      rw [if_pos rfl, if_pos hk]; simp [hx]
    · rw [if_neg e]
      have : (first + (j : Int) ∈ (x :: L).map Itm.num) ↔ (first + (j : Int) ∈ L.map Itm.num) := by
        rw [List.map_cons, List.mem_cons, hx]
        constructor
        · rintro (h | h)
          · omega
          · exact h
        · exact fun h => .inr h
      simp only [this]
  · rw [List.getElem?_eq_none (by rw [List.length_set, marks_len]; omega), List.getElem?_eq_none (by rw [marks_len]; omega)]
theorem marks_same (first : Int) (L : List Itm) (k : Nat) (h : first + (k : Int) ∈ L.map Itm.num) : (marks first L).set k (.bool true) = marks first L := by
  apply List.ext_getElem?
  intro j
  by_cases hj : j < 300
  · rw [List.getElem?_set, marks_len, marks_at _ _ _ hj]
    by_cases e : k = j
    · subst e; rw [if_pos rfl, if_pos hj, decide_eq_true h]
    · rw [if_neg e]
  · rw [List.getElem?_eq_none (by rw [List.length_set, marks_len]; omega), List.getElem?_eq_none (by rw [marks_len]; omega)]

theorem marks_made (first : Int) (w : World) : Blk (w.alloc (.cells (madeCells #[.bool false] 300) 4)) w.heap.size (marks first []) 4 := by
  rw [marks_nil]
  have hm : (madeCells #[Value.bool false] 300) = (List.replicate 300 (Value.bool false)).toArray := by
    rw [← toList_madeCells_one]
  rw [hm]; exact Blk.new

theorem QIs.far {B : Nat} {w w' : World} {p lb g : Nat} {next : Int} {L : List Itm} {S : Nat → Prop} (h : QIs B w p lb g next L) (m : Mod S w w') (hs : ∀ b, S b → ¬ qf p lb g b) : QIs B w' p lb g next L := by
  obtain ⟨cap, xs, more, h, hp⟩ := h
  have i := h.it
  exact ⟨cap, xs, more, { h with hp := h.hp.mod m (fun e => hs _ e (.inl rfl)), it := ⟨i.hl.mod m (fun e => hs _ e (.inr (.inl rfl))), i.hg.mod m (fun e => hs _ e (.inr (.inr rfl))), i.ne, i.bl, i.bg, i.nc, i.cm, i.few, i.rm⟩ }, hp⟩
theorem QIs.ge {B : Nat} {w : World} {p lb g : Nat} {next : Int} {L : List Itm} (h : QIs B w p lb g next L) {x : Itm} (hx : x ∈ L) : next ≤ x.num ∧ x.num ≤ 1099511627776 := by
  obtain ⟨cap, xs, more, h, hp⟩ := h; exact h.ge x (hp.mem_iff.2 hx)
theorem qf_new {p lb g g' pb : Nat} {w : World} (h : ¬ qf p lb g pb) (e : g' = g ∨ w.heap.size ≤ g') (hp : pb < w.heap.size) : ¬ qf p lb g' pb := by
  rintro (q | q | q)
  · exact h (.inl q)
  · exact h (.inr (.inl q))
  · rcases e with e | e
    · exact h (.inr (.inr (q.trans e)))
    · omega

theorem put_twice_itm (B p lb g : Nat) (next n d k : Int) (L : List Itm) (w : World) (h : QIs B w p lb g next L) (h1 : next ≤ n) (h2 : n ≤ 1099511627776) (hin : n ∈ L.map Itm.num) :
    Calls Try.prog 21 #[.pointer (some ⟨p, 0, none⟩), .int .i64 n, .agg #[.int .i64 d, .int .i64 k, .int .i64 0, .int .i64 0, .int .i64 0, .int .i64 0, .int .i64 0, .int .i64 0, .int .i64 0, .string ⟨#[]⟩, .string ⟨#[]⟩]] w (QPost B p lb g next L (.int .i64 15) w) :=
  qput_twice B p lb g next n (itmOf n d k).m L w h h1 h2 hin
theorem put_busy_itm (B p lb g : Nat) (next n d k : Int) (L : List Itm) (w : World) (h : QIs B w p lb g next L) (h1 : next ≤ n) (h2 : n ≤ 1099511627776) (hin : n ∉ L.map Itm.num) (hl : L.length = 64) :
    Calls Try.prog 21 #[.pointer (some ⟨p, 0, none⟩), .int .i64 n, .agg #[.int .i64 d, .int .i64 k, .int .i64 0, .int .i64 0, .int .i64 0, .int .i64 0, .int .i64 0, .int .i64 0, .int .i64 0, .string ⟨#[]⟩, .string ⟨#[]⟩]] w (QPost B p lb g next L (.int .i64 6) w) :=
  qput_busy B p lb g next n (itmOf n d k).m L w h h1 h2 hin hl

/-- The queue and the marks behind j bytes. -/
def OInv (w : World) (first : Int) (p lb pb : Nat) (j : Nat) (wr : World) : Prop :=
  ∃ B g L, QIs B wr p lb g first L ∧ w.heap.size ≤ B ∧ Below w.heap.size w wr ∧ Blk wr pb (marks first L) 4 ∧ ¬ qf p lb g pb ∧ L.length ≤ j ∧ (∀ x ∈ L, ∃ k : Nat, k < 256 ∧ x = itmOf (first + k) 0 k)

theorem OInv.step {w wr w2 : World} {first : Int} {p lb pb B g j k : Nat} {L M : List Itm} {r : Value} {e : Ending} (hw : w.heap.size ≤ pb) (hB : w.heap.size ≤ B) (hb : Below w.heap.size w wr) (hq : QIs B wr p lb g first L) (hk : Blk wr pb (marks first L) 4) (hf : ¬ qf p lb g pb)
    (h2 : QPost B p lb g first M r wr e w2) (hs : (marks first L).set k (.bool true) = marks first M) (hM : M.length ≤ j) (hall : ∀ x ∈ M, ∃ k : Nat, k < 256 ∧ x = itmOf (first + k) 0 k) :
    OInv w first p lb pb j (w2.setCell ⟨pb, k, none⟩ (.bool true)) := by
  obtain ⟨rfl, g2, q2, m2, e2⟩ := h2
  have hf2 := qf_new hf e2 hk.lt
  have k2 := hk.mod m2 hf
  have m3 : Mod (one pb) w2 (w2.setCell ⟨pb, k, none⟩ (.bool true)) := (Mod.refl (one pb) w2).setCell ⟨pb, k, none⟩ (fun _ => rfl) _
  have b2 := hb.trans ((hq.below m2).mono hB)
  refine ⟨B, g2, M, q2.far m3 (fun b hb q => ?_), hB, b2.trans (m3.toBelow b2.size (fun b hb q => ?_)), ?_, hf2, hM, hall⟩
  · have : b = pb := hb
    subst this; exact hf2 q
  · have : b = pb := q
    omega
  · have := k2.set k (.bool true)
    rw [hs] at this; exact this

/-- Behind k takes. -/
def TInv (w : World) (first : Int) (p lb pb : Nat) (L0 : List Itm) (k : Nat) (wr : World) : Prop :=
  ∃ B g L, QIs B wr p lb g (first + k) L ∧ w.heap.size ≤ B ∧ Below w.heap.size w wr ∧ Blk wr pb (marks first L0) 4 ∧ ¬ qf p lb g pb ∧ (∀ x, x ∈ L ↔ x ∈ L0 ∧ first + (k : Int) ≤ x.num)

set_option maxHeartbeats 1000000 in
set_option maxRecDepth 1000000 in
theorem order_walk (n : Int) (a : Option Addr) (len cap : Nat) (l : List Nat) (w : World) (hn : 0 ≤ n ∧ n ≤ 65535) (h : IsBytes w a len cap l) :
    Calls Try.prog 5 #[.int .u16 n, .slice a len cap] w fun e w' => e = .returned (.bool true) ∧ Below w.heap.size w w' := by
  have hal := Lib.hid (halive_any w)
  have hle := h.le
  have hbig := h.big
  unfold maxLen at hbig
  have hN := h.n
  have H := Lib.hid h
  clear h
  have hz : zm.length = 11 := rfl
  have oz : Ones zm := zm_ones
  go_enter Try.func5, Try.ntmps5
  go_wp2_with fail
  refine hal.out.mono ?_
  rintro e w0 ⟨rfl, b0⟩
  have B0 := Lib.hid b0; clear b0
  by_cases h60 : 60 < len
  · go_wp2_with fail
    go_ret
    exact ⟨rfl, B0.out⟩
  have hd60 : decide (60 < (len : Int)) = false := by simp; omega
  go_wp2_with fail
  refine (qnew_ok (1 + n) (by omega) (by omega) w0).mono ?_
  rintro e w1 ⟨p, lb, g0, rfl, h1, m1⟩
  have H1 := Lib.hid h1; have M1 := Lib.hid m1; clear h1 m1
  have hmk : ∀ w, (Instr.makeSlice 44 (.int .i64 300) (.int .i64 300)).run Try.prog w = .ok (.slice (some ⟨w.heap.size, 0, none⟩) 300 300) (w.alloc (.cells (madeCells #[.bool false] 300) 4)) := fun w => by
    exact run_make_row' (P := Try.prog) 44 4 (.bool false) 1 Try.underlying44 (by kernel_rfl) rfl .i64 .i64 300 (by decide) (by decide) w
  go_wp2_with fail
  have hO : OInv w (1 + n) p lb w1.heap.size 0 (w1.alloc (.cells (madeCells #[.bool false] 300) 4)) := by
    have b1 : Below w.heap.size w w1 := B0.out.trans (M1.out.toBelow B0.out.size (fun _ _ e => e))
    refine ⟨w0.heap.size, g0, [], H1.out.grown ((Mod.refl _ _).alloc _), B0.out.size, b1.alloc b1.size _, marks_made _ _, fun q => Nat.lt_irrefl _ (H1.out.foot q).2, Nat.le_refl _, fun x hx => by simp at hx⟩
  have hpb : w.heap.size ≤ w1.heap.size := Nat.le_trans B0.out.size M1.out.size
  have hO := Lib.hid hO
  generalize (w1.alloc (.cells (madeCells #[.bool false] 300) 4)) = wa at hO ⊢
  obtain ⟨pb, hpbe⟩ : ∃ pb, pb = w1.heap.size := ⟨_, rfl⟩
  rw [← hpbe] at hO hpb ⊢
  clear hpbe H1 M1 B0
  obtain ⟨fi, hfi⟩ : ∃ fi, fi = 1 + n := ⟨_, rfl⟩
  rw [← hfi] at hO ⊢
  have hfb : 1 ≤ fi ∧ fi ≤ 65536 := by omega
  clear hfi
  go_loopw [9] (fun i wr => ∃ j : Nat, i = .int .i64 j ∧ j ≤ len ∧ OInv w fi p lb pb j wr) (fun i _ => len - (intOf i).toNat)
  case atStart => exact ⟨0, rfl, Nat.zero_le _, hO.out⟩
  case round =>
    obtain ⟨j, rfl, hj, B, g, L, hq, hB, hb, hk, hnf, hl, hall⟩ := hrel
    by_cases hlt : j < len
    · obtain ⟨x, hx⟩ : ∃ x, x = l[j]'(by omega) := ⟨_, rfl⟩
      obtain ⟨bb, off, rfl, hc0⟩ := H.out.cells j x (by rw [hx]; simp)
      have hx256 := H.out.ok x (by rw [hx]; exact List.getElem_mem _)
      have hc := cell_later hb hc0
      clear hx hc0
      have hmk := hk.cell x
      rw [marks_at _ _ _ (show x < 300 by omega)] at hmk
      have Q := Lib.hid hq; have BB := Lib.hid hb; have K := Lib.hid hk; have NF := Lib.hid hnf; have AL := Lib.hid hall
      have hpl := hk.lt
      clear hq hb hnf hall
      by_cases hin : fi + (x : Int) ∈ L.map Itm.num
      · rw [decide_eq_true hin] at hmk
        have HI := Lib.hid hin; clear hin
        have hkc := hk
        clear hk
        go_wp2_with fail
        refine (put_twice_itm B p lb g fi (fi + x) 0 x L wr Q.out (by omega) (by omega) HI.out).mono ?_
        rintro e w2 h2
        have R2 := Lib.hid h2
        obtain ⟨rfl, g2, q2, m2, e2⟩ := h2
        have hmk2 := m2.cell (p := ⟨pb, x, none⟩) NF.out hmk
        have k2 := hkc.mod m2 NF.out
        have hl2 := k2.lt
        have hf2 := k2.frozen x
        clear q2 m2 e2 hkc k2
        go_wp2_with fail
        exact ⟨⟨j + 1, by go_num, by omega, OInv.step hpb hB BB.out Q.out K.out NF.out R2.out (marks_same _ _ _ HI.out) (by omega) AL.out⟩, by simp [intOf]; omega⟩
      · rw [decide_eq_false hin] at hmk
        have HI := Lib.hid hin; clear hin
        have hkc := hk
        clear hk
        go_wp2_with fail
        refine (put_itm B p lb g fi (fi + x) 0 x L wr Q.out (by omega) (by omega) HI.out (by omega)).mono ?_
        rintro e w2 h2
        have R2 := Lib.hid h2
        obtain ⟨rfl, g2, q2, m2, e2⟩ := h2
        have hmk2 := m2.cell (p := ⟨pb, x, none⟩) NF.out hmk
        have k2 := hkc.mod m2 NF.out
        have hl2 := k2.lt
        have hf2 := k2.frozen x
        clear q2 m2 e2 hkc k2
        go_wp2_with fail
        exact ⟨⟨j + 1, by go_num, by omega, OInv.step hpb hB BB.out Q.out K.out NF.out R2.out (marks_set _ _ (itmOf (fi + x) 0 x) _ (by omega) rfl) (by rw [List.length_cons]; omega) (fun y hy => by
          rcases List.mem_cons.1 hy with e | e
          · exact ⟨x, hx256, e⟩
          · exact AL.out y e)⟩, by simp [intOf]; omega⟩
    · have Q := Lib.hid hq; have BB := Lib.hid hb; have K := Lib.hid hk; have NF := Lib.hid hnf; have AL := Lib.hid hall
      clear hq hb hnf hall hk
      go_wp2_with fail
      have hT : TInv w fi p lb pb L 0 wr := ⟨B, g, L, by simpa using Q.out, hB, BB.out, K.out, NF.out, fun x => ⟨fun hx => ⟨hx, by have := (Q.out.ge hx).1; simpa using this⟩, fun hx => hx.1⟩⟩
      have HT := Lib.hid hT
      clear hT Q BB K NF hB
      generalize wr = wb at HT ⊢
      clear H
      go_loopw [12] (fun i wr => ∃ k : Nat, i = .int .i64 k ∧ k ≤ 300 ∧ TInv w fi p lb pb L k wr) (fun i _ => 300 - (intOf i).toNat)
      case atStart => exact ⟨0, rfl, by omega, HT.out⟩
      case round =>
        obtain ⟨k, rfl, hj, B, g, M, hq, hB, hb, hk, hnf, hM⟩ := hrel
        by_cases hlt : k < 300
        · have hmk := hk.cell k
          rw [marks_at _ _ _ hlt] at hmk
          have Q := Lib.hid hq; have BB := Lib.hid hb; have K := Lib.hid hk; have NF := Lib.hid hnf
          have hpl := hk.lt
          clear hq hb hnf hk
          by_cases hin : fi + (k : Int) ∈ L.map Itm.num
          · rw [decide_eq_true hin] at hmk
            obtain ⟨y, hy, hyn⟩ := List.mem_map.1 hin
            obtain ⟨k', hk', rfl⟩ := AL.out y hy
            have hkk : k' = k := by
              have : fi + (k' : Int) = fi + (k : Int) := hyn
              omega
            subst hkk
            obtain ⟨s, t, hst⟩ := List.mem_iff_append.1 ((hM _).2 ⟨hy, Int.le_refl _⟩)
            have Q2 : QIs B wr p lb g (fi + k') (itmOf (fi + k') 0 k' :: (s ++ t)) := Q.out.perm (by rw [hst]; exact List.perm_middle)
            have HM := Lib.hid hM
            have QQ := Lib.hid Q2
            clear Q2 hy hyn hin hM Q
            go_wp2_with fail
            refine (take_itm B p lb g (fi + k') (fi + k') 0 k' (s ++ t) wr QQ.out rfl).mono ?_
            rintro e w2 ⟨rfl, g2, q2, m2, e2⟩
            have o2 : Ones [.int .i64 0, .int .i64 k', .int .i64 0, .int .i64 0, .int .i64 0, .int .i64 0, .int .i64 0, .int .i64 0, .int .i64 0, .string ⟨#[]⟩, .string ⟨#[]⟩] := (itmOf 0 0 k').one
            have hmk2 := m2.cell (p := ⟨pb, k', none⟩) NF.out hmk
            have k2 := K.out.mod m2 NF.out
            have hl2 := k2.lt
            have hf2 := qf_new NF.out e2 hpl
            have b2 := BB.out.trans ((QQ.out.below m2).mono hB)
            have hT2 : TInv w fi p lb pb L (k' + 1) (w2.alloc (.cells #[.int .i64 0, .int .i64 k', .int .i64 0, .int .i64 0, .int .i64 0, .int .i64 0, .int .i64 0, .int .i64 0, .int .i64 0, .string ⟨#[]⟩, .string ⟨#[]⟩] 51)) := by
              refine ⟨B, g2, s ++ t, ?_, hB, b2.alloc b2.size _, k2.mod ((Mod.refl none_ w2).alloc _) (fun e => e), hf2, fun x => ⟨fun hx => ?_, fun hx => ?_⟩⟩
              · have := q2.grown ((Mod.refl none_ w2).alloc (.cells #[.int .i64 0, .int .i64 k', .int .i64 0, .int .i64 0, .int .i64 0, .int .i64 0, .int .i64 0, .int .i64 0, .int .i64 0, .string ⟨#[]⟩, .string ⟨#[]⟩] 51))
                rw [Int.natCast_add, ← Int.add_assoc]; exact this
              · have h1 := q2.ge hx
                refine ⟨((HM.out x).1 ?_).1, by omega⟩
                rw [hst]
                rcases List.mem_append.1 hx with e | e
                · exact List.mem_append_left _ e
                · exact List.mem_append_right _ (List.mem_cons_of_mem _ e)
              · have h1 := (HM.out x).2 ⟨hx.1, by omega⟩
                rw [hst] at h1
                rcases List.mem_append.1 h1 with e | e
                · exact List.mem_append_left _ e
                · rcases List.mem_cons.1 e with e | e
                  · have h3 := hx.2
                    have : x.num = fi + (k' : Int) := by rw [e]; rfl
                    omega
                  · exact List.mem_append_right _ e
            have T2 := Lib.hid hT2
            clear hT2 q2 m2 e2 k2 hf2 b2
            go_wp2_with fail
            exact ⟨⟨k' + 1, by go_num, by omega, T2.out⟩, by simp [intOf]; omega⟩
          · rw [decide_eq_false hin] at hmk
            have hno : ∀ x ∈ M, x.num ≠ fi + (k : Int) := fun x hx e => hin (List.mem_map.2 ⟨x, ((hM x).1 hx).1, e⟩)
            have HNO := Lib.hid hno
            clear hno hin hM
            go_wp2_with fail
            refine (qtake_none B p lb g (fi + k) M wr Q.out HNO.out).mono ?_
            rintro e w2 ⟨rfl, g2, q2, m2, e2⟩
            have hmk2 := m2.cell (p := ⟨pb, k, none⟩) NF.out hmk
            have k2 := K.out.mod m2 NF.out
            have hl2 := k2.lt
            have b2 := BB.out.trans ((Q.out.below m2).mono hB)
            have Q2 := Lib.hid q2
            have B2 := Lib.hid (b2.alloc b2.size (.cells zm.toArray 51))
            clear q2 m2 e2 k2 b2
            go_wp2_with fail
            refine (qnext_any B p lb g2 _ M _ (Q2.out.grown ((Mod.refl none_ w2).alloc _))).mono ?_
            rintro e w3 ⟨rfl, rfl⟩
            go_wp2_with fail
            go_ret
            exact ⟨by simp, B2.out⟩
        · go_wp2_with fail
          go_ret
          exact ⟨rfl, hb⟩

end Go.Proofs.Ytpdfakfokegcnaa
