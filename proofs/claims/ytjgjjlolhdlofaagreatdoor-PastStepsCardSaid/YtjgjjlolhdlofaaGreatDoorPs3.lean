/-
  Texts on which the claim rests, one behind the other: Din1 Spl1 Nam1 Do1 Eac1 Ech1 Gon1 Run1 Tex1 Cls1 Drp1 Drp2 Has1 Drp3 Act1 Sen1 Car2 Car3 Car4 Car5 Shn1 Mov1 Car7 Car8 Sta1 Shw1 Nil1 Drp4 Dct1 Car9 Blk1 Car10 Car11 Shw2 Utf1 Run2 Dct2 Open Read1 Typ1 Edt1 Pas0 Lst1 Rft0 Rft1.
-/
import Derived.Test.YtjgjjlolhdlofaaGreatDoorPs2
import Derived.Lib.OthersKept
import Derived.Lib.TrimUEq
import Derived.Outline
import Derived.Deep.LoopGhost
import Derived.BigQuiet
import Derived.Lib.MapLaws
import Derived.Laws.IdiomStrings
import Derived.Laws.Cover4
import Derived.WalkKit
import Derived.ProofKit
import Derived.OpenShut
import Derived.ShutString
import Derived.ChangeOld
import Derived.ChangeSame
import Derived.Deep.Slices
import Derived.Deep.Fields
import Derived.Lib.SmallJoins

set_option linter.unusedSimpArgs false
set_option linter.unusedVariables false

namespace Go.Proofs.YtjgjjlolhdlofaaGreatDoor
open Go.RowKit Go.Shelf Go.Mine
open Classical
attribute [local go_sem] Oper.semAt_some
attribute [local go_sem ↓] app_fold

theorem zBlock (w : World) : (zeroValue 145).run Tryz.prog w = .ok (.agg #[.int .i64 0, .int .i64 0, .slice none 0 0]) w := by kernel_rfl

theorem bl_len {bl : List BV} (h : ∀ x ∈ bl, x.c ≠ []) : bl.length ≤ (cellsOf bl).length := by
  induction bl with
  | nil => simp
  | cons x r ih =>
    have h1 := ih (fun y hy => h y (List.mem_cons_of_mem _ hy))
    have h2 := h x (by simp)
    have h3 : 0 < x.c.length := List.length_pos_iff.2 h2
    simp only [cellsOf, List.flatMap_cons, List.length_append, List.length_cons] at *
    omega
/-- A document of no block gets an empty one. -/
theorem first_block {w : World} {D MB : Nat} {v : Value} (h : DocV w D v MB []) :
    ∃ v' w', (Builtin.append_ #[137, 137] 137 #[v, .slice (some ⟨w.heap.size + 1, 0, none⟩) 1 1]).run Tryz.prog ((w.alloc (.cells #[.int .i64 0, .int .i64 0, .slice none 0 0] 145)).alloc (.cells #[.pointer (some ⟨w.heap.size, 0, none⟩)] 141)) = .ok v' w' ∧
      (∃ u, w'.cell? ⟨D, 0, none⟩ = some u) ∧ (∃ a c, v' = .slice a 1 c) ∧ w'.frozen? ⟨D, 0, none⟩ = false ∧ DocV (w'.setCell ⟨D, 0, none⟩ v') D v' MB [⟨w.heap.size, .slice none 0 0, []⟩] ∧ Mod (foot D v []) w (w'.setCell ⟨D, 0, none⟩ v') ∧ ∀ k, foot D v' [⟨w.heap.size, .slice none 0 0, []⟩] k → foot D v [] k ∨ w.heap.size ≤ k := by
  obtain ⟨i0, hi0, hz0, hz1, hz2⟩ := info_parts infoPtr
  have m1 := (Mod.refl none_ w).alloc (.cells #[.int .i64 0, .int .i64 0, .slice none 0 0] 145)
  have m2 := m1.alloc (.cells #[.pointer (some ⟨w.heap.size, 0, none⟩)] 141)
  have kb := (Blk.new (w := w) (cs := [.int .i64 0, .int .i64 0, .slice none 0 0]) (t := 145)).mod ((Mod.refl none_ _).alloc (.cells #[.pointer (some ⟨w.heap.size, 0, none⟩)] 141)) (fun e => e)
  have kp := Blk.new (w := w.alloc (.cells #[.int .i64 0, .int .i64 0, .slice none 0 0] 145)) (cs := [.pointer (some ⟨w.heap.size, 0, none⟩)]) (t := 141)
  rw [World.size_alloc] at kp
  have hsz := m2.size
  generalize (w.alloc (.cells #[.int .i64 0, .int .i64 0, .slice none 0 0] 145)).alloc (.cells #[.pointer (some ⟨w.heap.size, 0, none⟩)] 141) = wA at m2 kb kp hsz
  have ho := ownsRow_mod h.ptrs m2 (fun _ _ e => e)
  have hd := h.doc.mod m2 (fun e => e)
  obtain ⟨v', w', hrun, hown, hg, hf⟩ := append_fresh (P := Tryz.prog) (ty := 137) Tryz.underlying137 hi0 hz0 hz1 hz2 rfl (by decide) ho ⟨w.heap.size + 1, 0, none⟩ 1 1 [.pointer (some ⟨w.heap.size, 0, none⟩)] rfl (fun j u hu => by rw [Addr.add_lit, Nat.zero_add, kp.cell]; exact hu) (fun u hu => by rw [List.mem_singleton.1 hu]; rfl) (by simp; unfold maxLen; omega) (by simp) (by omega) (by omega)
  have mg : Mod (fun k => v.ownBlock = some k) wA w' := (Mod.refl _ wA).grown hg (fun k e _ => e)
  have hty : ∀ k, v.ownBlock = some k → ∃ cs, Blk wA k cs 141 := fun k e => ownsRow_type ho e
  have hd' := hd.mod mg (fun e => by obtain ⟨cs, hc⟩ := hty _ e; exact Blk.apart hd hc (by decide) rfl)
  have kb' := kb.mod mg (fun e => by obtain ⟨cs, hc⟩ := hty _ e; exact Blk.apart kb hc (by decide) rfl)
  have ms : Mod (one D) w' (w'.setCell ⟨D, 0, none⟩ v') := (Mod.refl (one D) w').setCell ⟨D, 0, none⟩ (fun _ => rfl) _
  have hform : ∃ a c, v' = .slice a 1 c := by
    rcases ownsRow_blk hown with ⟨_, e, _⟩ | ⟨g, c', _, e, _⟩
    · simp at e
    · exact ⟨_, _, by simpa using e⟩
  refine ⟨v', w', hrun, ⟨_, hd'.cell 0⟩, hform, hd'.frozen 0, ⟨hd'.set 0 v', ?_, ?_, List.pairwise_singleton _ _⟩, ?_, ?_⟩
  · refine ownsRow_mod (by simpa [ptrsOf] using hown) ms (fun k hk e => ?_)
    have e' : k = D := e
    subst e'
    obtain ⟨cs, hc⟩ := ownsRow_type hown hk
    exact Blk.apart hd' hc (by decide) rfl
  · intro x hx
    rw [List.mem_singleton.1 hx]
    refine ⟨kb'.mod ms (fun e => Blk.apart kb' hd' (by decide) e), World.ownsRow_nil _ _ _ _⟩
  · exact (((m2.mono (T := foot D v []) (fun _ _ e => e.elim))).trans (mg.mono (fun k _ e => .inr (.inl e)))).trans (ms.mono (fun k _ e => .inl e))
  · intro k hk
    rcases hk with rfl | hk | ⟨x, hx, hk⟩
    · exact .inl (.inl rfl)
    · rcases hf k hk with e | e
      · exact .inl (.inr (.inl e))
      · exact .inr (by omega)
    · rw [List.mem_singleton.1 hx] at hk
      rcases hk with rfl | hk
      · exact .inr (Nat.le_refl _)
      · cases hk

theorem cells_ins {A B P : List BV} {x : BV} {fs : List CellV} {i p : Nat} (hP : cellsOf P = x.c.take i ++ fs ++ x.c.drop i) (hi : i ≤ x.c.length) (hp : (cellsOf A).length + i = p) :
    cellsOf (A ++ P ++ B) = (cellsOf (A ++ x :: B)).take p ++ fs ++ (cellsOf (A ++ x :: B)).drop p := by
  have e1 : cellsOf (A ++ P ++ B) = cellsOf A ++ cellsOf P ++ cellsOf B := by simp [cellsOf]
  have e2 : cellsOf (A ++ x :: B) = (cellsOf A ++ x.c.take i) ++ (x.c.drop i ++ cellsOf B) := by
    simp only [cellsOf, List.flatMap_append, List.flatMap_cons]
    conv => lhs; rw [← List.take_append_drop i x.c]
    simp only [List.append_assoc]
  have hl : (cellsOf A ++ x.c.take i).length = p := by rw [List.length_append, List.length_take]; omega
  rw [e1, e2, hP, ← hl, List.take_left, List.drop_left]
  simp only [List.append_assoc]
theorem foot_part {D : Nat} {v : Value} {A B P : List BV} {x : BV} {F : Nat → Prop} {w : World} (h : ∀ k, foot D v (A ++ x :: B) k → F k ∨ w.heap.size ≤ k) {v' : Value} (hv : ∀ g, v'.ownBlock = some g → v.ownBlock = some g ∨ w.heap.size ≤ g)
    (hP : ∀ y ∈ P, ∀ k, (k = y.p ∨ y.v.ownBlock = some k) → (k = x.p ∨ x.v.ownBlock = some k) ∨ w.heap.size ≤ k) : ∀ k, foot D v' (A ++ P ++ B) k → F k ∨ w.heap.size ≤ k := by
  intro k hk
  rcases hk with rfl | hk | ⟨y, hy, hk⟩
  · exact h _ (.inl rfl)
  · rcases hv k hk with e | e
    · exact h k (.inr (.inl e))
    · exact .inr e
  · simp only [List.mem_append] at hy
    rcases hy with (hy | hy) | hy
    · exact h k (.inr (.inr ⟨y, by simp [hy], hk⟩))
    · rcases hP y hy k hk with e | e
      · exact h k (.inr (.inr ⟨x, by simp, e⟩))
      · exact .inr e
    · exact h k (.inr (.inr ⟨y, by simp [hy], hk⟩))
theorem DocV.own {W W' : World} {B D MB : Nat} {v : Value} {bl : List BV} (h : DocV W D v MB bl) (m : Mod (loopOwn B W) W W') : DocV W' D v MB bl :=
  ⟨h.doc.own m, ownsRow_mod h.ptrs m (fun k hk s => by obtain ⟨cs, hc⟩ := ownsRow_type h.ptrs hk; have := s.2 _ hc; cases this),
    fun x hx => ⟨(h.blk x hx).b.own m, ownsRow_mod (h.blk x hx).o m (fun k hk s => by obtain ⟨cs, hc⟩ := ownsRow_type (h.blk x hx).o hk; have := s.2 _ hc; cases this)⟩, h.apart⟩
/-- A block gives way to others. -/
theorem DocV.rep {w5 W w9 : World} {D MB T : Nat} {v v' : Value} {A B bv : List BV} {y : BV} (h5 : DocV w5 D v MB (A ++ y :: B)) (m0 : Mod none_ w5 W) (hb : ∀ z ∈ bv, BlkV W z ∧ w5.heap.size ≤ z.p ∧ ∀ g, z.v.ownBlock = some g → w5.heap.size ≤ g) (hp : bv.Pairwise apartB)
    (m9 : Mod (fun b => v.ownBlock = some b) W w9) (ho : w9.ownsRow 0 141 1 v' T (ptrsOf (A ++ bv ++ B))) : DocV (w9.setCell ⟨D, 0, none⟩ v') D v' MB (A ++ bv ++ B) ∧ Mod (fun b => v.ownBlock = some b ∨ b = D) W (w9.setCell ⟨D, 0, none⟩ v') := by
  have h := h5.grown m0
  have hd := h.doc.mod m9 (fun e => by obtain ⟨cs, hc⟩ := ownsRow_type h.ptrs e; exact Blk.apart h.doc hc (by decide) rfl)
  have ms : Mod (one D) w9 (w9.setCell ⟨D, 0, none⟩ v') := (Mod.refl (one D) w9).setCell ⟨D, 0, none⟩ (fun _ => rfl) _
  have keep : ∀ z, BlkV W z → BlkV (w9.setCell ⟨D, 0, none⟩ v') z := fun z hz => by
    have h9 : BlkV w9 z := hz.mod m9 (fun e => by obtain ⟨cs, hc⟩ := ownsRow_type h.ptrs e; exact Blk.apart hz.b hc (by decide) rfl) (fun g hg e => by
      obtain ⟨cs, hc⟩ := ownsRow_type h.ptrs e
      obtain ⟨cs', hc'⟩ := hz.apart_arr hg
      exact Blk.apart hc hc' (by decide) rfl)
    exact h9.mod ms (fun e => Blk.apart h9.b hd (by decide) e) (fun g hg e => by
      have e' : g = D := e
      subst e'
      obtain ⟨cs, hc⟩ := h9.apart_arr hg
      exact Blk.apart hc hd (by decide) rfl)
  have hT : T = (A ++ bv ++ B).length := by have := ho.1; simp [ptrsOf] at this ⊢; omega
  have old : ∀ z, (z ∈ A ∨ z ∈ B) → z.p < w5.heap.size ∧ ∀ g, z.v.ownBlock = some g → g < w5.heap.size := fun z hz => by
    have hzb := h5.blk z (by rcases hz with hz | hz <;> simp [hz])
    exact ⟨hzb.b.lt, fun g hg => (hzb.o.lt g hg).2⟩
  have cross : ∀ z u, (z ∈ A ∨ z ∈ B) → u ∈ bv → apartB z u ∧ apartB u z := fun z u hz hu => by
    obtain ⟨o1, o2⟩ := old z hz
    obtain ⟨_, n1, n2⟩ := hb u hu
    exact ⟨⟨by omega, fun g h1 h2 => by have := o2 g h1; have := n2 g h2; omega⟩, ⟨by omega, fun g h1 h2 => by have := o2 g h2; have := n2 g h1; omega⟩⟩
  obtain ⟨apA, apX, apAX⟩ := List.pairwise_append.1 h5.apart
  obtain ⟨apXB, apB⟩ := List.pairwise_cons.1 apX
  refine ⟨⟨hd.set 0 v', ?_, ?_, ?_⟩, (m9.mono (fun _ _ e => .inl e)).trans (ms.mono (fun _ _ e => .inr e))⟩
  · rw [← hT]
    refine ownsRow_mod ho ms (fun k hk e => ?_)
    have e' : k = D := e
    subst e'
    obtain ⟨cs, hc⟩ := ownsRow_type ho hk
    exact Blk.apart hc hd (by decide) rfl
  · intro z hz
    simp only [List.mem_append] at hz
    rcases hz with (hz | hz) | hz
    · exact keep z (h.blk z (by simp [hz]))
    · exact keep z (hb z hz).1
    · exact keep z (h.blk z (by simp [hz]))
  · refine List.pairwise_append.2 ⟨List.pairwise_append.2 ⟨apA, hp, fun z hz u hu => (cross z u (.inl hz) hu).1⟩, apB, fun z hz u hu => ?_⟩
    rcases List.mem_append.1 hz with hz | hz
    · exact apAX z hz u (by simp [hu])
    · exact (cross u z (.inr hu) hz).2
theorem blkCells {w : World} {g n cap : Nat} {l : List CellV} {more : List Value} (k : Blk w g (flat CellV.cs l ++ more) 53) (hn : l.length = n) (hc : n ≤ cap) (hm : cap ≤ maxLen) (hok : ∀ c ∈ l, c.ok) : IsCells w (some ⟨g, 0, none⟩) n cap l :=
  ⟨hn, hc, hm, hok, fun i c hx => ⟨g, 0, rfl, fun j v hv => by
    have hj : j < 5 := (List.getElem?_eq_some_iff.1 hv).1
    have := Blk.elem CellV.len k i j c hx hj
    rw [Nat.zero_add, this]; exact hv⟩⟩
/-- What insert leaves. -/
def DinTo (w : World) (D : Nat) (v : Value) (MB : Nat) (bl : List BV) (l : List CellV) (e : Ending) (w' : World) : Prop :=
  e = .returned (.tuple #[]) ∧ Mod (foot D v bl) w w' ∧ ∃ v' bl', DocV w' D v' MB bl' ∧ cellsOf bl' = l ∧ (∀ k, foot D v' bl' k → foot D v bl k ∨ w.heap.size ≤ k) ∧ ∀ x ∈ bl', x.c ≠ []

set_option maxHeartbeats 4000000 in
set_option maxRecDepth 1000000 in
theorem insert_any (w : World) (D MB p vb vc m : Nat) (v : Value) (bl : List BV) (fs : List CellV) (h : DocV w D v MB bl) (hne : ∀ x ∈ bl, x.c ≠ []) (hp : p ≤ (cellsOf bl).length) (hlen : (cellsOf bl).length + m ≤ 1099511627776)
    (hs : Blk w vb (flat CellV.cs fs) 53) (hvb : ¬ foot D v bl vb) (hm : fs.length = m) (h0 : 0 < m) (hok : ∀ c ∈ cellsOf bl, c.ok) (hfok : ∀ c ∈ fs, c.ok) :
    Calls Tryz.prog 96 #[.pointer (some ⟨D, 0, none⟩), .int .i64 (p : Int), .slice (some ⟨vb, 0, none⟩) m vc] w (DinTo w D v MB bl ((cellsOf bl).take p ++ fs ++ (cellsOf bl).drop p)) := by
  obtain ⟨F, hF⟩ : ∃ F, F = foot D v bl := ⟨_, rfl⟩
  obtain ⟨L, hL⟩ : ∃ L, L = (cellsOf bl).take p ++ fs ++ (cellsOf bl).drop p := ⟨_, rfl⟩
  rw [← hL]
  obtain ⟨va, vca, rfl, hvc, hvm⟩ := h.form
  unfold maxLen at hvm
  have cd : w.cell? ⟨D, 0, none⟩ = some (.slice va bl.length vca) := h.doc.cell 0
  have H := Lib.hid h
  have HF := Lib.hid hF
  have HL := Lib.hid hL
  have HS := Lib.hid hs
  have HNE := Lib.hid hne
  have HVB := Lib.hid hvb
  have HOK := Lib.hid hok
  have HFOK := Lib.hid hfok
  clear h hF hL hs hne hvb hok hfok
  refine (callsIn_wide (n := 5)).1 ?_
  refine callsIn_of_wp_marks Tryz.func96 rfl trivial ?_ rfl
  refine wpIn_wide.2 (Code.wp_mono (Q := calmPost _) calmPost.out ?_)
  simp only [Tryz.ntmps96, List.size_toArray, List.length_cons, List.length_nil, Nat.reduceAdd, Nat.reduceSub, Array.replicate_succ, Array.replicate_zero, List.push_toArray, List.append_toArray, List.nil_append, List.cons_append]
  go_upto_if 16 with fail
  go_cut [] from 11 to 28 (fun wx => RowKit.Hid (∃ v1 bl1, DocV wx D v1 MB bl1 ∧ cellsOf bl1 = cellsOf bl ∧ 0 < bl1.length ∧ Mod F w wx ∧ (∀ k, foot D v1 bl1 k → F k ∨ w.heap.size ≤ k) ∧ bl1.length ≤ (cellsOf bl).length + 1 ∧ ∀ x ∈ bl1, x.c = [] → bl1.length = 1))
  case first =>
    by_cases hb : bl.length = 0
    · have hbl : bl = [] := List.eq_nil_of_length_eq_zero hb
      have hd : ((bl.length : Int) == 0) = true := by simp [hb]
      have hh := H.out
      rw [hbl] at hh
      obtain ⟨v1, w1, hrun, ⟨u, hu⟩, ⟨a1, c1, rfl⟩, hfz, hdv, hmod, hft⟩ := first_block hh
      have FIN := Lib.hid (show ∃ v2 bl1, DocV (w1.setCell ⟨D, 0, none⟩ (.slice a1 1 c1)) D v2 MB bl1 ∧ cellsOf bl1 = cellsOf bl ∧ 0 < bl1.length ∧ Mod F w (w1.setCell ⟨D, 0, none⟩ (.slice a1 1 c1)) ∧ (∀ k, foot D v2 bl1 k → F k ∨ w.heap.size ≤ k) ∧ bl1.length ≤ (cellsOf bl).length + 1 ∧ ∀ x ∈ bl1, x.c = [] → bl1.length = 1 by
        refine ⟨_, _, hdv, by rw [hbl]; rfl, by simp, by rw [HF.out, hbl]; exact hmod, by rw [HF.out, hbl]; exact hft, by simp, fun _ _ _ => rfl⟩)
      have hz := zBlock
      have HRUN := Lib.hid (show (Builtin.append_ #[137, 137] 137 #[.slice va bl.length vca, .slice (some ⟨w.heap.size + 1, 0, none⟩) 1 1]).run Tryz.prog ((w.alloc (.cells #[.int .i64 0, .int .i64 0, .slice none 0 0] 145)).alloc (.cells #[.pointer (some ⟨w.heap.size, 0, none⟩)] 141)) = .ok (.slice a1 1 c1) w1 by rw [hbl]; exact hrun)
      have hlt := block_lt_of_cell cd
      clear hh hrun hdv hmod hft hbl hb
      go_wp2_with (at_builtin; refine Lib.wpList_append_run _ rfl (.tmp 21) (.tmp 24) 137 137 rfl _ _ rfl rfl _ _ HRUN.out ?_)
      go_meet
      exact FIN
    · have hd : ((bl.length : Int) == 0) = false := by simp [hb]
      go_wp2_with fail
      go_meet
      exact Lib.hid ⟨_, bl, H.out, rfl, by omega, Mod.refl _ _, fun k hk => .inl (by rw [HF.out]; exact hk), by have := bl_len HNE.out; omega, fun x hx e => absurd e (HNE.out x hx)⟩
  case rest =>
    obtain ⟨v1, bl1, hv1, hc1, hb1, m1, hft1, hbl1, hem1⟩ := hcut.out
    obtain ⟨w1, rfl⟩ : ∃ w1 : World, w1 = wc := ⟨_, rfl⟩
    have HV1 := Lib.hid hv1
    have HC1 := Lib.hid hc1
    have M1 := Lib.hid m1
    have HF1 := Lib.hid hft1
    have HE1 := Lib.hid hem1
    have HFI := Lib.hid (find_any w1 D MB p v1 bl1 hv1 (by rw [hc1]; omega) (by rw [hc1]; exact hp) hb1)
    have cd1 := hv1.doc.cell 0
    obtain ⟨va1, vc1, rfl, hvc1, hvm1⟩ := hv1.form
    unfold maxLen at hvm1
    clear hv1 hc1 m1 hft1 hem1 hcut cd
    go_wp2_with fail
    refine HFI.out.mono ?_
    rintro e w2 ⟨k, i, x, rfl, hx, hix, hpk, m2⟩
    have hv2 := HV1.out.grown m2
    obtain ⟨g, rfl, c0⟩ := hv2.at_ hx
    have hkl : k < bl1.length := (List.getElem?_eq_some_iff.1 hx).1
    have hdec : bl1 = bl1.take k ++ x :: bl1.drop (k + 1) := by
      obtain ⟨hk', e⟩ := List.getElem?_eq_some_iff.1 hx
      rw [← e, List.getElem_cons_drop, List.take_append_drop]
    have hbx := hv2.blk x (List.mem_of_getElem? hx)
    have b0 : w2.cell? ⟨x.p, 0, none⟩ = some (.int .i64 (x.c.length : Int)) := by rw [hbx.b.cell]; rfl
    have b2 : w2.cell? ⟨x.p, 2, none⟩ = some x.v := by rw [hbx.b.cell]; rfl
    have cd2 : w2.cell? ⟨D, 0, none⟩ = some (.slice (some ⟨g, 0, none⟩) bl1.length vc1) := hv2.doc.cell 0
    have f2 := hbx.b.frozen 2
    clear cd1
    have HX := Lib.hid hx
    have HPK := Lib.hid hpk
    have HIX := Lib.hid hix
    have HDEC := Lib.hid hdec
    have M2 := Lib.hid m2
    have HV2 := Lib.hid hv2
    have HBX := Lib.hid hbx
    have hxF : ∀ b, (b = x.p ∨ x.v.ownBlock = some b) → F b ∨ w.heap.size ≤ b := fun b hb => HF1.out b (.inr (.inr ⟨x, List.mem_of_getElem? hx, hb⟩))
    have hvl := HS.out.lt
    have hs2 := HS.out.mod M1.out (fun e => HVB.out (by rw [← HF.out]; exact e))
    have hs2 := hs2.mod m2 (fun e => e)
    have hvx : x.v.ownBlock ≠ some vb := fun e => by
      rcases hxF vb (.inr e) with h | h
      · exact HVB.out (by rw [← HF.out]; exact h)
      · omega
    have hxl : x.c.length ≤ (cellsOf bl).length := by
      rw [← HC1.out, cellsOf_step hx]; simp; omega
    have HIN := Lib.hid (ins_any w2 x.v x.c.length i m vb vc x.c fs hbx.o rfl hix hs2 hvx hm h0 (by omega))
    have HXF := Lib.hid hxF
    clear hx hpk hix hdec m2 hv2 hbx hxF hs2 hvx
    go_wp2_with fail
    refine HIN.out.mono ?_
    rintro e w3 ⟨v', rfl, ho3, m3, hf3⟩
    obtain ⟨a', c', rfl⟩ : ∃ a' c', v' = .slice a' (x.c.length + m) c' := by
      rcases ownsRow_blk ho3 with ⟨_, e, _⟩ | ⟨g, c', _, rfl, _⟩
      · omega
      · exact ⟨_, _, rfl⟩
    have hno : ¬ x.v.ownBlock = some x.p := fun e => by
      obtain ⟨cs, hc⟩ := HBX.out.apart_arr e
      exact Blk.apart HBX.out.b hc (by decide) rfl
    have k3 := HBX.out.b.mod m3 hno
    have x2 : w3.cell? ⟨x.p, 2, none⟩ = some x.v := by rw [k3.cell]; rfl
    have xf2 := k3.frozen 2
    have K4 := Lib.hid (k3.set 2 (.slice a' (x.c.length + m) c'))
    have M4 := Lib.hid ((m3.mono (T := fun b => b = x.p ∨ x.v.ownBlock = some b) (fun b _ e => .inr e)).setCell ⟨x.p, 2, none⟩ (fun _ => .inl rfl) (.slice a' (x.c.length + m) c'))
    have hno4 : (Value.slice a' (x.c.length + m) c').ownBlock ≠ some x.p := fun e => by
      obtain ⟨cs, hc⟩ := ownsRow_type ho3 e
      exact Blk.apart k3 hc (by decide) rfl
    have O4 := Lib.hid (ownsRow_mod ho3 ((Mod.refl (one x.p) w3).setCell ⟨x.p, 2, none⟩ (fun _ => rfl) (.slice a' (x.c.length + m) c')) (fun g hg e => hno4 (by have e' : g = x.p := e; rw [← e']; exact hg)))
    have HF3 := Lib.hid hf3
    have HNO4 := Lib.hid hno4
    clear ho3 m3 hf3 hno k3 hno4 b2 f2 b0
    obtain ⟨N, hN⟩ : ∃ N, N = x.c.take i ++ fs ++ x.c.drop i := ⟨_, rfl⟩
    have hNl : N.length = x.c.length + m := by
      have := HIX.out
      rw [hN]; simp [hm]; omega
    have HN := Lib.hid hN
    have HNL := Lib.hid hNl
    rw [← hN] at O4
    clear hN hNl
    go_wp2_with fail
    refine (count_any _ x.p 0 _ _ (.slice a' (x.c.length + m) c') (x.c.length + m) N (by exact K4.out) O4.out HNO4.out HNL.out (by omega)).mono ?_
    rintro e w5 ⟨rfl, k5, m5⟩
    have b50 : w5.cell? ⟨x.p, 0, none⟩ = some (.int .i64 ((x.c.length + m : Nat) : Int)) := by rw [k5.cell]; rfl
    have b52 : w5.cell? ⟨x.p, 2, none⟩ = some (.slice a' (x.c.length + m) c') := by rw [k5.cell]; rfl
    have M5 := Lib.hid (M4.out.trans (m5.mono (T := fun b => b = x.p ∨ x.v.ownBlock = some b) (fun b _ e => .inl e)))
    have O5 := Lib.hid (ownsRow_mod O4.out m5 (fun g hg e => HNO4.out (by have e' : g = x.p := e; rw [← e']; exact hg)))
    have K5 := Lib.hid k5
    obtain ⟨y, hy⟩ : ∃ y : BV, y = ⟨x.p, .slice a' (x.c.length + m) c', N⟩ := ⟨_, rfl⟩
    have hby : BlkV w5 y := by rw [hy]; exact ⟨by rw [HNL.out]; exact k5, by rw [HNL.out]; exact O5.out⟩
    have hvu : DocV w5 D (.slice (some ⟨g, 0, none⟩) bl1.length vc1) MB (bl1.take k ++ y :: bl1.drop (k + 1)) := by
      have := HV2.out
      rw [HDEC.out] at this
      have e : (bl1.take k ++ x :: bl1.drop (k + 1)).length = bl1.length := by rw [← HDEC.out]
      rw [e] at this
      refine this.upd M5.out hby (by rw [hy]) (fun g hg => ?_)
      rw [hy] at hg
      exact (HF3.out g hg).imp id (fun h => h)
    have HVU := Lib.hid hvu
    have HY := Lib.hid hy
    have hnA : ∀ z ∈ bl1.take k ++ bl1.drop (k + 1), z.c ≠ [] := fun z hz e => by
      have h1 := HE1.out z (by rw [HDEC.out]; simp only [List.mem_append, List.mem_cons] at hz ⊢; rcases hz with h | h; exact .inl h; exact .inr (.inr h)) e
      have h2 : (bl1.take k ++ bl1.drop (k + 1)).length = 0 := by simp only [List.length_append, List.length_take, List.length_drop]; omega
      rw [List.eq_nil_of_length_eq_zero h2] at hz
      cases hz
    have hsz2 : w.heap.size ≤ w2.heap.size := by have := M1.out.size; have := M2.out.size; omega
    have m05 : Mod F w w5 := (M1.out.trans (M2.out.mono (fun _ _ e => e.elim))).transIn M5.out (fun b hb e => by
      rcases HXF.out b e with h | h
      · exact h
      · omega)
    have M05 := Lib.hid m05
    have HNA := Lib.hid hnA
    clear k5 m5 x2 xf2 hby hvu hy hnA m05
    by_cases hsm : x.c.length + m ≤ 128
    · have hd1 : decide (x.c.length + m ≤ 128) = true := by simpa using hsm
      have hd2 : decide (((x.c.length + m : Nat) : Int) ≤ 128) = true := by simp; omega
      have hd3 : decide ((x.c.length : Int) + (m : Int) ≤ 128) = true := by simp; omega
      have FIN : DinTo w D (.slice va bl.length vca) MB bl L (.returned (.tuple #[])) w5 := by
        refine ⟨rfl, by rw [← HF.out]; exact M05.out, .slice (some ⟨g, 0, none⟩) bl1.length vc1, bl1.take k ++ [y] ++ bl1.drop (k + 1), ?_, ?_, ?_, ?_⟩
        · rw [List.append_assoc]; exact HVU.out
        · rw [HL.out, ← HC1.out]
          conv => rhs; rw [HDEC.out]
          exact cells_ins (x := x) (i := i) (by rw [HY.out]; simp [cellsOf, HN.out]) HIX.out HPK.out
        · rw [← HF.out]
          refine foot_part (x := x) (v := .slice (some ⟨g, 0, none⟩) bl1.length vc1) (by rw [← HDEC.out]; exact HF1.out) (fun g hg => .inl hg) (fun z hz b hb => ?_)
          rw [List.mem_singleton.1 hz, HY.out] at hb
          rcases hb with hb | hb
          · exact .inl (.inl hb)
          · rcases HF3.out b hb with h | h
            · exact .inl (.inr h)
            · exact .inr (by omega)
        · intro z hz
          simp only [List.mem_append, List.mem_singleton] at hz
          rcases hz with (hz | rfl) | hz
          · exact HNA.out z (by simp [hz])
          · rw [HY.out]
            intro e
            have := HNL.out
            simp only at e
            rw [e] at this
            simp at this; omega
          · exact HNA.out z (by simp [hz])
      have FIN := Lib.hid FIN
      go_wp2_with fail
      exact ⟨_, results_none rfl _ _ _, FIN.out⟩
    · have hd1 : decide (x.c.length + m ≤ 128) = false := by simpa using hsm
      have hd2 : decide (((x.c.length + m : Nat) : Int) ≤ 128) = false := by simp; omega
      have hd3 : decide ((x.c.length : Int) + (m : Int) ≤ 128) = false := by simp; omega
      have b52a := ((Mod.refl none_ w5).alloc (.cells #[.slice none 0 0] 137)).cell (p := ⟨x.p, 2, none⟩) (fun e => e) b52
      have hxlt := block_lt_of_cell b52
      go_wp2_with fail
      refine (chunk_any a' (x.c.length + m) c' _).mono ?_
      rintro e w6 ⟨rfl, rfl⟩
      go_wp2_with fail
      obtain ⟨W0, hW0⟩ : ∃ W0, (((w5.alloc (.cells #[.slice none 0 0] 137)).alloc (.cells #[.slice a' (x.c.length + m) c'] 22)).alloc (.cells #[.int .i64 64] 3)) = W0 := ⟨_, rfl⟩
      obtain ⟨len, hlenE⟩ : ∃ len, len = x.c.length + m := ⟨_, rfl⟩
      obtain ⟨P9, hP9e⟩ : ∃ P9, P9 = w5.heap.size := ⟨_, rfl⟩
      have hP9 : w5.heap.size ≤ P9 := by omega
      have hz : W0.heap.size = w5.heap.size + 3 := by rw [← hW0]; simp
      have hO5 := O5.out
      have hNle := HNL.out
      rw [← hlenE] at hO5 hNle
      have HNL := Lib.hid hNle
      obtain ⟨ga, ca, hva', hca1, hca2, hga, _, _⟩ := own_form hO5 (by omega)
      cases hva'
      have hokN : ∀ c ∈ N, c.ok := by
        intro c hc
        rw [HN.out] at hc
        have hx : ∀ c ∈ x.c, c.ok := fun c hc => HOK.out c (by
          rw [← HC1.out, HDEC.out]
          simp only [cellsOf, List.mem_flatMap]
          exact ⟨x, by simp, hc⟩)
        simp only [List.mem_append] at hc
        rcases hc with (hc | hc) | hc
        · exact hx c (List.mem_of_mem_take hc)
        · exact HFOK.out c hc
        · exact hx c (List.mem_of_mem_drop hc)
      have HIC : RowKit.Hid (IsCells w5 (some ⟨ga, 0, none⟩) len c' N) := by
        rcases ownsRow_blk hO5 with ⟨e, _, _⟩ | ⟨g', cp', more, e, _, hb, _, _, _⟩
        · cases e
        · cases e
          exact Lib.hid (blkCells hb hNle hca1 hca2 hokN)
      have hI0 : PartI w5 (some ⟨ga, 0, none⟩) len c' N P9 (w5.heap.size + 1) (w5.heap.size + 1 + 1) 0 W0 := by
        have g := fun (v : World) (o : Obj) => (Mod.refl none_ v).alloc o
        have b0 := Blk.new (w := w5) (cs := [.slice none 0 0]) (t := 137)
        have b1 := Blk.new (w := w5.alloc (.cells #[.slice none 0 0] 137)) (cs := [.slice (some ⟨ga, 0, none⟩) (x.c.length + m) c']) (t := 22)
        have b2 := Blk.new (w := (w5.alloc (.cells #[.slice none 0 0] 137)).alloc (.cells #[.slice (some ⟨ga, 0, none⟩) (x.c.length + m) c'] 22)) (cs := [.int .i64 64]) (t := 3)
        simp only [World.size_alloc] at b0 b1 b2
        rw [← hW0, hP9e, hlenE]
        exact ⟨((g _ _).trans (g _ _)).trans (g _ _), b1.mod (g _ _) (fun e => e), b2, .slice none 0 0, [], (b0.mod (g _ _) (fun e => e)).mod (g _ _) (fun e => e), ⟨World.ownsRow_nil _ _ _ _, fun x hx => by simp at hx⟩, by simp, rfl, List.Pairwise.nil, by simp⟩
      rw [hW0, ← hlenE]
      rw [← hP9e] at hI0 ⊢
      clear hW0
      have hlb : len ≤ 1099511627776 := by omega
      have hl128 : 128 < len := by omega
      have hzle : w5.heap.size + 3 ≤ W0.heap.size := by omega
      have HP9E := Lib.hid hP9e
      have HLE := Lib.hid hlenE
      clear hz hP9e hlenE hNle hO5
      refine wpIn_wide.1 (?_ : Code.wpIn Fence.wide 5 _ _ _ _ _)
      refine rangeFunc_upd (fun t x => (t.setIfInBounds 64 (chunkV ga 0 len x)).setIfInBounds 10 (chunkV ga 0 len x)) rfl (by decide) (gf := 121) (lb := #[.pointer (some ⟨P9 + 1, 0, none⟩), .pointer (some ⟨P9 + 1 + 1, 0, none⟩)]) rfl trivial (enters_of Tryz.func121 (by kernel_rfl) rfl)
        (fun x : Nat => #[chunkV ga 0 len x]) (fun _ => rfl) (PartI w5 (some ⟨ga, 0, none⟩) len c' N P9 (P9 + 1) (P9 + 1 + 1)) (fun _ _ _ => False) (fun st _ => st + 64) (fun st x => x = st ∧ x < len) (fun st => len ≤ st ∧ st % 64 = 0 ∧ st < len + 64) 0 ?hI ?hIx hI0 ?hiter ?assign ?body ?done ?stop
      case hI => exact PartI.stable (by omega)
      case hIx => intro _ _ _ _ h _; exact h.elim
      case hiter =>
        intro l' J Jx W hJI hJ hY h0
        exact chunk1_any Fence.wide rfl (5 - 1) (some ⟨ga, 0, none⟩) ga 0 len c' _ _ (fun _ => rfl) hca1 (by unfold maxLen at hca2; omega) hlb _ (fun i W h => ⟨h.2.1, h.2.2.1⟩) (fun i W h => by
          obtain ⟨m0, k2, k3, v, bl, kd, ⟨ho, hb⟩, e, e2, hap⟩ := h
          exact ⟨m0.drew, k2, k3, v, bl, kd, ⟨ho, fun x hx => (hb x hx).grown (Mod.drew (Mod.refl none_ W))⟩, e, e2, hap⟩) l' J Jx W hJI hJ hY h0
      case assign =>
        intro l' x W K hK
        gi_wp2
        exact hK
      case stop =>
        rintro D c s W h
        exact h.elim
      case body =>
        rintro l' st q W hI ⟨rfl, hq⟩
        obtain ⟨m0, ks, kn, v, pl, kd, ⟨ho, hbl⟩, hfl, hbn, hap⟩ := hI
        rw [chunkV_eq]
        obtain ⟨n1, hn1⟩ : ∃ n1, n1 = min 64 (len - q) := ⟨_, rfl⟩
        rw [← hn1]
        have hm1 : 1 ≤ n1 ∧ n1 ≤ 64 ∧ q + n1 ≤ len := by omega
        have HM := Lib.hid hn1
        obtain ⟨vpa, vpc, rfl⟩ : ∃ va vc, v = .slice va pl.length vc := by
          rcases ownsRow_blk ho with ⟨rfl, h0, _⟩ | ⟨g, c', _, rfl, _⟩
          · exact ⟨none, 0, by rw [h0]⟩
          · exact ⟨_, c', rfl⟩
        have c1 : W.drew.cell? ⟨P9, 0, none⟩ = some (.slice vpa pl.length vpc) := by
          have := kd.cell 0
          exact this
        have f1 : W.drew.frozen? ⟨P9, 0, none⟩ = false := kd.frozen 0
        have HC := Lib.hid ((HIC.out.grown m0).sub q n1 hm1.2.2)
        have hnb : pl.length ≤ 1099511627776 := by omega
        have KD := Lib.hid kd
        have HO := Lib.hid ho
        have WM := Lib.hid m0
        have KS := Lib.hid ks
        have KN := Lib.hid kn
        have HBL := Lib.hid hbl
        have HFL := Lib.hid hfl
        have HAP := Lib.hid hap
        rw [Nat.zero_add] at HC ⊢
        clear hn1 kd ho m0 ks kn hbl hfl hap b52a b52 b50 hI0
        simp only [List.setIfInBounds_toArray, List.set_cons_zero, List.set_cons_succ]
        gi_wp2_with fail
        refine round_held (S := fun _ => True) (by kernel_rfl) (by kernel_rfl) (fun ⟨_, _, h⟩ => h) trivial (fun hS => ?_)
        refine wpAnyH_take (i := 1) (v := .slice (some ⟨ga, q * 5, none⟩) n1 n1) rfl (by kernel_rfl) (by kernel_rfl) (by kernel_rfl) (fun _ _ _ h => h) (Or.inl ⟨by rfl, ?_⟩) hS ?_
        · intro w' hw'; go_simp
        simp only [Act.put, List.setIfInBounds_toArray]
        refine wpAnyH_ready (rs := [0, 2]) (by kernel_rfl) (by simp) (AllReadyH.cons rfl (fun K hK => ?_) <| AllReadyH.cons rfl (fun K hK => ?_) <| AllReadyH.nil)
        · go_simp
          refine hK.out _ _ trivial (fun hS => ?_)
          clear hK K
          try simp only [Act.put, List.setIfInBounds_toArray, List.set_cons_zero, List.set_cons_succ]
          refine wpAnyH_ready (rs := [2]) (by kernel_rfl) (by simp) (AllReadyH.cons rfl (fun K hK => ?_) <| AllReadyH.nil)
          go_simp
          refine (newBlock_any _ ga (q * 5) n1 n1 _ (HC.out.grown (Mod.drew (Mod.refl none_ W))) (by omega)).mono ?_
          rintro e w3 ⟨pb, rfl, hB, m3⟩
          obtain ⟨va', vc', w4, hrun, hown, hmg, hd4⟩ := partArm (p := pb) HO.out hnb WM.out.size m3 KD.out
          have d0 := m3.cell (p := ⟨P9, 0, none⟩) (fun e => e) c1
          have d0a := ((Mod.refl none_ w3).alloc (.cells #[.pointer (some ⟨pb, 0, none⟩)] 141)).cell (p := ⟨P9, 0, none⟩) (fun e => e) d0
          have d1 : w4.cell? ⟨P9, 0, none⟩ = some (.slice vpa pl.length vpc) := hd4.cell 0
          have d2 := hd4.frozen 0
          have END := Lib.hid (partEnd hP9 HNL.out WM.out KS.out KN.out HO.out HBL.out HFL.out hbn HAP.out hq rfl m3 (by rw [← HM.out]; exact hB) hown hmg hd4)
          clear hB m3 hown hmg hd4
          dsimp only
          refine hK.out _ _ trivial (fun hS => ?_)
          clear hK K
          try simp only [Act.put, List.setIfInBounds_toArray, List.set_cons_zero, List.set_cons_succ]
          refine wpAnyH_ready (rs := [3]) (by kernel_rfl) (by simp) (AllReadyH.cons rfl (fun K hK => ?_) <| AllReadyH.nil)
          go_simp
          refine hK.out _ _ trivial (fun hS => ?_)
          clear hK K
          try simp only [Act.put, List.setIfInBounds_toArray, List.set_cons_zero, List.set_cons_succ]
          refine wpAnyH_ready (rs := [4]) (by kernel_rfl) (by simp) (AllReadyH.cons rfl (fun K hK => ?_) <| AllReadyH.nil)
          go_simp
          refine hK.out _ _ trivial (fun hS => ?_)
          clear hK K
          try simp only [Act.put, List.setIfInBounds_toArray, List.set_cons_zero, List.set_cons_succ]
          refine wpAnyH_ready (rs := [5]) (by kernel_rfl) (by simp) (AllReadyH.cons rfl (fun K hK => ?_) <| AllReadyH.nil)
          go_simp
          refine hK.out _ _ trivial (fun hS => ?_)
          clear hK K
          try simp only [Act.put, List.setIfInBounds_toArray, List.set_cons_zero, List.set_cons_succ]
          refine wpAnyH_done (by kernel_rfl) ?_ _
          exact END.out
        · go_simp
          refine (newBlock_any _ ga (q * 5) n1 n1 _ (HC.out.grown (Mod.drew (Mod.refl none_ W))) (by omega)).mono ?_
          rintro e w3 ⟨pb, rfl, hB, m3⟩
          obtain ⟨va', vc', w4, hrun, hown, hmg, hd4⟩ := partArm (p := pb) HO.out hnb WM.out.size m3 KD.out
          have d0 := m3.cell (p := ⟨P9, 0, none⟩) (fun e => e) c1
          have d0a := ((Mod.refl none_ w3).alloc (.cells #[.pointer (some ⟨pb, 0, none⟩)] 141)).cell (p := ⟨P9, 0, none⟩) (fun e => e) d0
          have d1 : w4.cell? ⟨P9, 0, none⟩ = some (.slice vpa pl.length vpc) := hd4.cell 0
          have d2 := hd4.frozen 0
          have END := Lib.hid (partEnd hP9 HNL.out WM.out KS.out KN.out HO.out HBL.out HFL.out hbn HAP.out hq rfl m3 (by rw [← HM.out]; exact hB) hown hmg hd4)
          clear hB m3 hown hmg hd4
          dsimp only
          refine hK.out _ _ trivial (fun hS => ?_)
          clear hK K
          try simp only [Act.put, List.setIfInBounds_toArray, List.set_cons_zero, List.set_cons_succ]
          refine wpAnyH_ready (rs := [0, 3]) (by kernel_rfl) (by simp) (AllReadyH.cons rfl (fun K hK => ?_) <| AllReadyH.cons rfl (fun K hK => ?_) <| AllReadyH.nil)
          · go_simp
            refine hK.out _ _ trivial (fun hS => ?_)
            clear hK K
            try simp only [Act.put, List.setIfInBounds_toArray, List.set_cons_zero, List.set_cons_succ]
            refine wpAnyH_ready (rs := [3]) (by kernel_rfl) (by simp) (AllReadyH.cons rfl (fun K hK => ?_) <| AllReadyH.nil)
            go_simp
            refine hK.out _ _ trivial (fun hS => ?_)
            clear hK K
            try simp only [Act.put, List.setIfInBounds_toArray, List.set_cons_zero, List.set_cons_succ]
            refine wpAnyH_ready (rs := [4]) (by kernel_rfl) (by simp) (AllReadyH.cons rfl (fun K hK => ?_) <| AllReadyH.nil)
            go_simp
            refine hK.out _ _ trivial (fun hS => ?_)
            clear hK K
            try simp only [Act.put, List.setIfInBounds_toArray, List.set_cons_zero, List.set_cons_succ]
            refine wpAnyH_ready (rs := [5]) (by kernel_rfl) (by simp) (AllReadyH.cons rfl (fun K hK => ?_) <| AllReadyH.nil)
            go_simp
            refine hK.out _ _ trivial (fun hS => ?_)
            clear hK K
            try simp only [Act.put, List.setIfInBounds_toArray, List.set_cons_zero, List.set_cons_succ]
            refine wpAnyH_done (by kernel_rfl) ?_ _
            exact END.out
          · go_simp
            refine hK.out _ _ trivial (fun hS => ?_)
            clear hK K
            try simp only [Act.put, List.setIfInBounds_toArray, List.set_cons_zero, List.set_cons_succ]
            refine wpAnyH_ready (rs := [0]) (by kernel_rfl) (by simp) (AllReadyH.cons rfl (fun K hK => ?_) <| AllReadyH.nil)
            go_simp
            refine hK.out _ _ trivial (fun hS => ?_)
            clear hK K
            try simp only [Act.put, List.setIfInBounds_toArray, List.set_cons_zero, List.set_cons_succ]
            refine wpAnyH_ready (rs := [4]) (by kernel_rfl) (by simp) (AllReadyH.cons rfl (fun K hK => ?_) <| AllReadyH.nil)
            go_simp
            refine hK.out _ _ trivial (fun hS => ?_)
            clear hK K
            try simp only [Act.put, List.setIfInBounds_toArray, List.set_cons_zero, List.set_cons_succ]
            refine wpAnyH_ready (rs := [5]) (by kernel_rfl) (by simp) (AllReadyH.cons rfl (fun K hK => ?_) <| AllReadyH.nil)
            go_simp
            refine hK.out _ _ trivial (fun hS => ?_)
            clear hK K
            try simp only [Act.put, List.setIfInBounds_toArray, List.set_cons_zero, List.set_cons_succ]
            refine wpAnyH_done (by kernel_rfl) ?_ _
            exact END.out
      case done =>
        rintro Df st W ⟨hs1, hs2, hs3⟩ ⟨m0, ks, kn, vp, pl, kd, hdb, hfl, hbn, hap⟩ hDf hlt
        have hflN : pl.flatMap Prod.snd = N := by rw [hfl]; exact List.take_of_length_le (by rw [HNL.out]; exact hs1)
        obtain ⟨bv, hbe, hbv, hbp⟩ := exists_bv pl hdb.2 hap.1
        have hpl : pl.length = bv.length := by rw [← hbe, List.length_map]
        have hvp : ∃ gp cp more, vp = .slice (some ⟨gp, 0, none⟩) pl.length cp ∧ Blk W gp (ptrsOf bv ++ more) 141 ∧ w5.heap.size ≤ gp := by
          have hh := hdb.1
          rw [← hbe, List.map_map] at hh
          rcases ownsRow_blk hh with ⟨_, h0, _⟩ | ⟨gp, cp, more, e, hg, hb, _⟩
          · rw [List.length_map] at h0; omega
          · exact ⟨gp, cp, more, by rw [e, hpl, List.length_map], hb, hg⟩
        obtain ⟨gp, cp, more, rfl, hbp2, hgp⟩ := hvp
        have hvW := HVU.out.grown m0
        have hgl : g < w5.heap.size := (HVU.out.ptrs.lt g rfl).2
        have hnb : bl1.length = (bl1.take k ++ y :: bl1.drop (k + 1)).length := by
          simp only [List.length_append, List.length_cons, List.length_take, List.length_drop]; omega
        obtain ⟨T, hT⟩ : ∃ T, T = k + pl.length + (bl1.length - (k + 1)) := ⟨_, rfl⟩
        have hpt : (ptrsOf (bl1.take k ++ y :: bl1.drop (k + 1))).take k ++ ptrsOf bv ++ (ptrsOf (bl1.take k ++ y :: bl1.drop (k + 1))).drop (k + 1) = ptrsOf (bl1.take k ++ bv ++ bl1.drop (k + 1)) := by
          have e1 : (bl1.take k).length = k := by rw [List.length_take]; omega
          unfold ptrsOf
          rw [← List.map_take, ← List.map_drop, ← List.map_append, ← List.map_append]
          congr 1
          rw [List.take_append_of_le_length (by omega), List.take_of_length_le (by omega)]
          rw [show bl1.take k ++ y :: bl1.drop (k + 1) = (bl1.take k ++ [y]) ++ bl1.drop (k + 1) by simp]
          have e2 : (bl1.take k ++ [y]).length = k + 1 := by simp; omega
          have e3 := List.drop_left (l₁ := bl1.take k ++ [y]) (l₂ := bl1.drop (k + 1))
          rw [e2] at e3
          rw [e3]
        have hrep := rep_any W.drew g vc1 bl1.length k pl.length gp cp T (ptrsOf (bl1.take k ++ y :: bl1.drop (k + 1))) (ptrsOf bv) more (by have := hvW.ptrs; rw [← hnb] at this; exact this) hkl hbp2.drew (by omega) (by rw [List.length_map, hpl]) (by omega) hT (by omega) (ptr_one _ _) (ptr_one _ _)
        rw [hpt] at hrep
        have hne2 : ∀ z ∈ bv, z.c ≠ [] := fun z hz => hap.2 (z.p, z.c) (by rw [← hbe]; exact List.mem_map.2 ⟨z, hz, rfl⟩)
        have hcb : cellsOf bv = N := by rw [← hflN, ← hbe, List.flatMap_map]
        have kdc : W.cell? ⟨P9, 0, none⟩ = some (.slice (some ⟨gp, 0, none⟩) pl.length cp) := kd.cell 0
        have dc : W.cell? ⟨D, 0, none⟩ = some (.slice (some ⟨g, 0, none⟩) bl1.length vc1) := hvW.doc.cell 0
        have hfin : Calls Tryz.prog 120 #[.slice (some ⟨g, 0, none⟩) bl1.length vc1, .int .i64 (k : Int), .int .i64 ((k : Int) + 1), .slice (some ⟨gp, 0, none⟩) pl.length cp] W.drew fun e w9 => ∃ a9 c9, e = .returned (.slice a9 T c9) ∧ w9.cell? ⟨D, 0, none⟩ = some (.slice (some ⟨g, 0, none⟩) bl1.length vc1) ∧ w9.frozen? ⟨D, 0, none⟩ = false ∧
            RowKit.Hid ((w9.setCell ⟨D, 0, none⟩ (.slice a9 T c9)).heap[Df]? = some (.deferred (some [])) ∧ DinTo w D (.slice va bl.length vca) MB bl L (.returned (.tuple #[])) ((w9.setCell ⟨D, 0, none⟩ (.slice a9 T c9)).putObj Df (.deferred none))) := by
          refine hrep.mono ?_
          rintro e w9 ⟨v9, rfl, ho9, m9, hf9⟩
          obtain ⟨a9, c9, rfl⟩ : ∃ a9 c9, v9 = .slice a9 T c9 := by
            rcases ownsRow_blk ho9 with ⟨_, e, _⟩ | ⟨_, _, _, e, _⟩
            · omega
            · exact ⟨_, _, e⟩
          have m9' : Mod (fun b => (Value.slice (some ⟨g, 0, none⟩) bl1.length vc1).ownBlock = some b) W w9 := ((Mod.refl _ W).drew).trans m9
          have hd9 := hvW.doc.mod m9' (fun e => by obtain ⟨cs, hc⟩ := ownsRow_type hvW.ptrs e; exact Blk.apart hvW.doc hc (by decide) rfl)
          obtain ⟨dv, md⟩ := DocV.rep HVU.out m0 hbv hbp m9' ho9
          have hsz5 : w.heap.size ≤ w5.heap.size := M05.out.size
          have hDfne : ∀ b, ((Value.slice (some ⟨g, 0, none⟩) bl1.length vc1).ownBlock = some b ∨ b = D) → b ≠ Df := by
            rintro b (e | rfl) rfl
            · obtain ⟨cs, hc⟩ := ownsRow_type hvW.ptrs e
              unfold Blk at hc
              rw [hDf] at hc; cases hc
            · have hc := hvW.doc
              unfold Blk at hc
              rw [hDf] at hc; cases hc
          have hdf10 : (w9.setCell ⟨D, 0, none⟩ (.slice a9 T c9)).heap[Df]? = some (.deferred (some [])) := md.blk (fun e => hDfne _ e rfl) hDf
          have mP := loopOwn_put (B := W0.heap.size) (.deferred none) hlt hdf10 rfl
          refine ⟨a9, c9, rfl, hd9.cell 0, hd9.frozen 0, Lib.hid ⟨hdf10, rfl, ?_, .slice a9 T c9, _, dv.own mP, ?_, ?_, ?_⟩⟩
          · rw [← HF.out]
            refine ((M05.out.trans (m0.mono (fun _ _ e => e.elim))).transIn md (fun b hb e => ?_)).transIn mP (fun b hb e => ?_)
            · rcases e with e | rfl
              · rcases HF1.out b (.inr (.inl e)) with h | h
                · exact h
                · omega
              · rcases HF1.out _ (.inl rfl) with h | h
                · exact h
                · omega
            · have := e.1
              omega
          · rw [HL.out, ← HC1.out]
            conv => rhs; rw [HDEC.out]
            exact cells_ins (x := x) (i := i) (by rw [hcb, HN.out]) HIX.out HPK.out
          · rw [← HF.out]
            refine foot_part (x := x) (v := .slice (some ⟨g, 0, none⟩) bl1.length vc1) (by rw [← HDEC.out]; exact HF1.out) (fun b hb => ?_) (fun z hz b hb => ?_)
            · rcases hf9 b hb with h | h
              · exact .inl h
              · have := m0.size
                have e : W.drew.heap.size = W.heap.size := rfl
                exact .inr (by omega)
            · obtain ⟨_, h1, h2⟩ := hbv z hz
              rcases hb with rfl | hb
              · exact .inr (by omega)
              · have := h2 b hb
                exact .inr (by omega)
          · intro z hz
            simp only [List.mem_append] at hz
            rcases hz with (hz | hz) | hz
            · exact HNA.out z (by simp [hz])
            · exact hne2 z hz
            · exact HNA.out z (by simp [hz])
        have HREP := Lib.hid hfin
        have hPk : IntKind.i64.wrap ((k : Int) + 1) = (k : Int) + 1 := by rw [IntKind.wrap_i64]; omega
        have HPL := Lib.hid hpl
        clear hfin hpl hflN hbe hbv hbp hvW hbp2 hnb hT hpt hrep hne2 hcb m0 ks kn kd hdb hfl hap hDf hI0 b50 b52 b52a hd1 hd2 hd3
        go_wp2_with fail
        go_region_law (go_simp; go_at_call 120; refine HREP.out.mono ?_; rintro e w9 ⟨a9, c9, rfl, z0, z1, RES⟩)
        all_goals go_wp2_with fail
        all_goals refine ⟨by simp, .inl ⟨_, _, rfl, run_takeDeferred RES.out.1, ?_⟩⟩
        all_goals exact ⟨_, results_none rfl _ _ _, RES.out.2⟩
end Go.Proofs.YtjgjjlolhdlofaaGreatDoor

namespace Go.Proofs.YtjgjjlolhdlofaaGreatDoor
open Go.RowKit Go.Shelf Go.Mine

theorem decodeGo_tl (s : ByteArray) (pos : Nat) (h : pos < s.size) : Lib.decodeGo (tl s pos) = Utf8.decode s pos := by
  have hx : (s.extract pos s.size).data.toList = s.data.toList.drop pos := by
    rw [Lib.extract_data, List.take_of_length_le (by rw [List.length_drop, ← Lib.size_eq]; omega)]
  have hsz : (s.extract pos s.size).size ≠ 0 := by rw [Lib.size_eq, hx, List.length_drop, ← Lib.size_eq]; omega
  unfold Lib.decodeGo tl
  rw [if_neg hsz, ← Lib.decodeL_drop s pos, ← hx]
  rfl

theorem rmay_text (s : ByteArray) (w : World) (ht : txtOk w s) (hsz : s.size < 4611686018427387904) : Calls Tryz.prog 72 #[.string s] w fun e w' => e = .returned (.bool (decide (0 ≤ ulen s))) ∧ Mod none_ w w' := by
  go_enter Tryz.func72, Tryz.ntmps72
  go_wp2_with fail
  refine (len_any s w ht hsz).mono ?_
  rintro e w1 ⟨rfl, m1⟩
  go_wp2_with fail
  go_ret
  exact ⟨rfl, m1⟩

theorem ulen_none {s : ByteArray} (h : runesOf s = none) : ulen s = -1 := by unfold ulen; rw [h]
theorem ulen_some {s : ByteArray} {rs : List Nat} (h : runesOf s = some rs) : ulen s = rs.length := by unfold ulen; rw [h]
abbrev runeCs (rs : List Nat) : List Value := rs.map fun r : Nat => Value.int .i32 (r : Int)
theorem infoI32 : (Tryz.prog.info? 21).map (fun i => (i.zero, i.size, i.bytes)) = some (some (.int .i32 0), 1, 4) := by kernel_rfl

/-- What Split leaves. -/
def SplitTo (w : World) (R : Option (List Nat)) (e : Ending) (w' : World) : Prop := Mod none_ w w' ∧ (R = none → e = .returned (.tuple #[.slice none 0 0, .int .i64 2])) ∧ ∀ rs, R = some rs → ∃ v, e = .returned (.tuple #[v, .int .i64 0]) ∧ w'.ownsRow w.heap.size 21 1 v rs.length (runeCs rs)
set_option maxHeartbeats 2000000 in
set_option maxRecDepth 1000000 in
theorem split_any (s : ByteArray) (w : World) (ht : txtOk w s) (hsz : s.size ≤ 1099511627776) :
    Calls Tryz.prog 71 #[.string s] w (SplitTo w (runesOf s)) := by
  have HM := Lib.hid (rmay_text s w ht (by omega))
  obtain ⟨i0, hi0, hz0, hz1, hz2⟩ := info_parts infoI32
  have HMK := fun (W : World) (hB : w.heap.size ≤ W.heap.size) => run_make_own (P := Tryz.prog) W w.heap.size 91 21 i0 (.int .i32 0) 1 Tryz.underlying91 hi0 hz0 hz1 .i64 .i64 s.size (by rw [hz2]; omega) (by unfold maxLen; omega) hB
  have HMK := Lib.hid HMK
  have HI0 := Lib.hid hi0
  have HZ0 := Lib.hid hz0
  have HZ1 := Lib.hid hz1
  have HZ2 := Lib.hid hz2
  obtain ⟨R, hR⟩ : ∃ R, R = runesOf s := ⟨_, rfl⟩
  rw [← hR]
  have HR := Lib.hid hR
  clear hi0 hz0 hz1 hz2 ht hR
  go_enter Tryz.func71, Tryz.ntmps71
  go_wp2_with fail
  refine HM.out.mono ?_
  rintro e w1 ⟨rfl, m1⟩
  cases R with
  | none =>
    have hu := ulen_none HR.out.symm
    have hd : decide (0 ≤ ulen s) = false := by rw [hu]; rfl
    rw [hd]
    have M1 := Lib.hid m1
    clear hu m1
    go_wp2_with fail
    go_ret2
    exact ⟨M1.out, fun _ => rfl, fun rs h => by cases h⟩
  | some rs =>
    have hu := ulen_some HR.out.symm
    have hd : decide (0 ≤ ulen s) = true := by rw [hu]; simp
    rw [hd]
    obtain ⟨w2, hrun, hown, hgrow⟩ := HMK.out w1 m1.size
    have m2 := m1.grown hgrow (fun k e => by cases e)
    have M2 := Lib.hid m2
    have O2 := Lib.hid hown
    clear hu m1 hd hown hgrow
    go_wp2_with fail
    obtain ⟨K, hK⟩ : ∃ K, K = w2.heap.size := ⟨_, rfl⟩
    have hkw : w.heap.size ≤ K := by rw [hK]; exact M2.out.size
    have mi := M2.out.alloc (.stringIter s 0)
    have hit : (w2.iter s 0).heap[K]? = some (.stringIter s 0) := by rw [hK]; exact World.alloc_heap_new w2 _
    have oi : (w2.iter s 0).ownsRow w.heap.size 21 1 (.slice (some ⟨w1.heap.size, 0, none⟩) 0 s.size) ([] : List Nat).length (runeCs []) := (by simpa using O2.out : w2.ownsRow w.heap.size 21 1 (.slice (some ⟨w1.heap.size, 0, none⟩) 0 s.size) 0 []).alloc _
    have HS := Lib.hid (show 0 ≤ s.size ∧ ∃ rest, rs = [] ++ rest ∧ runesOf (tl s 0) = some rest from ⟨by omega, rs, rfl, by
      have : tl s 0 = s := by unfold tl; simp
      rw [this]; exact HR.out.symm⟩)
    have mi' : Mod none_ w (w2.iter s 0) := mi
    rw [← hK]
    generalize w2.iter s 0 = w3 at mi' hit oi ⊢
    clear hK mi M2 O2
    go_loopg [4] (s.size + 1) (fun g s4 wx => ∃ (pos : Nat) (pre : List Nat), g = s.size + 1 - pos ∧ Mod none_ w wx ∧ wx.heap[K]? = some (.stringIter s pos) ∧ pre.length ≤ pos ∧ wx.ownsRow w.heap.size 21 1 s4 pre.length (runeCs pre) ∧ RowKit.Hid (pos ≤ s.size ∧ ∃ rest, rs = pre ++ rest ∧ runesOf (tl s pos) = some rest))
    case atStart => exact ⟨0, [], rfl, mi', hit, Nat.zero_le _, oi, HS⟩
    case round =>
      obtain ⟨pos, pre, rfl, mx, hix, hpl, ox, hst⟩ := hrel
      obtain ⟨hps, rest, hrs, hrt⟩ := hst.out
      have MX := Lib.hid mx
      have OX := Lib.hid ox
      have HIX := Lib.hid hix
      by_cases hlt : pos < s.size
      · have hnx := fun ty => Lib.run_next_any_at (P := Tryz.prog) wr K s pos ty hix hlt
        have hdg := decodeGo_tl s pos hlt
        have h0 : (tl s pos).size ≠ 0 := by rw [tl_size]; omega
        have hbad : ¬ bad1 (tl s pos) := fun hb => by rw [runesOf_bad h0 hb] at hrt; cases hrt
        rw [runesOf_step h0 hbad, tl_tl, hdg] at hrt
        have hdp := decodeGo_pos h0
        rw [hdg, tl_size] at hdp
        have hty : ((Utf8.decode s pos).1 : Int) = (Utf8.decode s pos).1 := rfl
        generalize Utf8.decode s pos = d at hnx hrt hdp
        obtain ⟨r, nb⟩ := d
        dsimp only at hnx hrt hdp
        obtain ⟨rest', hr1, hr2⟩ := Option.map_eq_some_iff.1 hrt
        have m4 : Mod none_ w (wr.iterAt K s (pos + nb)) := ⟨mx.os, mx.tape, mx.output, by rw [Lib.iterAt_size]; exact mx.size, fun k hk _ => by rw [Lib.iterAt_other _ _ _ _ _ (by omega)]; exact mx.block k hk (fun e => e)⟩
        have h4 := Lib.iterAt_heap wr K s pos (pos + nb) hix
        have mK : Mod (one K) wr (wr.iterAt K s (pos + nb)) := ⟨rfl, rfl, rfl, by rw [Lib.iterAt_size]; exact Nat.le_refl _, fun k hk e => Lib.iterAt_other _ _ _ _ _ e⟩
        have o4 := ownsRow_mod ox mK (fun k hk e => by
          have e' : k = K := e
          subst e'
          obtain ⟨cs, hb⟩ := ownsRow_type ox hk
          unfold Blk at hb
          rw [hix] at hb; cases hb)
        have M4 := Lib.hid m4
        have H4 := Lib.hid h4
        have O4 := Lib.hid o4
        have HST := Lib.hid (show pos + nb ≤ s.size ∧ ∃ rest, rs = (pre ++ [r]) ++ rest ∧ runesOf (tl s (pos + nb)) = some rest from ⟨by omega, rest', by rw [hrs, ← hr2]; simp, hr1⟩)
        have hsz4 := m4.size
        clear mK hst hrs hrt hr1 hr2 mx hix ox hdg h0 hbad m4 h4 o4 hty
        generalize wr.iterAt K s (pos + nb) = w4 at hnx M4 H4 O4 hsz4
        go_wp2_with (at_builtin; refine wpList_append_own _ rfl (.tmp 18) (.tmp 20) 91 rfl w.heap.size 21 i0 _ 1 4 Tryz.underlying91 HI0.out HZ0.out HZ1.out HZ2.out rfl (by decide) _ _ _ rfl (O4.out.alloc _) ⟨w4.heap.size, 0, none⟩ 1 1 [.int .i32 (r : Int)] rfl rfl (World.news_of_block (heap_alloc_new w4 _)) (fun u hu => by rw [List.mem_singleton.1 hu]; rfl) (by unfold maxLen; omega) (by omega) (by rw [World.size_alloc]; omega) ?_; intro v' w5 ho5 hg5 _; have H5 := Lib.hid (show w5.heap[K]? = some (.stringIter s (pos + nb)) by (have hlt4 := lt_of_block H4.out; rw [hg5.block K (by rw [World.size_alloc]; omega) (fun e => by (obtain ⟨cs, hb⟩ := ownsRow_type O4.out e.symm; unfold Blk at hb; rw [H4.out] at hb; cases hb))]; rw [Below.heap_alloc _ _ _ hlt4]; exact H4.out)); have M5 := Lib.hid ((M4.out.alloc (.cells #[.int .i32 (r : Int)] 21)).grown hg5 (fun j e hj => absurd hj (by have := (O4.out.lt j e).1; omega))); have O5 := Lib.hid ho5; clear ho5 hg5)
        go_roundg (s.size + 1 - (pos + nb))
        case measure => omega
        case rel =>
          refine ⟨pos + nb, pre ++ [r], rfl, M5.out, H5.out, by simp; omega, ?_, HST⟩
          have := O5.out
          simpa using this
      · obtain rfl : pos = s.size := by omega
        have hnx := fun ty => Lib.run_next_end_at (P := Tryz.prog) wr K s s.size ty hix (by omega)
        have hr0 : rest = [] := by
          have h0 : (tl s s.size).size = 0 := by rw [tl_size]; omega
          rw [runesOf_nil h0] at hrt
          exact (Option.some.inj hrt).symm
        have HRS := Lib.hid (show rs = pre by rw [hrs, hr0]; simp)
        clear hst hrs hrt hr0 mx hix ox
        go_wp2_with fail
        go_ret2
        exact ⟨MX.out, (fun h => nomatch h), fun rs' h => by obtain rfl := Option.some.inj h; rw [HRS.out]; exact ⟨_, rfl, OX.out⟩⟩
end Go.Proofs.YtjgjjlolhdlofaaGreatDoor

namespace Go.Proofs.YtjgjjlolhdlofaaGreatDoor
open Go.RowKit Go.Mine Go.Maps
open Classical

theorem cnt_replicate (q : Nat) (x y : Value) : cnt (List.replicate q x) y = if x = y then q else 0 := by
  induction q with
  | zero => simp [cnt]
  | succ q ih =>
    rw [List.replicate_succ', cnt_append, ih, cnt_one]
    by_cases h : x = y <;> simp [h]
variable {P : Program} {k t e : TypeId} {w : World} {b : Nat} {ks : List Value}
/-- 'm[x]', of a name. -/
theorem Names.at_ (h : Names P k w b ks) (K : Keyed P k) (ht : P.underlying t = some (.map k e)) (hz : ∀ w, (zeroValue e).run P w = .ok (.int .i64 0) w) {x : Value} (hx : isKey P k x) :
    (Instr.lookup t (.map (some b)) x false).run P w = .ok (.int .i64 (cnt ks x : Int)) w := by
  obtain ⟨m, n, hm, hmem, hval⟩ := h
  have h1 := hm.lookup K ht (hz w) hx false
  rw [if_neg (by simp)] at h1
  rw [h1]
  cases hmx : m x with
  | none => rw [cnt_zero.2 (fun h => (hmem x).2 h hmx)]; rfl
  | some v => rw [hval x v hmx]; rfl
/-- 'm[x] = q', x new. -/
theorem Names.many (h : Names P k w b ks) (K : Keyed P k) (ht : P.underlying t = some (.map k e)) {x : Value} (hx : isKey P k x) (hn : x ∉ ks) (q : Nat) (hq : 0 < q) :
    ∃ w', (Instr.mapUpdate t (.map (some b)) x (.int .i64 (q : Int))).run P w = .ok () w' ∧ Mod (one b) w w' ∧ Names P k w' b (ks ++ List.replicate q x) := by
  obtain ⟨m, n, hm, hmem, hval⟩ := h
  obtain ⟨w', h1, h2, M⟩ := hm.update (v := .int .i64 (q : Int)) K ht hx
  refine ⟨w', h1, M, _, _, h2, fun y => ?_, fun y v hy => ?_⟩
  · by_cases hyx : y = x
    · subst hyx
      rw [putM_same, List.mem_append]
      simp; omega
    · rw [putM_other hyx, hmem y, List.mem_append]
      exact ⟨.inl, fun h => h.elim id (fun e => absurd (List.eq_of_mem_replicate e) hyx)⟩
  · rw [cnt_append, cnt_replicate]
    by_cases hyx : y = x
    · subst hyx
      rw [putM_same] at hy
      cases hy
      rw [if_pos rfl, cnt_zero.2 hn, Nat.zero_add]
    · rw [putM_other hyx] at hy
      rw [if_neg (fun e => hyx e.symm), Nat.add_zero]
      exact hval y v hy
end Go.Proofs.YtjgjjlolhdlofaaGreatDoor

namespace Go.Proofs.YtjgjjlolhdlofaaGreatDoor
open Go.RowKit Go.Shelf Go.Mine Go.Maps
open Classical

theorem DocV.flt {w : World} {D MB : Nat} {v : Value} {bl : List BV} (hv : DocV w D v MB bl) {k : Nat} (hk : foot D v bl k) : k < w.heap.size := by
  rcases hk with rfl | hk | ⟨x, hx, rfl | hk⟩
  · exact hv.doc.lt
  · exact (hv.ptrs.lt k hk).2
  · exact (hv.blk x hx).b.lt
  · exact ((hv.blk x hx).o.lt k hk).2
/-- The name of an operation. -/
abbrev OpV.name (o : OpV) : Value := .agg #[.int .i64 o.site, .int .i64 o.seq]
/-- The cells that an insertion brings. -/
def freshC (o : OpV) (rs : List Nat) : List CellV := rs.mapIdx fun (i r : Nat) => ⟨o.site, o.seq, (i : Int), (r : Int), false⟩
def runesD (s : ByteArray) : List Nat := (runesOf s).getD []
theorem runes_le : ∀ (n : Nat) (t : ByteArray), t.size ≤ n → ∀ rs, runesOf t = some rs → ∀ r ∈ rs, r ≤ 1114111
  | 0, t, h, rs, hr, r, hm => by
    rw [runesOf_nil (by omega)] at hr
    cases hr; cases hm
  | n + 1, t, h, rs, hr, r, hm => by
    by_cases h0 : t.size = 0
    · rw [runesOf_nil h0] at hr
      cases hr; cases hm
    · by_cases hb : bad1 t
      · rw [runesOf_bad h0 hb] at hr; cases hr
      · rw [runesOf_step h0 hb] at hr
        obtain ⟨rest, hr1, rfl⟩ := Option.map_eq_some_iff.1 hr
        have hp := decodeGo_pos h0
        have ht0 : tl t 0 = t := by unfold tl; simp
        have hd : Lib.decodeGo t = Utf8.decode t 0 := by
          have := decodeGo_tl t 0 (by omega)
          rwa [ht0] at this
        rcases List.mem_cons.1 hm with rfl | hm
        · rw [hd]; exact Lib.rune_le t 0
        · exact runes_le n _ (by rw [tl_size]; omega) rest hr1 r hm
theorem cell_lt {w : World} {b j : Nat} {v : Value} (h : w.cell? ⟨b, j, none⟩ = some v) : b < w.heap.size := by
  unfold World.cell? at h
  by_cases hb : b < w.heap.size
  · exact hb
  · rw [Array.getElem?_eq_none (by show w.heap.size ≤ b; omega)] at h
    simp at h
theorem freshC_len (o : OpV) (rs : List Nat) : (freshC o rs).length = rs.length := by unfold freshC; simp
theorem freshC_get (o : OpV) (rs : List Nat) (k : Nat) (r : Nat) (h : rs[k]? = some r) : (freshC o rs)[k]? = some ⟨o.site, o.seq, (k : Int), (r : Int), false⟩ := by
  unfold freshC
  rw [List.getElem?_mapIdx, h]; rfl
theorem freshC_ok (o : OpV) (rs : List Nat) (hs : -9223372036854775808 ≤ o.site ∧ o.site ≤ 9223372036854775807) (hq : -9223372036854775808 ≤ o.seq ∧ o.seq ≤ 9223372036854775807) (hl : rs.length ≤ 200) (hr : ∀ r ∈ rs, r ≤ 1114111) : ∀ c ∈ freshC o rs, c.ok := by
  intro c hc
  obtain ⟨i, hi⟩ := List.getElem?_of_mem hc
  have hlt := (List.getElem?_eq_some_iff.1 hi).1
  rw [freshC_len] at hlt
  rw [freshC_get o rs i rs[i] (List.getElem?_eq_getElem hlt)] at hi
  obtain rfl := Option.some.inj hi
  have := hr rs[i] (List.getElem_mem hlt)
  exact ⟨hs, hq, ⟨by simp only; omega, by simp only; omega⟩, ⟨by simp only; omega, by simp only; omega⟩⟩
theorem freshC_names (o : OpV) (rs : List Nat) : (freshC o rs).map CellV.name = List.replicate rs.length o.name := by
  apply List.ext_getElem (by simp [freshC_len])
  intro i h1 h2
  simp [freshC]
def zeroC : CellV := ⟨0, 0, 0, 0, false⟩
/-- The row while it is filled. -/
def halfC (o : OpV) (rs : List Nat) (k : Nat) : List CellV := (freshC o rs).take k ++ List.replicate (rs.length - k) zeroC
theorem halfC_len (o : OpV) (rs : List Nat) (k : Nat) (h : k ≤ rs.length) : (halfC o rs k).length = rs.length := by unfold halfC; simp [freshC_len]; omega
theorem halfC_all (o : OpV) (rs : List Nat) : halfC o rs rs.length = freshC o rs := by
  unfold halfC
  rw [Nat.sub_self, List.take_of_length_le (by rw [freshC_len]; omega)]; simp
theorem halfC_succ (o : OpV) (rs : List Nat) (k r : Nat) (h : rs[k]? = some r) : (halfC o rs k).set k ⟨o.site, o.seq, (k : Int), (r : Int), false⟩ = halfC o rs (k + 1) := by
  have hlt := (List.getElem?_eq_some_iff.1 h).1
  unfold halfC
  rw [List.set_append_right _ _ (by rw [List.length_take]; omega), List.length_take, freshC_len, show k - min k rs.length = 0 by omega]
  obtain ⟨m, hm⟩ : ∃ m, rs.length - k = m + 1 := ⟨rs.length - k - 1, by omega⟩
  rw [hm, List.replicate_succ, List.set_cons_zero, show rs.length - (k + 1) = m by omega, List.take_add_one, freshC_get o rs k r h]
  simp
theorem made_flat (n : Nat) : (madeCells (Value.agg #[.int .i64 0, .int .i64 0, .int .i64 0, .int .i32 0, .bool false]).cells (n * 5)).toList = flat CellV.cs (List.replicate n zeroC) := by
  apply List.ext_getElem?
  intro j
  by_cases hj : j < n * 5
  · have h1 : j = j / 5 * 5 + j % 5 := by omega
    have h2 : (List.replicate n zeroC)[j / 5]? = some zeroC := by rw [List.getElem?_replicate, if_pos (by omega)]
    have h3 := flat_get CellV.len (List.replicate n zeroC) (j / 5) (j % 5) zeroC h2 (by omega)
    rw [← h1] at h3
    rw [h3]
    have hm : j % 5 < 5 := by omega
    simp only [madeCells, Value.cells, Array.toList_map, Array.toList_range, List.getElem?_map, List.getElem?_range hj, Option.map_some, List.size_toArray, List.length_cons, List.length_nil, Nat.zero_add, Nat.reduceAdd, zeroC]
    have : j % 5 = 0 ∨ j % 5 = 1 ∨ j % 5 = 2 ∨ j % 5 = 3 ∨ j % 5 = 4 := by omega
    rcases this with e | e | e | e | e <;> rw [e] <;> rfl
  · rw [List.getElem?_eq_none (by simp [madeCells]; omega), List.getElem?_eq_none (by rw [flat_length CellV.len, List.length_replicate]; omega)]
theorem st_cellW (ρ : Operand → Value) (dst : Option Tmp) (x y : Operand) (ty : TypeId) (pos : String) (after : Array Edge) (guard : Option (Nat × Bool)) :
    execOp ρ { dst, op := .store 53 x y, type := ty, pos, after, guard } = (do stRow 53 (ρ x) (ρ y); pure .skip) := rfl
theorem cellSize : (Tryz.prog.info? 53).map (·.size) = some 5 := by kernel_rfl
theorem run_st_cellW (w : World) (g o : Nat) (a b c d : Int) (e : Bool) (h : w.there g o 5) : (stRow 53 (.pointer (some ⟨g, o, none⟩)) (.agg #[.int .i64 a, .int .i64 b, .int .i64 c, .int .i32 d, .bool e])).run Tryz.prog w = .ok () (w.setCells g o [.int .i64 a, .int .i64 b, .int .i64 c, .int .i32 d, .bool e]) :=
  run_stRow cellSize w g o _ rfl (CellV.ones ⟨a, b, c, d, e⟩) h
attribute [local go_sem ↓] st_cellW
attribute [local go_sem] run_st_cellW World.there_drew setCells_drew
/-- Do's answer, and what it leaves. -/
noncomputable def doE (o : OpV) (sp : List (Int × Int)) (l : List CellV) : Int := if opMay o sp l.length = true then (if o.kind = 2 then 0 else if o.name ∈ l.map CellV.name then 15 else 0) else 1
noncomputable def doL (o : OpV) (sp : List (Int × Int)) (l : List CellV) : List CellV := if opMay o sp l.length = true then (if o.kind = 2 then markS sp 0 l else if o.name ∈ l.map CellV.name then l else l.take o.at_.toNat ++ freshC o (runesD o.text) ++ l.drop o.at_.toNat) else l
def DoTo (w : World) (S : Nat → Prop) (D : Nat) (l : List CellV) (er : Int) (e : Ending) (w' : World) : Prop := e = .returned (.int .i64 er) ∧ Mod S w w' ∧ DocS w' (grew S w w') D l

theorem markBl_ne (l : List (Int × Int)) : ∀ (bl : List BV) (p : Nat), (∀ x ∈ bl, x.c ≠ []) → ∀ x ∈ markBl l p bl, x.c ≠ []
  | [], _, _, x, hx => by cases hx
  | y :: r, p, h, x, hx => by
    rw [markBl] at hx
    rcases List.mem_cons.1 hx with rfl | hx
    · intro e
      have := markS_len l p y.c
      have h2 := h y (by simp)
      simp only at e
      rw [e] at this
      exact h2 (List.eq_nil_of_length_eq_zero this.symm)
    · exact markBl_ne l r _ (fun z hz => h z (List.mem_cons_of_mem _ hz)) x hx
/-- A document that was marked. -/
theorem DocS.marked {w w1 w2 : World} {S : Nat → Prop} {D MB : Nat} {v : Value} {bl : List BV} {sp : List (Int × Int)} {l : List CellV} (m1 : Mod none_ w w1) (hv : DocV w1 D v MB bl) (hn : Names Tryz.prog 42 w1 MB (l.map CellV.name)) (hl : cellsOf bl = l) (hf : ∀ k, foot D v bl k → S k) (hmb : S MB) (hne : ∀ x ∈ bl, x.c ≠ [])
    (m2 : Mod (foot D v bl) w1 w2) (hv2 : DocV w2 D v MB (markBl sp 0 bl)) : DoTo w S D (markS sp 0 l) 0 (.returned (.int .i64 0)) w2 := by
  refine ⟨rfl, (m1.mono (fun _ _ e => e.elim)).trans (m2.mono (fun k _ hk => hf k hk)), v, MB, markBl sp 0 bl, hv2, ?_, by rw [markBl_cells, hl], fun k hk => .inl (hf k ((foot_congr (markBl_foot sp bl 0) k).1 hk)), .inl hmb, markBl_ne sp bl 0 hne⟩
  have := hn.mod m2 (foot_names hv hn)
  unfold markS
  rw [markP_names]; exact this

theorem do_put {w wr w7 w8 : World} {S : Nat → Prop} {D MB p k : Nat} {v v' : Value} {bl bl' : List BV} {l : List CellV} {o : OpV} {rs : List Nat} (mw : Mod none_ w wr) (hf : ∀ k, foot D v bl k → S k) (hmb : S MB) (hl : cellsOf bl = l)
    (m7 : Mod (foot D v bl) wr w7) (hv7 : DocV w7 D v' MB bl') (hn7 : Names Tryz.prog 42 w7 MB (l.map CellV.name)) (hl7 : cellsOf bl' = (cellsOf bl).take p ++ freshC o rs ++ (cellsOf bl).drop p) (hf7 : ∀ k, foot D v' bl' k → foot D v bl k ∨ wr.heap.size ≤ k) (hne7 : ∀ x ∈ bl', x.c ≠ [])
    (m8 : Mod (one MB) w7.drew w8) (hn8 : Names Tryz.prog 42 w8 MB (l.map CellV.name ++ List.replicate k o.name)) (hk : k = rs.length) : DoTo w S D (l.take p ++ freshC o rs ++ l.drop p) 0 (.returned (.int .i64 0)) w8 := by
  have m8' : Mod (one MB) w7 w8 := ((Mod.refl (one MB) w7).drew).trans m8
  have hv8 := hv7.mod m8' (fun k hk e => by
    have e' : k = MB := e
    subst e'
    exact foot_names hv7 hn7 hk)
  refine ⟨rfl, ((mw.mono (fun _ _ e => e.elim)).trans (m7.mono (fun k _ hk => hf k hk))).trans (m8'.mono (fun k _ e => by have e' : k = MB := e; rw [e']; exact hmb)), v', MB, bl', hv8, ?_, by rw [hl7, hl], fun k hk => ?_, .inl hmb, hne7⟩
  · refine hn8.perm ?_
    rw [List.map_append, List.map_append, freshC_names, ← hk]
    conv => lhs; rw [← List.take_append_drop p l, List.map_append]
    rw [List.append_assoc, List.append_assoc]
    exact (List.perm_append_comm).append_left _
  · rcases hf7 k hk with h | h
    · exact .inl (hf k h)
    · exact .inr ⟨Nat.le_trans mw.size h, hv8.flt hk⟩

set_option maxHeartbeats 4000000 in
set_option maxRecDepth 1000000 in
theorem do_any (w : World) (S : Nat → Prop) (D : Nat) (l : List CellV) (o : OpV) (sp : List (Int × Int)) (h : DocS w S D l) (hlen : l.length ≤ 20000) (hok : ∀ c ∈ l, c.ok) (ho : o.ok w sp) (hsz : o.text.size ≤ 1099511627776) (hfar : ∀ b off, o.sa = some ⟨b, off, none⟩ → 0 < o.slen → ¬ S b) :
    Calls Tryz.prog 70 #[.pointer (some ⟨D, 0, none⟩), o.v] w (DoTo w S D (doL o sp l) (doE o sp l)) := by
  obtain ⟨E, hE⟩ : ∃ E, E = doE o sp l := ⟨_, rfl⟩
  obtain ⟨L, hL⟩ : ∃ L, L = doL o sp l := ⟨_, rfl⟩
  rw [← hE, ← hL]
  have HE := Lib.hid hE
  have HL := Lib.hid hL
  obtain ⟨W0, hW0⟩ : ∃ W0, w.alloc (.cells o.cs.toArray 58) = W0 := ⟨_, rfl⟩
  obtain ⟨m0, kB⟩ := opBox1 hW0
  have HO := Lib.hid (ho.grown m0)
  have HD := Lib.hid (h.grown m0)
  have HI := Lib.hid h
  have M0 := Lib.hid m0
  have KB := Lib.hid kB
  have c0 : W0.cell? ⟨w.heap.size, 0, none⟩ = some (.int .i64 o.site) := by rw [kB.cell]; rfl
  have c1 : W0.cell? ⟨w.heap.size, 1, none⟩ = some (.int .i64 o.seq) := by rw [kB.cell]; rfl
  have c2 : W0.cell? ⟨w.heap.size, 2, none⟩ = some (.int .i64 o.num) := by rw [kB.cell]; rfl
  have c3 : W0.cell? ⟨w.heap.size, 3, none⟩ = some (.int .i64 o.kind) := by rw [kB.cell]; rfl
  have c4 : W0.cell? ⟨w.heap.size, 4, none⟩ = some (.int .i64 o.at_) := by rw [kB.cell]; rfl
  have c5 : W0.cell? ⟨w.heap.size, 5, none⟩ = some (.string o.text) := by rw [kB.cell]; rfl
  have c6 : W0.cell? ⟨w.heap.size, 6, none⟩ = some (.slice o.sa o.slen o.scap) := by rw [kB.cell]; rfl
  have HOK := Lib.hid hok
  have HFAR := Lib.hid hfar
  have hin : inB (l.length : Int) 0 20000 = true := by simp [inB]; omega
  have HSI := Lib.hid (fun W (m : Mod none_ W0 W) => size_any W 0 D l (HD.out.grown m).is (by omega))
  have HMA := Lib.hid (fun W (m : Mod none_ W0 W) => may_any o (l.length : Int) W sp (HO.out.grown m) hin)
  clear h ho hE hL m0 kB hok hfar hin
  go_enter Tryz.func70, Tryz.ntmps70
  go_upto_region 1 with fail
  clear hW0
  obtain ⟨X, hX⟩ : ∃ X, X = w.heap.size := ⟨_, rfl⟩
  rw [← hX] at KB c0 c1 c2 c3 c4 c5 c6 ⊢
  have HX := Lib.hid hX
  clear hX
  obtain ⟨M, hM⟩ : ∃ M, M = opMay o sp l.length := ⟨_, rfl⟩
  rw [← hM] at HMA
  have HM := Lib.hid hM
  clear hM
  cases M with
  | false =>
    have HE1 := Lib.hid (show E = 1 by rw [HE.out]; unfold doE; rw [if_neg (by rw [← HM.out]; simp)])
    have HL1 := Lib.hid (show L = l by rw [HL.out]; unfold doL; rw [if_neg (by rw [← HM.out]; simp)])
    go_region_held3 (fun w' => Mod none_ W0 w' ∧ w'.cell? ⟨X, 0, none⟩ = some (.int .i64 o.site) ∧ w'.cell? ⟨X, 1, none⟩ = some (.int .i64 o.seq) ∧ w'.cell? ⟨X, 2, none⟩ = some (.int .i64 o.num) ∧ w'.cell? ⟨X, 3, none⟩ = some (.int .i64 o.kind) ∧ w'.cell? ⟨X, 4, none⟩ = some (.int .i64 o.at_) ∧ w'.cell? ⟨X, 5, none⟩ = some (.string o.text) ∧ w'.cell? ⟨X, 6, none⟩ = some (.slice o.sa o.slen o.scap))
      (first
        | exact ⟨Mod.drew (Mod.refl none_ W0), c0, c1, c2, c3, c4, c5, c6⟩
        | assumption
        | (obtain ⟨q, q0, q1, q2, q3, q4, q5, q6⟩ := ‹Mod none_ W0 _ ∧ _›; exact ⟨q.trans m1, m1.cell (fun e => e) q0, m1.cell (fun e => e) q1, m1.cell (fun e => e) q2, m1.cell (fun e => e) q3, m1.cell (fun e => e) q4, m1.cell (fun e => e) q5, m1.cell (fun e => e) q6⟩))
      (first
        | (go_at_call 94; refine (HSI.out _ (And.left (by assumption))).mono ?_; rintro e w1 ⟨rfl, m1⟩)
        | (go_at_call 93; refine (HMA.out _ (And.left (by assumption))).mono ?_; rintro e w1 ⟨rfl, m1⟩))
    go_wp2_with fail
    go_ret
    refine ⟨by rw [HE1.out]; rfl, (M0.out.trans (And.left (by assumption))).mono (fun _ _ e => e.elim), ?_⟩
    rw [HL1.out]
    exact (HI.out.grown (M0.out.trans (And.left (by assumption)))).mono (fun k _ hk => .inl hk)
  | true =>
    go_region_held3 (fun w' => Mod none_ W0 w' ∧ w'.cell? ⟨X, 0, none⟩ = some (.int .i64 o.site) ∧ w'.cell? ⟨X, 1, none⟩ = some (.int .i64 o.seq) ∧ w'.cell? ⟨X, 2, none⟩ = some (.int .i64 o.num) ∧ w'.cell? ⟨X, 3, none⟩ = some (.int .i64 o.kind) ∧ w'.cell? ⟨X, 4, none⟩ = some (.int .i64 o.at_) ∧ w'.cell? ⟨X, 5, none⟩ = some (.string o.text) ∧ w'.cell? ⟨X, 6, none⟩ = some (.slice o.sa o.slen o.scap))
      (first
        | exact ⟨Mod.drew (Mod.refl none_ W0), c0, c1, c2, c3, c4, c5, c6⟩
        | assumption
        | (obtain ⟨q, q0, q1, q2, q3, q4, q5, q6⟩ := ‹Mod none_ W0 _ ∧ _›; exact ⟨q.trans m1, m1.cell (fun e => e) q0, m1.cell (fun e => e) q1, m1.cell (fun e => e) q2, m1.cell (fun e => e) q3, m1.cell (fun e => e) q4, m1.cell (fun e => e) q5, m1.cell (fun e => e) q6⟩))
      (first
        | (go_at_call 94; refine (HSI.out _ (And.left (by assumption))).mono ?_; rintro e w1 ⟨rfl, m1⟩)
        | (go_at_call 93; refine (HMA.out _ (And.left (by assumption))).mono ?_; rintro e w1 ⟨rfl, m1⟩))
    obtain ⟨q, q0, q1, q2, q3, q4, q5, q6⟩ := ‹Mod none_ W0 _ ∧ _›
    have hDS := HD.out.grown q
    have hOS := HO.out.grown q
    have M1 := Lib.hid (M0.out.trans q)
    by_cases hk : o.kind = 2
    · have hkd : (o.kind == 2) = true := by simp [hk]
      have hsp : spansOk sp = true := by
        have := HM.out
        unfold opMay at this
        rw [if_neg (by omega), if_pos hk] at this
        simp [delOk] at this
        exact this.2.1.2
      have HE1 := Lib.hid (show E = 0 by rw [HE.out]; unfold doE; rw [if_pos HM.out.symm, if_pos hk])
      have HL1 := Lib.hid (show L = markS sp 0 l by rw [HL.out]; unfold doL; rw [if_pos HM.out.symm, if_pos hk])
      obtain ⟨v, MB, bl, hv, hn, hl, hf, hmb, hne⟩ := hDS.ex
      have HMK := Lib.hid (mark_any _ D MB v bl o.sa o.slen o.scap sp hv (by rw [hl]; omega) ⟨hOS.sp, fun b off e h0 hk => HFAR.out b off e h0 (hf _ hk)⟩ hsp)
      have FIN := Lib.hid (fun w2 (m2 : Mod (foot D v bl) _ w2) (hv2 : DocV w2 D v MB (markBl sp 0 bl)) => DocS.marked (sp := sp) M1.out hv hn hl hf hmb hne m2 hv2)
      clear hv hn hl hf hmb hne hsp hk hDS hOS q
      go_wp2_with fail
      refine HMK.out.mono ?_
      rintro e w2 ⟨rfl, m2, hv2⟩
      have FIN := Lib.hid (FIN.out w2 m2 hv2)
      clear m2 hv2
      go_wp2_with fail
      go_ret
      rw [HE1.out, HL1.out]
      exact FIN.out
    · have hkd : (o.kind == 2) = false := by simp [hk]
      have hop := HM.out
      unfold opMay at hop
      have hk1 : o.kind = 1 := by
        apply Classical.byContradiction
        intro hh
        rw [if_neg hh, if_neg hk] at hop
        simp at hop
      rw [if_pos hk1] at hop
      have hins : insOk o (l.length : Int) = true := by
        simp only [Bool.and_eq_true, Bool.true_eq] at hop
        exact hop.2
      have hnm := key_name hOS.i1 hOS.i2
      obtain ⟨v, MB, bl, hv0, hn0, hl, hf, hmb, hne⟩ := HI.out.ex
      have hv := hv0.grown M1.out
      have hn := hn0.mod M1.out (fun e => e)
      have HXF := Lib.hid (show ¬ foot D v bl X from fun hh => by have := hv0.flt hh; have := HX.out; omega)
      have HXM := Lib.hid (show X ≠ MB from fun e => by have := hn0.lt; have := HX.out; omega)
      have HV0 := Lib.hid hv0
      have HN0 := Lib.hid hn0
      clear hv0 hn0
      have d1 := hv.doc.cell 1
      simp only [List.getElem?_cons_zero, List.getElem?_cons_succ] at d1
      have hlk := (hn.mod (Mod.drew (Mod.refl none_ _)) (fun e => e)).at_ kName Tryz.underlying138 zInt hnm
      by_cases hmem : o.name ∈ l.map CellV.name
      · have HE1 := Lib.hid (show E = 15 by rw [HE.out]; unfold doE; rw [if_pos HM.out.symm, if_neg hk, if_pos hmem])
        have HL1 := Lib.hid (show L = l by rw [HL.out]; unfold doL; rw [if_pos HM.out.symm, if_neg hk, if_pos hmem])
        have hc0 : 0 < cnt (l.map CellV.name) o.name := Nat.pos_of_ne_zero (fun e => cnt_zero.1 e hmem)
        obtain ⟨C, hC⟩ : ∃ C, C = cnt (l.map CellV.name) o.name := ⟨_, rfl⟩
        rw [← hC] at hlk hc0
        have hcd : decide ((0 : Int) < (C : Int)) = true := by simp; omega
        have FIN := Lib.hid (HI.out.grown M1.out)
        clear hC hv hn hl hf hmb hne hop hk hk1 hins hDS hOS hmem hnm
        go_wp2_with fail
        go_region_law (fail)
        all_goals go_wp2_with fail
        all_goals go_ret
        all_goals rw [HE1.out, HL1.out]
        all_goals exact ⟨rfl, (M1.out.drew).mono (fun _ _ e => e.elim), (FIN.out.grown (Mod.drew (Mod.refl none_ _))).mono (fun k _ hk => .inl hk)⟩
      · have hcz := cnt_zero.2 hmem
        rw [hcz] at hlk
        simp only [Int.ofNat_zero] at hlk
        have HINS := Lib.hid hins
        obtain ⟨rs, hrs, hr0, hr1, hr2, hp0, hp1⟩ : ∃ rs, runesOf o.text = some rs ∧ 0 < rs.length ∧ rs.length ≤ 200 ∧ l.length + rs.length ≤ 20000 ∧ 0 ≤ o.at_ ∧ o.at_ ≤ l.length := by
          have hi := hins
          unfold insOk textOk inB at hi
          simp only [Bool.and_eq_true, decide_eq_true_eq] at hi
          cases hrr : runesOf o.text with
          | none => rw [ulen_none hrr] at hi; omega
          | some rs => rw [ulen_some hrr] at hi; exact ⟨rs, rfl, by omega, by omega, by omega, by omega, by omega⟩
        have HRL := Lib.hid (show ∀ r ∈ rs, r ≤ 1114111 from runes_le _ o.text (Nat.le_refl _) rs hrs)
        have HRS := Lib.hid hrs
        obtain ⟨p, hp⟩ : ∃ p : Nat, o.at_ = (p : Int) := ⟨o.at_.toNat, by omega⟩
        have hpl : p ≤ l.length := by omega
        rw [hp] at q4
        have HP := Lib.hid hp
        obtain ⟨n, hnr⟩ : ∃ n, n = rs.length := ⟨_, rfl⟩
        rw [← hnr] at hr0 hr1 hr2
        have HNR := Lib.hid hnr
        obtain ⟨i0, hi0, hz0, hz1, hz2⟩ := info_parts infoCell
        have HMK := Lib.hid (fun (W : World) => run_make_full (P := Tryz.prog) W W.heap.size 22 53 i0 _ 5 Tryz.underlying22 hi0 hz0 hz1 .i64 .i64 n (by rw [hz2]; omega) (by unfold maxLen; omega) (Nat.le_refl _))
        have HE1 := Lib.hid (show E = 0 by rw [HE.out]; unfold doE; rw [if_pos HM.out.symm, if_neg hk, if_neg hmem])
        have HL1 := Lib.hid (show L = l.take p ++ freshC o rs ++ l.drop p by rw [HL.out]; unfold doL runesD; rw [if_pos HM.out.symm, if_neg hk, if_neg hmem, hrs, hp]; rfl)
        clear hrs hp hnr hp0 hp1 hi0 hz0 hz1 hz2
        have HMEM := Lib.hid hmem
        have HHV := Lib.hid hv
        have HHN := Lib.hid hn
        have HHL := Lib.hid hl
        have HHF := Lib.hid hf
        have HHM := Lib.hid hmb
        have HHNE := Lib.hid hne
        have HOS := Lib.hid hOS
        have HKN := Lib.hid hnm
        have HK := Lib.hid hk
        clear hv hn hl hf hmb hne hop hk hk1 hins hDS hOS hmem hnm hcz
        go_wp2_with fail
        go_region_law (fail)
        all_goals go_wp2_with fail
        all_goals (
          refine (split_any o.text _ (by exact (HOS.out.grown ((Mod.refl none_ _).drew)).tx) (by omega)).mono ?_
          rintro e w4 ⟨m4, -, h4⟩
          obtain ⟨v4, rfl, own4⟩ := h4 rs HRS.out
          have M4 := Lib.hid ((M1.out.drew).trans m4)
          have r0 := (((Mod.refl none_ _).drew).trans m4).cell (fun e => e) q0
          have r1 := (((Mod.refl none_ _).drew).trans m4).cell (fun e => e) q1
          have r4 := (((Mod.refl none_ _).drew).trans m4).cell (fun e => e) q4
          have r5 := (((Mod.refl none_ _).drew).trans m4).cell (fun e => e) d1
          rcases ownsRow_blk own4 with ⟨-, hz, -⟩ | ⟨g4, cc4, more, hv4, hg4, k4, hnc, hcm, -⟩
          · exfalso; have := HNR.out; omega
          subst hv4
          rw [← HNR.out] at hnc ⊢
          obtain ⟨w5, hrun, own5, hgr5⟩ := HMK.out w4
          obtain ⟨G, hG⟩ : ∃ G, G = w4.heap.size := ⟨_, rfl⟩
          rw [made_flat, ← hG] at own5
          rw [← hG] at hrun
          have hXG : X < G := by rw [hG]; exact cell_lt r0
          have hDG : D < G := by rw [hG]; exact cell_lt r5
          have hgG : g4 < G := by rw [hG]; exact k4.lt
          have hwG : w.heap.size ≤ G := by rw [hG]; exact M4.out.size
          have m5 : Mod none_ w4 w5 := (Mod.refl none_ w4).grown hgr5 (fun k e => by cases e)
          rcases ownsRow_blk own5 with ⟨hh, -⟩ | ⟨G', c5, more5, he, -, k5, -, -, hl5⟩
          · cases hh
          have e1 : G' = G := by cases he; rfl
          have e2 : c5 = n := by cases he; rfl
          rw [e1] at k5
          rw [e2] at hl5
          have hm5 : more5 = [] := by
            rw [flat_length CellV.len, List.length_replicate] at hl5
            exact List.eq_nil_of_length_eq_zero (by omega)
          subst hm5
          have KR := Lib.hid (k4.mod m5 (fun e => e))
          have M5 := Lib.hid (M4.out.trans m5)
          have s0 := m5.cell (fun e => e) r0
          have s1 := m5.cell (fun e => e) r1
          have s4 := m5.cell (fun e => e) r4
          have s5 := m5.cell (fun e => e) r5
          have hi0 : halfC o rs 0 = List.replicate n zeroC := by unfold halfC; rw [← HNR.out]; simp
          have hst : Blk w5 G (flat CellV.cs (halfC o rs 0)) 53 := by rw [hi0]; simpa using k5
          have HST := Lib.hid hst
          have HWG := Lib.hid hwG
          clear m4 m5 own4 own5 k4 k5 hgr5 r0 r1 r4 r5 hi0 hst hG hwG hl5 he h4 e1 e2
          go_wp2_with fail
          go_loopg [8, 9, 45] n (fun g s8 s9 s45 wx => ∃ k : Nat, g = n - k ∧ s45 = .int .i64 k ∧ k ≤ n ∧ Mod (one G) w5 wx ∧ RowKit.Hid (Blk wx G (flat CellV.cs (halfC o rs k)) 53))
          case atStart => exact ⟨0, rfl, rfl, Nat.zero_le _, Mod.refl _ _, HST⟩
          case round =>
            obtain ⟨k, rfl, rfl, hkn, mx, hb⟩ := hrel
            by_cases hlt : k < n
            · have hd : decide ((k : Int) < (n : Int)) = true := by simp; omega
              obtain ⟨r, hr⟩ : ∃ r, rs[k]? = some r := ⟨_, List.getElem?_eq_getElem (by have := HNR.out; omega)⟩
              have t0 := mx.cell (show ¬ one G X from fun e => by have : X = G := e; omega) s0
              have t1 := mx.cell (show ¬ one G X from fun e => by have : X = G := e; omega) s1
              have hrow := (KR.out.mod mx (show ¬ one G g4 from fun e => by have : g4 = G := e; omega)).cell k
              rw [List.getElem?_append_left (by simp; have := HNR.out; omega), List.getElem?_map, hr, Option.map_some] at hrow
              have hll : (halfC o rs k).length = n := by rw [halfC_len o rs k (by have := HNR.out; omega)]; exact HNR.out.symm
              have hth := hb.out.there (k * 5) 5 (by rw [flat_length CellV.len, hll]; omega)
              obtain ⟨kp, mp⟩ := Blk.put CellV.len (more := []) (by simpa using hb.out) k (by omega) ⟨o.site, o.seq, (k : Int), (r : Int), false⟩
              rw [halfC_succ o rs k r hr, List.append_nil] at kp
              have MP := Lib.hid (mx.trans mp)
              have KP := Lib.hid kp
              clear mx hb hr hll kp mp
              go_wp2_with fail
              go_roundg (n - (k + 1))
              case measure => omega
              case rel => exact ⟨k + 1, rfl, by simp, by omega, MP.out, KP⟩
            · obtain rfl : k = n := by omega
              have hd : decide ((k : Int) < (k : Int)) = false := by simp
              have t0 := mx.cell (show ¬ one G X from fun e => by have : X = G := e; omega) s0
              have t1 := mx.cell (show ¬ one G X from fun e => by have : X = G := e; omega) s1
              have t4 := mx.cell (show ¬ one G X from fun e => by have : X = G := e; omega) s4
              have hfr : Blk wr G (flat CellV.cs (freshC o rs)) 53 := by
                have := hb.out
                rw [HNR.out, halfC_all] at this; exact this
              have mw : Mod none_ w wr := M5.out.transIn mx (fun x hx e => by have : x = G := e; have := HWG.out; omega)
              have INS := Lib.hid (insert_any wr D MB p G k k v bl (freshC o rs) (HV0.out.grown mw) HHNE.out (by rw [HHL.out]; omega) (by rw [HHL.out]; omega) hfr (fun hh => by have := HV0.out.flt hh; have := HWG.out; omega) (by rw [freshC_len]; exact HNR.out.symm) hr0 (by rw [HHL.out]; exact HOK.out) (freshC_ok o rs HOS.out.i1 HOS.out.i2 (by have := HNR.out; omega) HRL.out))
              have MW := Lib.hid mw
              clear mx hb hfr mw
              go_wp2_with fail
              refine INS.out.mono ?_
              rintro e w7 ⟨rfl, m7, v', bl', hv7, hl7, hf7, hne7⟩
              have u0 := m7.cell HXF.out t0
              have u1 := m7.cell HXF.out t1
              have u5 := hv7.doc.cell 1
              simp only [List.getElem?_cons_zero, List.getElem?_cons_succ] at u5
              have hn7 : Names Tryz.prog 42 w7 MB (l.map CellV.name) := (HN0.out.mod MW.out (fun e => e)).mod m7 (foot_names HV0.out HN0.out)
              obtain ⟨w8, hup, m8, hn8⟩ := (hn7.mod (Mod.drew (Mod.refl none_ _)) (fun e => e)).many kName Tryz.underlying138 HKN.out HMEM.out k hr0
              have FIN := Lib.hid (do_put (p := p) MW.out HHF.out HHM.out HHL.out m7 hv7 hn7 hl7 hf7 hne7 m8 hn8 HNR.out)
              clear m7 hv7 hn7 hl7 hf7 hne7 m8 hn8 t0 t1 t4
              go_wp2_with fail
              go_region_law (fail)
              all_goals go_wp2_with fail
              all_goals go_ret
              all_goals (rw [HE1.out, HL1.out]; exact FIN.out))
end Go.Proofs.YtjgjjlolhdlofaaGreatDoor

namespace Go.Proofs.YtjgjjlolhdlofaaGreatDoor
open Go.RowKit Go.Shelf Go.Mine
attribute [local go_sem] Oper.semAt_some

theorem each_any (D : Nat) (w : World) : Calls Tryz.prog 57 #[.pointer (some ⟨D, 0, none⟩)] w fun e w' =>
    e = .returned (.func (.func 84) #[] #[.pointer (some ⟨w.heap.size, 0, none⟩)]) ∧ w' = w.alloc (.cells #[.pointer (some ⟨D, 0, none⟩)] 65) := by
  go_enter Tryz.func57, Tryz.ntmps57
  go_wp2
  go_ret
  exact ⟨rfl, rfl⟩

/-- A cell's place: its number; its block's array, its place there. -/
structure CPos where
  p : Nat
  g : Nat
  i : Nat
def CPos.at_ (bl : List BV) (x : CPos) : Prop := ∃ k b, bl[k]? = some b ∧ (cellsOf (bl.take k)).length + x.i = x.p ∧ x.i < b.c.length ∧ b.v.ownBlock = some x.g
theorem CPos.get {w : World} {D MB : Nat} {v : Value} {bl : List BV} {x : CPos} (h : DocV w D v MB bl) (hx : x.at_ bl) : ∃ c, (cellsOf bl)[x.p]? = some c ∧ ∀ j, j < 5 → w.cell? ⟨x.g, x.i * 5 + j, none⟩ = c.cs[j]? := by
  obtain ⟨k, b, hk, hp, hi, hg⟩ := hx
  have hci : b.c[x.i]? = some b.c[x.i] := List.getElem?_eq_getElem hi
  rcases ownsRow_blk (h.blk b (List.mem_of_getElem? hk)).o with ⟨h1, _⟩ | ⟨g, cap, more, hv, _, hb, _⟩
  · rw [h1] at hg; cases hg
  · rw [hv] at hg
    obtain rfl : g = x.g := Option.some.inj hg
    refine ⟨b.c[x.i], ?_, fun j hj => Blk.elem CellV.len hb x.i j _ hci hj⟩
    rw [cellsOf_step hk, ← hp, List.getElem?_append_right (by omega), Nat.add_sub_cancel_left, List.getElem?_append_left hi, hci]
def CPos.enc (x : CPos) : Array Value := #[.int .i64 (x.p : Int), .pointer (some ⟨x.g, x.i * 5, none⟩)]

set_option maxHeartbeats 4000000 in
set_option maxRecDepth 1000000 in
theorem each1_any (n D MB bs : Nat) (v : Value) (bl : List BV) (hlen : (cellsOf bl).length ≤ 1099511627776) (I : Nat → World → Prop)
    (hIs : ∀ i W, I i W → Blk W bs [.pointer (some ⟨D, 0, none⟩)] 65 ∧ DocV W D v MB bl)
    (l : Nat) (J : Nat → World → Prop) (Jx : Code → Nat → World → Prop) (W : World) (hJI : ∀ s W, J s W → I s W)
    (hY : ∀ st (x : CPos) W1, J st W1 → (x.p = st ∧ x.at_ bl) → YieldAt Fence.wide (n - 1) Tryz.prog l x.enc W1 fun e W' => (e = .returned (.bool true) ∧ J (st + 1) W') ∨ (e = .returned (.bool false) ∧ ∃ c, Jx c (st + 1) W'))
    (h0 : J 0 W) :
    CallsIn Fence.wide n Tryz.prog 84 (#[.func (.yield l) #[] #[]] ++ #[.pointer (some ⟨bs, 0, none⟩)]) W fun e W' => (∃ v, e = .returned v) ∧ (J (cellsOf bl).length W' ∨ (∃ c st, Jx c st W')) := by
  obtain ⟨ks, kd⟩ := hIs _ _ (hJI _ _ h0)
  obtain ⟨va, vc, rfl, hvc, hvm⟩ := kd.form
  unfold maxLen at hvm
  have c0 : W.cell? ⟨bs, 0, none⟩ = some (.pointer (some ⟨D, 0, none⟩)) := by rw [ks.cell]; rfl
  have cd : W.cell? ⟨D, 0, none⟩ = some (.slice va bl.length vc) := kd.doc.cell 0
  clear ks kd
  refine callsIn_of_wp Tryz.func84 rfl trivial ?_ rfl
  simp only [Tryz.ntmps84, List.size_toArray, List.length_cons, List.length_nil, Nat.reduceAdd, Nat.reduceSub, Array.replicate_succ, Array.replicate_zero, List.push_toArray, List.append_toArray, List.nil_append, List.cons_append]
  gi_wp2
  gi_loopw [3, 5, 6, 14] (fun s3 s5 s6 s14 wr => ∃ k : Nat, s14 = .int .i64 k ∧ s3 = .int .i64 ((cellsOf (bl.take k)).length : Int) ∧ k ≤ bl.length ∧ J (cellsOf (bl.take k)).length wr) (fun s3 s5 s6 s14 wr => bl.length - (intOf s14).toNat)
  case atStart => exact ⟨0, rfl, rfl, Nat.zero_le _, h0⟩
  case round =>
    obtain ⟨k, rfl, rfl, hk, hJ0⟩ := hrel
    by_cases hlt : k < bl.length
    · obtain ⟨x, hx⟩ : ∃ x, bl[k]? = some x := ⟨_, List.getElem?_eq_getElem hlt⟩
      have hdx := (hIs _ _ (hJI _ _ hJ0)).2
      obtain ⟨g, rfl, ck⟩ := hdx.at_ hx
      have hbx := hdx.blk x (List.mem_of_getElem? hx)
      have b2 : wr.cell? ⟨x.p, 2, none⟩ = some x.v := by rw [hbx.b.cell]; rfl
      have hs1 := cellsOf_step hx
      have hs2 := cellsOf_succ hx
      have e1 : (cellsOf bl).length = (cellsOf (bl.take k)).length + (x.c.length + (cellsOf (bl.drop (k + 1))).length) := by rw [hs1]; simp
      have e2 : (cellsOf (bl.take (k + 1))).length = (cellsOf (bl.take k)).length + x.c.length := by rw [hs2]; simp
      obtain ⟨ax, cx, hv, hcx, hcm, hax⟩ : ∃ ax cx, x.v = .slice ax x.c.length cx ∧ x.c.length ≤ cx ∧ cx ≤ maxLen ∧ (0 < x.c.length → ∃ gx, ax = some ⟨gx, 0, none⟩) := by
        rcases ownsRow_blk hbx.o with ⟨h1, h2, _⟩ | ⟨gx, cx, _, h1, _, _, h2, h3, _⟩
        · exact ⟨none, 0, by rw [h1, h2], by omega, Nat.zero_le _, fun h => by omega⟩
        · exact ⟨_, cx, h1, h2, h3, fun _ => ⟨gx, rfl⟩⟩
      unfold maxLen at hcm
      rw [hv] at b2
      obtain ⟨P0, hP0⟩ : ∃ P0, P0 = (cellsOf (bl.take k)).length := ⟨_, rfl⟩
      obtain ⟨m, hm⟩ : ∃ m, m = x.c.length := ⟨_, rfl⟩
      rw [← hP0] at hJ0 e1 e2 ⊢
      rw [← hm] at b2 e1 e2 hcx hax
      have HV := Lib.hid hv
      have HX := Lib.hid hx
      have HP0 := Lib.hid hP0
      have HM := Lib.hid hm
      have hb1 : P0 + m ≤ 1099511627776 := by omega
      have E2 := Lib.hid e2
      clear hdx hbx hs1 hs2 e1 e2 hv hx hP0 hm
      gi_wp2_with fail
      gi_loopw [3, 6, 23] (fun s3 s6 s23 wx => ∃ i : Nat, s23 = .int .i64 i ∧ s3 = .int .i64 ((P0 + i : Nat) : Int) ∧ i ≤ m ∧ J (P0 + i) wx) (fun s3 s6 s23 wx => m - (intOf s23).toNat)
      case atStart => exact ⟨0, rfl, rfl, Nat.zero_le _, hJ0⟩
      case round =>
        obtain ⟨i, rfl, rfl, hi, hJ1⟩ := hrel
        by_cases hil : i < m
        · obtain ⟨gx, rfl⟩ := hax (by omega)
          have hd1 := (hIs _ _ (hJI _ _ hJ1)).2
          have c2 : wr.cell? ⟨x.p, 2, none⟩ = some (.slice (some ⟨gx, 0, none⟩) m cx) := by
            rw [(hd1.blk x (List.mem_of_getElem? HX.out)).b.cell, HM.out]
            exact congrArg some HV.out
          clear hd1
          obtain ⟨fn, tmps, assign, body, hy, hR⟩ := hY (P0 + i) ⟨P0 + i, gx, i⟩ wr hJ1 ⟨rfl, k, x, HX.out, by rw [HP0.out], by rw [← HM.out]; exact hil, by rw [HV.out]; rfl⟩
          unfold CPos.enc at hy
          dsimp only at hy
          rw [Int.natCast_add] at hy
          have hw : wrap64 ((P0 : Int) + (i : Int) + 1) = (P0 : Int) + (i : Int) + 1 := by unfold wrap64; omega
          gi_wp2_with fail
          refine ⟨fun h => (by cases h), ?_⟩
          refine hR.mono ?_
          rintro e W' (⟨rfl, hj⟩ | ⟨rfl, cc, hj⟩)
          · gi_wp2
            refine ⟨⟨i + 1, by simp, by rw [← Nat.add_assoc, Int.natCast_add, Int.natCast_add]; rfl, by omega, hj⟩, by simp [intOf]; omega⟩
          · gi_wp2
            refine bodyPost_ret (results_none rfl _ _ _) rfl ?_
            exact ⟨⟨_, rfl⟩, .inr ⟨cc, _, hj⟩⟩
        · obtain rfl : i = m := by omega
          gi_wp2_with fail
          rw [← E2.out] at hJ1
          refine ⟨⟨k + 1, by simp, by rw [E2.out], by omega, hJ1⟩, by simp [intOf]; omega⟩
    · obtain rfl : k = bl.length := by omega
      rw [List.take_length] at hJ0
      gi_wp2_with fail
      go_end0
      exact ⟨⟨_, rfl⟩, .inl hJ0⟩
end Go.Proofs.YtjgjjlolhdlofaaGreatDoor

namespace Go.Proofs.YtjgjjlolhdlofaaGreatDoor
open Go.RowKit Go.Shelf Go.Mine
open Classical

/-- A document lies among what was there; what is new is changed. -/
theorem DocV.new {w W W' : World} {D MB : Nat} {v : Value} {bl : List BV} (h0 : DocV w D v MB bl) (h : DocV W D v MB bl) (m : Mod (fun k => w.heap.size ≤ k) W W') : DocV W' D v MB bl :=
  h.mod m (fun k hk e => by have := h0.flt hk; have e' : w.heap.size ≤ k := e; omega)

/-- 'l = append(l, x)', l being a cell of one's own. -/
theorem appOne {W Y : World} {B L0 X n vc size bytes : Nat} {va : Option Addr} {e tl : TypeId} {xs cs : List Value} {i : TypeInfo} {z : Value} (hu : Tryz.prog.underlying tl = some (.slice e)) (hi : Tryz.prog.info? e = some i) (hz : i.zero = some z) (hs : i.size = size) (hb : i.bytes = bytes) (hzs : z.cells.size = size) (h0 : 0 < size)
    (ho : W.ownsRow B e size (.slice va n vc) n xs) (kl : Blk W L0 [.slice va n vc] tl) (hte : tl ≠ e) (mY : Mod none_ W Y) (kY : Blk Y X cs e) (hcs : cs.length = 1 * size) (h1 : ∀ u ∈ cs, u.oneCell' = true) (hn : (n + 1) * bytes ≤ 140737488355328) (hn2 : n + 1 ≤ maxLen) (hB : B ≤ W.heap.size) (hBL : B ≤ L0) :
    ∃ va' vc' w4, (appSem #[tl, tl] tl #[.slice va n vc, .slice (some ⟨X, 0, none⟩) 1 1]).run Tryz.prog Y = .ok (.slice va' (n + 1) vc') w4 ∧ Blk w4 L0 [.slice va n vc] tl ∧ Mod (fun k => B ≤ k) W w4 ∧ KeepsOthers W w4 ∧
      Blk (w4.setCell ⟨L0, 0, none⟩ (.slice va' (n + 1) vc')) L0 [.slice va' (n + 1) vc'] tl ∧ (w4.setCell ⟨L0, 0, none⟩ (.slice va' (n + 1) vc')).ownsRow B e size (.slice va' (n + 1) vc') (n + 1) (xs ++ cs) ∧
      KeepsOthers W (w4.setCell ⟨L0, 0, none⟩ (.slice va' (n + 1) vc')) ∧ Mod (fun k => B ≤ k) W (w4.setCell ⟨L0, 0, none⟩ (.slice va' (n + 1) vc')) ∧
      ∀ (b : Nat) (ds : List Value) (t : TypeId), b ≠ L0 → t ≠ e → Blk W b ds t → Blk (w4.setCell ⟨L0, 0, none⟩ (.slice va' (n + 1) vc')) b ds t := by
  have hoY := ownsRow_mod ho mY (fun _ _ e => e)
  have klY := kl.mod mY (fun e => e)
  obtain ⟨v', w4, hrun, hown, hgrow, _⟩ := run_append_own (P := Tryz.prog) Y B tl tl e i z size bytes hu hi hz hs hb hzs h0 (.slice va n vc) n xs hoY ⟨X, 0, none⟩ 1 1 cs hcs (World.news_of_block kY) h1 hn2 hn (Nat.le_trans hB mY.size)
  have hpos : 0 < n + 1 := Nat.succ_pos n
  obtain ⟨va', vc', rfl⟩ : ∃ va' vc', v' = .slice va' (n + 1) vc' := by
    rcases ownsRow_blk hown with ⟨_, h0, _⟩ | ⟨g, c', _, rfl, _⟩
    · omega
    · exact ⟨_, c', rfl⟩
  have mg : Mod (fun k => (Value.slice va n vc).ownBlock = some k) Y w4 := (Mod.refl _ Y).grown hgrow (fun k e _ => e)
  have lo : ∀ k, (Value.slice va n vc).ownBlock = some k → B ≤ k := fun k hk => (ho.lt k hk).1
  have m4 : Mod (fun k => B ≤ k) W w4 := (mY.mono (fun _ _ e => e.elim)).trans (mg.mono (fun k _ hk => lo k hk))
  have k4 := klY.mod mg (fun e => by
    obtain ⟨c, hk⟩ := ownsRow_type hoY e
    exact Blk.apart klY hk hte rfl)
  have ko4 : KeepsOthers W w4 := (keeps_none mY).trans (keeps_of_mod mg (fun k hk o ho' => by
    obtain ⟨c, hc⟩ := ownsRow_type hoY hk
    unfold Blk at hc
    rw [hc] at ho'; cases ho'; rfl))
  have mS : Mod (one L0) w4 (w4.setCell ⟨L0, 0, none⟩ (.slice va' (n + 1) vc')) := (Mod.refl (one L0) w4).setCell ⟨L0, 0, none⟩ (fun _ => rfl) _
  refine ⟨va', vc', w4, hrun, k4, m4, ko4, k4.set 0 _, ownsRow_mod hown mS (fun k hk e => ?_), ko4.trans (KeepsOthers.setCell _ _ _), m4.trans (mS.mono (fun k _ e => by have e' : k = L0 := e; omega)), fun b ds t hb ht k => ?_⟩
  · have e' : k = L0 := e
    subst e'
    obtain ⟨c, hc⟩ := ownsRow_type hown hk
    exact Blk.apart k4 hc hte rfl
  · have kY' := k.mod mY (fun e => e)
    refine (kY'.mod mg (fun e => ?_)).mod mS hb
    obtain ⟨c, hc⟩ := ownsRow_type hoY e
    exact Blk.apart kY' hc ht rfl
end Go.Proofs.YtjgjjlolhdlofaaGreatDoor

namespace Go.Proofs.YtjgjjlolhdlofaaGreatDoor
open Go.RowKit Go.Shelf Go.Mine
attribute [local go_sem] Oper.semAt_some
attribute [local go_sem ↓] app_fold

abbrev spCs (x : Int × Int) : List Value := [.int .i64 x.1, .int .i64 x.2]
theorem spCs_len (x : Int × Int) : (spCs x).length = 2 := rfl
end Go.Proofs.YtjgjjlolhdlofaaGreatDoor

namespace Go.Proofs.YtjgjjlolhdlofaaGreatDoor
open Go.RowKit Go.Shelf Go.Mine
attribute [local go_sem] Oper.semAt_some
attribute [local go_sem ↓] app_fold

end Go.Proofs.YtjgjjlolhdlofaaGreatDoor

namespace Go.Proofs.YtjgjjlolhdlofaaGreatDoor
open Go.RowKit Go.Shelf Go.Mine
attribute [local go_sem] Oper.semAt_some
attribute [local go_sem ↓] app_fold

/-- The runes of the live cells. -/
def liveR (l : List CellV) : List Int := (l.filter fun c => !c.gone).map CellV.r
theorem liveR_snoc (l : List CellV) (c : CellV) : liveR (l ++ [c]) = liveR l ++ if c.gone then [] else [c.r] := by
  unfold liveR
  cases h : c.gone <;> simp [h]
theorem liveR_len (l : List CellV) : (liveR l).length = liveN l := by unfold liveR liveN; rw [List.length_map]
/-- What Text answers. -/
def textB (l : List CellV) : ByteArray := if (liveR l).all Lib.validRune then ⟨(bytesOf (liveR l)).toArray⟩ else ⟨#[]⟩
def r32s (rs : List Int) : List Value := rs.map fun r => Value.int .i32 r

def texI (w : World) (D MB : Nat) (v : Value) (bl : List BV) (st : Nat) (W : World) : Prop :=
  Mod none_ w W ∧ DocV W D v MB bl ∧ Blk W (w.heap.size + 1) [.pointer (some ⟨D, 0, none⟩)] 65 ∧ ∃ va n vc, Blk W w.heap.size [.slice va n vc] 91 ∧ W.ownsRow w.heap.size 21 1 (.slice va n vc) n (r32s (liveR ((cellsOf bl).take st))) ∧ n ≤ st

theorem infoR32 : (Tryz.prog.info? 21).map (fun i => (i.zero, i.size, i.bytes)) = some (some (.int .i32 0), 1, 4) := by kernel_rfl

theorem own_i32 {w : World} {B n vc : Nat} {va : Option Addr} {rs : List Int} (h : w.ownsRow B 21 1 (.slice va n vc) n (r32s rs)) (ok : ∀ r ∈ rs, -2147483648 ≤ r ∧ r ≤ 2147483647) : IsI32 w va n vc rs := by
  rcases ownsRow_blk h with ⟨h1, h2, h3⟩ | ⟨g, cap, more, h1, _, hb, hc, hm, _⟩
  · cases h1
    have : rs = [] := by unfold r32s at h3; simpa using h3
    subst this
    exact ⟨rfl, Nat.le_refl _, Nat.zero_le _, ok, fun i x hx => by simp at hx⟩
  · cases h1
    have hl : rs.length = n := by have := h.1; simpa [r32s] using this
    refine ⟨hl, hc, hm, ok, fun i x hx => ⟨g, 0, rfl, ?_⟩⟩
    have hi := (List.getElem?_eq_some_iff.1 hx).1
    rw [Nat.zero_add, hb.cell, List.getElem?_append_left (by simp [r32s]; omega)]
    simp [r32s, hx]

set_option maxHeartbeats 4000000 in
set_option maxRecDepth 1000000 in
theorem text_cells (w : World) (D MB : Nat) (v : Value) (bl : List BV) (h : DocV w D v MB bl) (hok : ∀ c ∈ cellsOf bl, c.ok) (hlen : (cellsOf bl).length ≤ 1099511627776) :
    Calls Tryz.prog 25 #[.pointer (some ⟨D, 0, none⟩)] w fun e w' => e = .returned (.string (textB (cellsOf bl))) ∧ Mod none_ w w' := by
  have HDW := Lib.hid h
  refine (callsIn_wide (n := 5)).1 ?_
  refine callsIn_of_wp_marks Tryz.func25 rfl trivial ?_ rfl
  simp only [Tryz.ntmps25, List.size_toArray, List.length_cons, List.length_nil, Nat.reduceAdd, Nat.reduceSub, Array.replicate_succ, Array.replicate_zero, List.push_toArray, List.append_toArray, List.nil_append, List.cons_append]
  gi_wp2_with fail
  refine ⟨trivial, ?_⟩
  refine (callsIn_wide.2 (each_any D _)).mono ?_
  rintro e w2 ⟨rfl, rfl⟩
  gi_wp2_with fail
  obtain ⟨W0, hW0⟩ : ∃ W0, (w.alloc (.cells #[.slice none 0 0] 91)).alloc (.cells #[.pointer (some ⟨D, 0, none⟩)] 65) = W0 := ⟨_, rfl⟩
  have hz : W0.heap.size = w.heap.size + 2 := by rw [← hW0]; simp
  have hI0 : texI w D MB v bl 0 W0 := by
    rw [← hW0]
    have b0 := Blk.new (w := w) (cs := [.slice none 0 0]) (t := 91)
    have b1 := Blk.new (w := w.alloc (.cells #[.slice none 0 0] 91)) (cs := [.pointer (some ⟨D, 0, none⟩)]) (t := 65)
    rw [World.size_alloc] at b1
    have m := ((Mod.refl none_ w).alloc (.cells #[.slice none 0 0] 91)).alloc (.cells #[.pointer (some ⟨D, 0, none⟩)] 65)
    exact ⟨m, h.grown m, b1, none, 0, 0, b0.mod ((Mod.refl none_ _).alloc _) (fun e => e), ⟨by simp [r32s, liveR], .inl ⟨rfl, rfl⟩⟩, Nat.le_refl _⟩
  rw [hW0]
  clear hW0
  refine rangeFunc_law (w := W0) rfl (by decide) (gf := 84) (lb := #[.pointer (some ⟨w.heap.size + 1, 0, none⟩)]) rfl trivial (enters_of Tryz.func84 (by kernel_rfl) rfl)
    CPos.enc (fun _ => rfl) (texI w D MB v bl) (fun _ _ _ => False) (fun st _ => st + 1) (fun st x => x.p = st ∧ x.at_ bl) (fun st => st = (cellsOf bl).length) 0 ?hI ?hIx hI0
    (fun x => { tmps := #[.pointer (some ⟨D, 0, none⟩), undef, .string { data := #[] }, .pointer (some ⟨w.heap.size, 0, none⟩), undef, .pointer (some ⟨x.g, x.i * 5, none⟩), undef, undef, .pointer (some ⟨D, 0, none⟩), .func (.func 84) #[] #[.pointer (some ⟨w.heap.size + 1, 0, none⟩)], .int .i64 (x.p : Int), .pointer (some ⟨x.g, x.i * 5, none⟩), undef, undef, undef, undef, undef, undef, undef, undef, undef, undef, undef, undef, undef, undef, undef, undef, undef, undef], defers := [] }) ?hiter ?assign ?body ?done ?stop
  case hI =>
    rintro st W W' ⟨m0, hd, k1, va, n, vc, k0, ho, hn⟩ m
    refine ⟨m0.transOwn m (by omega), hd.own m, k1.own m, va, n, vc, k0.own m, ownsRow_mod ho m (fun k hk s => ?_), hn⟩
    obtain ⟨cs, hc⟩ := ownsRow_type ho hk
    have := s.2 _ hc; cases this
  case hIx => rintro c st W W' h m; exact h
  case hiter =>
    intro l J Jx W hJI hJ hY h0
    refine (each1_any (5 - 1) D MB _ v bl hlen (texI w D MB v bl) (fun i W h => ⟨h.2.2.1, h.2.1⟩) l J Jx W hJI hY h0).mono ?_
    rintro e W' ⟨h1, h2 | h2⟩
    · exact ⟨h1, .inl ⟨_, rfl, h2⟩⟩
    · exact ⟨h1, .inr h2⟩
  case assign =>
    intro l x W K hK
    unfold CPos.enc
    gi_wp2
    exact hK
  case body =>
    rintro l st x W ⟨m0, hd, k1, va, n, vc, k0, ho, hn⟩ ⟨rfl, hx⟩
    obtain ⟨c, hc, hcs⟩ := CPos.get hd hx
    have hlt := (List.getElem?_eq_some_iff.1 hc).1
    have htk : (cellsOf bl).take (x.p + 1) = (cellsOf bl).take x.p ++ [c] := by
      rw [List.take_succ_eq_append_getElem hlt, (List.getElem?_eq_some_iff.1 hc).2]
    have x3 : W.cell? ⟨x.g, x.i * 5 + 3, none⟩ = some (.int .i32 c.r) := hcs 3 (by omega)
    have x4 : W.cell? ⟨x.g, x.i * 5 + 4, none⟩ = some (.bool c.gone) := hcs 4 (by omega)
    have hxb : x.g < W.heap.size := block_lt_of_cell x3
    cases hg : c.gone
    · rw [hg] at x4
      have hsn := liveR_snoc ((cellsOf bl).take x.p) c
      rw [hg, ← htk] at hsn
      have hYM : Mod none_ W ((W.alloc (.cells #[.int .i32 c.r] 21)).drew) := ((Mod.refl none_ W).alloc _).drew
      obtain ⟨i0, hi0, hz0, hz1, hz2⟩ := info_parts infoR32
      obtain ⟨va', vc', w4, hrun, k4, m4, ko4, kL, hoL, koL, mL, prL⟩ := appOne (X := W.heap.size) (e := 21) (tl := 91) Tryz.underlying91 hi0 hz0 hz1 hz2 rfl (by decide) ho k0 (by decide) hYM (cs := [.int .i32 c.r]) (Blk.new (w := W) (cs := [.int .i32 c.r]) (t := 21)).drew rfl (fun u hu => by rw [List.mem_singleton.1 hu]; rfl) (by omega) (by unfold maxLen; omega) m0.size (Nat.le_refl _)
      have c0 : W.cell? ⟨w.heap.size, 0, none⟩ = some (.slice va n vc) := k0.cell 0
      have hwl : w.heap.size < W.heap.size := k0.lt
      have c4 : w4.cell? ⟨w.heap.size, 0, none⟩ = some (.slice va n vc) := k4.cell 0
      have f4 := k4.frozen 0
      have mw : Mod none_ w (w4.setCell ⟨w.heap.size, 0, none⟩ (.slice va' (n + 1) vc')) := m0.transIn mL (fun b hb e => by have e' : w.heap.size ≤ b := e; omega)
      have FIN := Lib.hid (show KeepsOthers W (w4.setCell ⟨w.heap.size, 0, none⟩ (.slice va' (n + 1) vc')) ∧ texI w D MB v bl (x.p + 1) (w4.setCell ⟨w.heap.size, 0, none⟩ (.slice va' (n + 1) vc')) from
        ⟨koL, mw, HDW.out.new hd mL, prL _ _ _ (by omega) (by decide) k1, va', n + 1, vc', kL, by rw [hsn]; simpa [r32s] using hoL, by omega⟩)
      have d0 : ((W.alloc (.cells #[.int .i32 c.r] 21)).drew).cell? ⟨x.g, x.i * 5 + 3, none⟩ = some (.int .i32 c.r) := hYM.cell (fun e => e) x3
      have hxg : x.g < w.heap.size := by
        obtain ⟨k, b, hk, _, _, hgb⟩ := hx
        exact HDW.out.flt (.inr (.inr ⟨b, List.mem_of_getElem? hk, .inr hgb⟩))
      have d4 : w4.cell? ⟨x.g, x.i * 5 + 3, none⟩ = some (.int .i32 c.r) := m4.cell (fun e => by have e' : w.heap.size ≤ x.g := e; omega) x3
      have d5 : (w4.setCell ⟨w.heap.size, 0, none⟩ (.slice va' (n + 1) vc')).cell? ⟨x.g, x.i * 5 + 3, none⟩ = some (.int .i32 c.r) := mL.cell (fun e => by have e' : w.heap.size ≤ x.g := e; omega) x3
      clear hI0 hd k1 k0 ho hsn hYM hi0 hz0 hz1 hz2 k4 m4 ko4 kL hoL koL mL prL mw hcs hx hc hlt htk m0
      gi_wp2_with fail
      refine round_held (S := fun w' => w'.cell? ⟨x.g, x.i * 5 + 3, none⟩ = some (.int .i32 c.r)) (by kernel_rfl) (by kernel_rfl) (fun ⟨_, _, h⟩ => h) x3 (fun hS => ?_)
      refine wpAnyH_take (i := 1) (v := .pointer (some ⟨x.g, x.i * 5, none⟩)) rfl (by kernel_rfl) (by kernel_rfl) (by kernel_rfl) (fun _ _ _ h => h) (Or.inl ⟨by rfl, ?_⟩) hS ?_
      · intro w' hw'; go_simp
      simp only [Act.put, List.setIfInBounds_toArray]
      refine wpAnyH_take (i := 2) (v := .pointer (some ⟨x.g, x.i * 5, none⟩)) rfl (by kernel_rfl) (by kernel_rfl) (by kernel_rfl) (fun _ _ _ h => h) (Or.inl ⟨by rfl, ?_⟩) hS ?_
      · intro w' hw'; go_simp
      simp only [Act.put]
      refine wpAnyH_take (i := 3) (v := .pointer (some ⟨x.g, x.i * 5 + 3, none⟩)) rfl (by kernel_rfl) (by kernel_rfl) (by kernel_rfl) (fun _ _ _ h => h) (Or.inl ⟨by rfl, ?_⟩) hS ?_
      · intro w' hw'; go_simp
      simp only [Act.put]
      refine wpAnyH_take (i := 4) (v := .int .i32 c.r) rfl (by kernel_rfl) (by kernel_rfl) (by kernel_rfl) (fun _ _ _ h => h) (Or.inl ⟨by rfl, ?_⟩) hS ?_
      · intro w' hw'; go_simp
      simp only [Act.put]
      refine wpAnyH_ready (rs := [0, 5]) (by kernel_rfl) (by simp) (AllReadyH.cons rfl (fun K hK => ?_) <| AllReadyH.cons rfl (fun K hK => ?_) <| AllReadyH.nil)
      · go_simp
        refine hK.out _ _ hS (fun hS => ?_)
        clear hK K
        try simp only [Act.put, List.setIfInBounds_toArray, List.set_cons_zero, List.set_cons_succ]
        refine wpAnyH_ready (rs := [5]) (by kernel_rfl) (by simp) (AllReadyH.cons rfl (fun K hK => ?_) <| AllReadyH.nil)
        go_simp
        refine hK.out _ _ d0 (fun hS => ?_)
        clear hK K
        try simp only [Act.put, List.setIfInBounds_toArray, List.set_cons_zero, List.set_cons_succ]
        refine wpAnyH_ready (rs := [6]) (by kernel_rfl) (by simp) (AllReadyH.cons rfl (fun K hK => ?_) <| AllReadyH.nil)
        go_simp
        refine hK.out _ _ d4 (fun hS => ?_)
        clear hK K
        try simp only [Act.put, List.setIfInBounds_toArray, List.set_cons_zero, List.set_cons_succ]
        refine wpAnyH_ready (rs := [7]) (by kernel_rfl) (by simp) (AllReadyH.cons rfl (fun K hK => ?_) <| AllReadyH.nil)
        go_simp
        refine hK.out _ _ d5 (fun hS => ?_)
        clear hK K
        try simp only [Act.put, List.setIfInBounds_toArray, List.set_cons_zero, List.set_cons_succ]
        refine wpAnyH_done (by kernel_rfl) ?_ _
        exact FIN.out
      · go_simp
        refine hK.out _ _ d0 (fun hS => ?_)
        clear hK K
        try simp only [Act.put, List.setIfInBounds_toArray, List.set_cons_zero, List.set_cons_succ]
        refine wpAnyH_ready (rs := [0]) (by kernel_rfl) (by simp) (AllReadyH.cons rfl (fun K hK => ?_) <| AllReadyH.nil)
        go_simp
        refine hK.out _ _ hS (fun hS => ?_)
        clear hK K
        try simp only [Act.put, List.setIfInBounds_toArray, List.set_cons_zero, List.set_cons_succ]
        refine wpAnyH_ready (rs := [6]) (by kernel_rfl) (by simp) (AllReadyH.cons rfl (fun K hK => ?_) <| AllReadyH.nil)
        go_simp
        refine hK.out _ _ d4 (fun hS => ?_)
        clear hK K
        try simp only [Act.put, List.setIfInBounds_toArray, List.set_cons_zero, List.set_cons_succ]
        refine wpAnyH_ready (rs := [7]) (by kernel_rfl) (by simp) (AllReadyH.cons rfl (fun K hK => ?_) <| AllReadyH.nil)
        go_simp
        refine hK.out _ _ d5 (fun hS => ?_)
        clear hK K
        try simp only [Act.put, List.setIfInBounds_toArray, List.set_cons_zero, List.set_cons_succ]
        refine wpAnyH_done (by kernel_rfl) ?_ _
        exact FIN.out
    · rw [hg] at x4
      have hsn := liveR_snoc ((cellsOf bl).take x.p) c
      rw [hg, ← htk] at hsn
      have FIN := Lib.hid (show KeepsOthers W W ∧ texI w D MB v bl (x.p + 1) W from ⟨KeepsOthers.refl _, m0, hd, k1, va, n, vc, k0, by rw [hsn]; simpa using ho, by omega⟩)
      clear hI0 hd k1 k0 ho hsn hcs hx hc hlt htk m0
      gi_wp2_with fail
      exact FIN.out
  case done =>
    rintro Df st W rfl ⟨m0, hd, k1, va, n, vc, k0, ho, hn⟩ hDf hlt
    rw [List.take_length] at ho
    have hI := own_i32 ho (fun r hr => by
      unfold liveR at hr
      obtain ⟨c, hc, rfl⟩ := List.mem_map.1 hr
      exact (hok c (List.mem_filter.1 hc).1).i4)
    have HJ := join_any W va n vc _ hI (by omega)
    have hjv : joinV (liveR (cellsOf bl)) = .tuple #[.string (textB (cellsOf bl)), .int .i64 (if (liveR (cellsOf bl)).all Lib.validRune then 0 else 2)] := by
      unfold joinV textB
      cases (liveR (cellsOf bl)).all Lib.validRune <;> rfl
    rw [hjv] at HJ
    obtain ⟨TB, hTB⟩ : ∃ TB, TB = textB (cellsOf bl) := ⟨_, rfl⟩
    obtain ⟨ER, hER⟩ : ∃ ER : Int, ER = (if (liveR (cellsOf bl)).all Lib.validRune then 0 else 2) := ⟨_, rfl⟩
    rw [← hTB, ← hER] at HJ
    have HTB := Lib.hid hTB
    have HJ := Lib.hid HJ
    have c0 : W.cell? ⟨w.heap.size, 0, none⟩ = some (.slice va n vc) := k0.cell 0
    have HDF := Lib.hid hDf
    have M0 := Lib.hid m0
    clear hI hjv hd k1 k0 ho hTB hER m0 hDf
    gi_wp2_with fail
    refine ⟨trivial, ?_⟩
    refine (callsIn_wide.2 HJ.out).mono ?_
    rintro e w1 ⟨rfl, m1⟩
    have hdf := m1.blk (fun e => e) HDF.out
    have M1 := Lib.hid ((M0.out.trans m1).transOwn (loopOwn_put (B := W0.heap.size) (.deferred none) hlt hdf rfl) (by omega))
    clear m1
    gi_wp2_with fail
    refine ⟨by simp, .inl ⟨_, _, rfl, run_takeDeferred hdf, ?_⟩⟩
    refine ⟨_, results_tmp rfl _ _ _, by rw [← HTB.out]; rfl, M1.out⟩
  case stop => rintro Dd c st W h; exact h.elim
end Go.Proofs.YtjgjjlolhdlofaaGreatDoor

namespace Go.Proofs.YtjgjjlolhdlofaaGreatDoor
open Go.RowKit Go.Shelf Go.Mine
attribute [local go_sem] Oper.semAt_some
attribute [local go_sem ↓] app_fold

end Go.Proofs.YtjgjjlolhdlofaaGreatDoor

namespace Go.Proofs.YtjgjjlolhdlofaaGreatDoor
open Go.RowKit Go.Mine Go.Maps Go.MapKept
open Go.ChangeMaps (setBlock heap_setBlock_same)
open Classical
variable {P : Program} {k t e : TypeId} {w : World} {b : Nat} {ks : List Value}

theorem IMap.del {m : Value → Option Value} {n : Nat} (h : IMap P k w b m n) (K : Keyed P k) (ht : P.underlying t = some (.map k e)) {x : Value} (hm : m x ≠ none) (ty : TypeId) :
    ∃ w', (Builtin.delete_ #[t, k] ty #[.map (some b), x]).run P w = .ok (.tuple #[]) w' ∧ IMap P k w' b (delM m x) (n - 1) ∧ Mod (one b) w w' := by
  have hx := h.key hm
  obtain ⟨es, clock, hb, hst, rfl, h1, h2⟩ := h
  obtain ⟨q, hq⟩ := hx
  rcases IMap.find K h1 h2 ⟨q, hq⟩ w with ⟨a, c, d⟩ | ⟨j, e0, a, hj, hk, d⟩
  · exact absurd d hm
  have hjl : j < es.toList.length := (List.getElem?_eq_some_iff.1 hj).1
  have hje := (List.getElem?_eq_some_iff.1 hj).2
  have hlist : (es.eraseIdxIfInBounds j).toList = es.toList.eraseIdx j := by simp [Array.eraseIdxIfInBounds, show j < es.size by simpa using hjl]
  have hnd := hst.2.2
  rw [List.nodup_iff_pairwise_ne, List.pairwise_iff_getElem] at hnd
  have hkey : ∀ (i : Nat) (hi : i < es.toList.length), i ≠ j → es.toList[i].key ≠ x := by
    intro i hi hij heq
    rcases Nat.lt_or_gt_of_ne hij with hlt | hgt
    · have := hnd i j (by simpa using hi) (by simpa using hjl) hlt
      simp at this; simp at heq hje; rw [hje] at this; exact this (by rw [heq, hk])
    · have := hnd j i (by simpa using hjl) (by simpa using hi) hgt
      simp at this; simp at heq hje; rw [hje] at this; exact this (by rw [heq, hk])
  refine ⟨setBlock w b (.map (es.eraseIdxIfInBounds j) clock), ?_, ⟨_, clock, heap_setBlock_same hb _, stamped_erase hst j, ?_, ?_, ?_⟩, setBlock_mod hb _⟩
  · have hne : es.isEmpty = false := by
      cases hz : es.isEmpty
      · rfl
      · simp at hz; subst hz; simp at hjl
    simp [Builtin.delete_, run_underlying ht, MapKept.run_getObj_map hb, K.check w false hq, a, MapKept.run_setObj_map _ hb, Result.andThen, setBlock, hne]
  · rw [← Array.length_toList, hlist, List.length_eraseIdx, if_pos hjl, Array.length_toList]
  · intro y hy
    rw [hlist] at hy
    obtain ⟨i, hi, hy⟩ := List.mem_eraseIdx_iff_getElem.1 hy
    obtain ⟨hij, hy⟩ := hy
    subst hy
    exact ⟨(h1 _ (List.getElem_mem _)).1, by unfold delM; rw [if_neg (hkey i hi hij)]; exact (h1 _ (List.getElem_mem _)).2⟩
  · intro y hy
    unfold delM at hy
    by_cases hyx : y = x
    · rw [if_pos hyx] at hy; exact absurd rfl hy
    · rw [if_neg hyx] at hy
      obtain ⟨e', he', hke⟩ := h2 y hy
      refine ⟨e', ?_, hke⟩
      rw [hlist]
      obtain ⟨i, hi, rfl⟩ := List.getElem_of_mem he'
      refine List.mem_eraseIdx_iff_getElem.2 ⟨i, hi, ?_, rfl⟩
      intro hij
      subst hij
      rw [hje, hk] at hke
      exact hyx hke.symm

theorem cnt_erase {x : Value} (hx : x ∈ ks) (y : Value) : cnt (ks.erase x) y = if y = x then cnt ks y - 1 else cnt ks y := by
  have hp := List.perm_cons_erase hx
  have h1 := cnt_perm hp y
  rw [show x :: ks.erase x = [x] ++ ks.erase x from rfl, cnt_append, cnt_one] at h1
  by_cases hyx : y = x
  · subst hyx
    rw [if_pos rfl] at h1 ⊢
    omega
  · rw [if_neg (fun e => hyx e.symm)] at h1
    rw [if_neg hyx]
    omega
/-- 'm[x]--', read, entry, store. -/
theorem Names.less (h : Names P k w b ks) (K : Keyed P k) (ht : P.underlying t = some (.map k e)) (hz : ∀ w, (zeroValue e).run P w = .ok (.int .i64 0) w) {x : Value} (hx : x ∈ ks) (hk : isKey P k x) :
    ∃ (s : Nat) (w3 w4 : World), (Instr.lookup t (.map (some b)) x false).run P w = .ok (.int .i64 (cnt ks x : Int)) w ∧ (Instr.mapEntry t (.map (some b)) x).run P w = .ok (.tuple #[.int .i64 (cnt ks x : Int), .int .i64 (s : Int)]) w3 ∧ (Instr.lookup t (.map (some b)) x false).run P w3 = .ok (.int .i64 (cnt ks x : Int)) w3 ∧
      (Instr.entryStore t (.map (some b)) (.int .i64 (s : Int)) (.int .i64 ((cnt ks x : Int) - 1))).run P w3 = .ok () w4 ∧ Mod (one b) w w3 ∧ Mod (one b) w w4 ∧
      (1 < cnt ks x → Names P k w4 b (ks.erase x)) ∧ ∃ m n, IMap P k w4 b m n ∧ m x = some (.int .i64 ((cnt ks x : Int) - 1)) ∧ (∀ y, m y ≠ none ↔ y ∈ ks) ∧ ∀ y v, y ≠ x → m y = some v → v = .int .i64 (cnt ks y : Int) := by
  have hlk := h.at_ K ht hz hk
  obtain ⟨m, n, hm, hmem, hval⟩ := h
  have hmx : m x = some (.int .i64 (cnt ks x : Int)) := by
    cases hmx : m x with
    | none => exact absurd hmx ((hmem x).2 hx)
    | some v => rw [hval x v hmx]
  obtain ⟨s, w3, e1, i3, M3, ent⟩ := hm.entry K ht (hz w) hk
  rw [hmx, if_neg (by simp)] at i3
  rw [hmx] at e1
  have hput : putM m x (.int .i64 (cnt ks x : Int)) = m := by
    funext y
    by_cases hyx : y = x
    · rw [hyx, putM_same, hmx]
    · rw [putM_other hyx]
  simp only [Option.getD_some] at i3 e1
  rw [hput] at i3
  have hlk3 := i3.lookup K ht (hz w3) hk false
  rw [if_neg (by simp), hmx] at hlk3
  obtain ⟨w4, e2, i4, M4⟩ := i3.store ent (.int .i64 ((cnt ks x : Int) - 1))
  have hrest : ∀ y, putM m x (.int .i64 ((cnt ks x : Int) - 1)) y ≠ none ↔ y ∈ ks := by
    intro y
    by_cases hyx : y = x
    · rw [hyx, putM_same]; exact ⟨fun _ => hx, fun _ => by simp⟩
    · rw [putM_other hyx]; exact hmem y
  refine ⟨s, w3, w4, hlk, e1, hlk3, e2, M3, M3.trans M4, fun hc => ⟨_, _, i4, fun y => ?_, fun y v hy => ?_⟩, _, _, i4, putM_same .., hrest, fun y v hyx hy => ?_⟩
  · rw [hrest y]
    have h1 := cnt_erase hx y
    have h2 : y ∈ ks.erase x ↔ cnt (ks.erase x) y ≠ 0 := by rw [ne_eq, cnt_zero]; simp
    have h3 : y ∈ ks ↔ cnt ks y ≠ 0 := by rw [ne_eq, cnt_zero]; simp
    rw [h2, h3, h1]
    by_cases hyx : y = x
    · subst hyx; rw [if_pos rfl]; omega
    · rw [if_neg hyx]
  · rw [cnt_erase hx y]
    by_cases hyx : y = x
    · subst hyx
      rw [putM_same] at hy
      cases hy
      rw [if_pos rfl]
      congr 1; omega
    · rw [putM_other hyx] at hy
      rw [if_neg hyx]
      exact hval y v hy
  · rw [putM_other hyx] at hy
    exact hval y v hy
/-- .. and where none is left: the key struck. -/
theorem Names.last {m : Value → Option Value} {n : Nat} (h : IMap P k w b m n) (K : Keyed P k) (ht : P.underlying t = some (.map k e)) {x : Value} (hx : x ∈ ks) (hc : cnt ks x = 1) (h1 : ∀ y, m y ≠ none ↔ y ∈ ks) (h2 : ∀ y v, y ≠ x → m y = some v → v = .int .i64 (cnt ks y : Int)) :
    ∃ w', (∀ ty, (Builtin.delete_ #[t, k] ty #[.map (some b), x]).run P w = .ok (.tuple #[]) w') ∧ Mod (one b) w w' ∧ Names P k w' b (ks.erase x) := by
  obtain ⟨w', hr, hi, M⟩ := IMap.del h K ht ((h1 x).2 hx) 0
  refine ⟨w', fun ty => ?_, M, _, _, hi, fun y => ?_, fun y v hy => ?_⟩
  · rw [← hr]; rfl
  · have e1 := cnt_erase hx y
    have e2 : y ∈ ks.erase x ↔ cnt (ks.erase x) y ≠ 0 := by rw [ne_eq, cnt_zero]; simp
    have e3 : y ∈ ks ↔ cnt ks y ≠ 0 := by rw [ne_eq, cnt_zero]; simp
    unfold delM
    by_cases hyx : y = x
    · subst hyx
      rw [if_pos rfl, e2, e1, if_pos rfl, hc]
      simp
    · rw [if_neg hyx, h1 y, e2, e1, if_neg hyx, e3]
  · unfold delM at hy
    by_cases hyx : y = x
    · rw [if_pos hyx] at hy; cases hy
    · rw [if_neg hyx] at hy
      rw [cnt_erase hx y, if_neg hyx]
      exact h2 y v hyx hy
end Go.Proofs.YtjgjjlolhdlofaaGreatDoor

namespace Go.Proofs.YtjgjjlolhdlofaaGreatDoor
open Go.RowKit Go.Mine

end Go.Proofs.YtjgjjlolhdlofaaGreatDoor

namespace Go.Proofs.YtjgjjlolhdlofaaGreatDoor
open Go.RowKit Go.Mine

end Go.Proofs.YtjgjjlolhdlofaaGreatDoor

namespace Go.Proofs.YtjgjjlolhdlofaaGreatDoor
open Go.RowKit Go.Shelf Go.Mine Go.Maps
open Classical

/-- The cells at other places. -/
def dropFrom (sp : List (Int × Int)) : Nat → List CellV → List CellV
  | _, [] => []
  | p, c :: r => if hasPl sp p then dropFrom sp (p + 1) r else c :: dropFrom sp (p + 1) r
theorem dropFrom_append (sp : List (Int × Int)) : ∀ (a b : List CellV) (p : Nat), dropFrom sp p (a ++ b) = dropFrom sp p a ++ dropFrom sp (p + a.length) b
  | [], b, p => by simp [dropFrom]
  | c :: r, b, p => by
    rw [List.cons_append, dropFrom, dropFrom_append sp r b (p + 1), dropFrom, List.length_cons, show p + 1 + r.length = p + (r.length + 1) by omega]
    split <;> simp
theorem dropFrom_one (sp : List (Int × Int)) (p : Nat) (c : CellV) : dropFrom sp p [c] = if hasPl sp p then [] else [c] := by rw [dropFrom, dropFrom]
/-- One name less. -/
theorem erase_perm {A B : List Value} {x : Value} : ((A ++ x :: B).erase x).Perm (A ++ B) := by
  have h1 : (A ++ x :: B).Perm (x :: (A ++ B)) := List.perm_middle
  have h2 := h1.erase x
  rwa [List.erase_cons_head] at h2

/-- Behind k blocks: bl' in their places. -/
structure DrpI (wb : World) (D MB : Nat) (v : Value) (bl : List BV) (sp : List (Int × Int)) (k : Nat) (bl' : List BV) (wx : World) : Prop where
  doc : DocV wx D v MB (bl' ++ bl.drop k)
  len : bl'.length = k
  cs : cellsOf bl' = dropFrom sp 0 (cellsOf (bl.take k))
  nm : Names Tryz.prog 42 wx MB ((cellsOf bl' ++ cellsOf (bl.drop k)).map CellV.name)
  m : Mod (fun b => foot D v bl b ∨ b = MB) wb wx
  ft : ∀ b, foot D v (bl' ++ bl.drop k) b → foot D v bl b ∨ wb.heap.size ≤ b
/-- In block x, behind i of its cells: lv is what is left of them. -/
structure DrpJ (wx : World) (MB P : Nat) (A B : List CellV) (c : List CellV) (sp : List (Int × Int)) (i n : Nat) (lv : Value) (wy : World) : Prop where
  m : Mod (one MB) wx wy
  row : wy.ownsRow wx.heap.size 53 5 lv n (flat CellV.cs (dropFrom sp P (c.take i)))
  nm : Names Tryz.prog 42 wy MB ((A ++ dropFrom sp P (c.take i) ++ c.drop i ++ B).map CellV.name)
theorem DrpJ.grown {wx wy wz : World} {MB P i n : Nat} {A B c : List CellV} {sp : List (Int × Int)} {lv : Value} (h : DrpJ wx MB P A B c sp i n lv wy) (m : Mod none_ wy wz) : DrpJ wx MB P A B c sp i n lv wz :=
  ⟨h.m.transIn m (fun _ _ e => e.elim), ownsRow_mod h.row m (fun _ _ e => e), h.nm.mod m (fun e => e)⟩
theorem DrpJ.n {wx wy : World} {MB P i n : Nat} {A B c : List CellV} {sp : List (Int × Int)} {lv : Value} (h : DrpJ wx MB P A B c sp i n lv wy) : n = (dropFrom sp P (c.take i)).length := by
  have := h.row.1
  rw [flat_length CellV.len] at this
  omega
theorem drop_step {sp : List (Int × Int)} {P i : Nat} {c : List CellV} {x : CellV} (hx : c[i]? = some x) : dropFrom sp P (c.take (i + 1)) = dropFrom sp P (c.take i) ++ (if hasPl sp (P + i) then [] else [x]) ∧ c.drop i = x :: c.drop (i + 1) := by
  obtain ⟨hi, e⟩ := List.getElem?_eq_some_iff.1 hx
  refine ⟨?_, by rw [List.drop_eq_getElem_cons hi, e]⟩
  rw [List.take_succ_eq_append_getElem hi, e, dropFrom_append, dropFrom_one, List.length_take, Nat.min_eq_left (by omega)]
/-- A cell goes: its name is one less. -/
theorem DrpJ.gone {wx wy w4 : World} {MB P i n : Nat} {lv : Value} {A B c : List CellV} {sp : List (Int × Int)} {x : CellV} (h : DrpJ wx MB P A B c sp i n lv wy) (hx : c[i]? = some x) (hp : hasPl sp (P + i) = true) (m : Mod (one MB) wy w4)
    (hN : Names Tryz.prog 42 w4 MB (((A ++ dropFrom sp P (c.take i) ++ c.drop i ++ B).map CellV.name).erase x.name)) : DrpJ wx MB P A B c sp (i + 1) n lv w4 := by
  obtain ⟨h1, h2⟩ := drop_step (sp := sp) (P := P) hx
  rw [hp] at h1
  simp only [if_true, List.append_nil] at h1
  refine ⟨h.m.trans m, ?_, ?_⟩
  · rw [h1]
    refine ownsRow_mod h.row m (fun k hk e => ?_)
    have e' : k = MB := e
    subst e'
    obtain ⟨cs, hc⟩ := ownsRow_type h.row hk
    obtain ⟨mm, n', hm, _⟩ := h.nm
    exact imap_blk hm hc
  · rw [h1]
    refine hN.perm ?_
    rw [h2]
    simp only [List.map_append, List.map_cons, List.append_assoc, List.cons_append]
    rw [← List.append_assoc, ← List.append_assoc (List.map CellV.name A)]
    exact erase_perm
/-- One block is written, its array being nobody else's. -/
theorem DocV.upd2 {w w' : World} {D MB : Nat} {v : Value} {A B : List BV} {x y : BV} (h : DocV w D v MB (A ++ x :: B)) (m : Mod (fun b => b = x.p ∨ x.v.ownBlock = some b) w w') (hy : BlkV w' y) (hp : y.p = x.p) (hv : ∀ g, y.v.ownBlock = some g → ∀ z, (z ∈ A ∨ z ∈ B) → z.v.ownBlock ≠ some g) :
    DocV w' D v MB (A ++ y :: B) := by
  have hxm : x ∈ A ++ x :: B := by simp
  have hx := h.blk x hxm
  have hap := List.pairwise_append.1 h.apart
  obtain ⟨apA, apX, apAX⟩ := hap
  obtain ⟨apXB, apB⟩ := List.pairwise_cons.1 apX
  have other : ∀ z, (z ∈ A ∨ z ∈ B) → BlkV w' z ∧ apartB z x ∧ apartB x z := by
    intro z hz
    have hzm : z ∈ A ++ x :: B := by rcases hz with hz | hz <;> simp [hz]
    have hzx : apartB z x ∧ apartB x z := by
      rcases hz with hz | hz
      · have := apAX z hz x (by simp)
        exact ⟨this, fun e => this.1 e.symm, fun g h1 h2 => this.2 g h2 h1⟩
      · have := apXB z hz
        exact ⟨⟨fun e => this.1 e.symm, fun g h1 h2 => this.2 g h2 h1⟩, this⟩
    refine ⟨(h.blk z hzm).mod m ?_ ?_, hzx⟩
    · rintro (e | e)
      · exact hzx.1.1 e
      · obtain ⟨cs, hc⟩ := hx.apart_arr e
        exact Blk.apart (h.blk z hzm).b hc (by decide) rfl
    · rintro g hg (e | e)
      · obtain ⟨cs, hc⟩ := (h.blk z hzm).apart_arr hg
        exact Blk.apart hx.b hc (by decide) e.symm
      · exact hzx.1.2 g hg e
  refine ⟨h.doc.mod m ?_, ?_, ?_, ?_⟩
  · rintro (e | e)
    · exact Blk.apart h.doc hx.b (by decide) e
    · obtain ⟨cs, hc⟩ := hx.apart_arr e
      exact Blk.apart h.doc hc (by decide) rfl
  · have e1 : (A ++ y :: B).length = (A ++ x :: B).length := by simp
    have e2 : ptrsOf (A ++ y :: B) = ptrsOf (A ++ x :: B) := by simp [ptrsOf, hp]
    rw [e1, e2]
    refine ownsRow_mod h.ptrs m ?_
    rintro k hk (e | e)
    · obtain ⟨cs, hc⟩ := ownsRow_type h.ptrs hk
      exact Blk.apart hx.b hc (by decide) e.symm
    · obtain ⟨cs, hc⟩ := ownsRow_type h.ptrs hk
      obtain ⟨cs', hc'⟩ := hx.apart_arr e
      exact Blk.apart hc hc' (by decide) rfl
  · intro z hz
    rcases List.mem_append.1 hz with hz | hz
    · exact (other z (.inl hz)).1
    · rcases List.mem_cons.1 hz with rfl | hz
      · exact hy
      · exact (other z (.inr hz)).1
  · have far : ∀ z, (z ∈ A ∨ z ∈ B) → apartB z y ∧ apartB y z := by
      intro z hz
      obtain ⟨_, ⟨h1, h2⟩, _⟩ := other z hz
      have hzm : z ∈ A ++ x :: B := by rcases hz with hz | hz <;> simp [hz]
      have key : ∀ g, z.v.ownBlock = some g → y.v.ownBlock ≠ some g := fun g hg e => by
        exact hv g e z hz hg
      exact ⟨⟨by rw [hp]; exact h1, key⟩, ⟨by rw [hp]; exact fun e => h1 e.symm, fun g e1 e2 => key g e2 e1⟩⟩
    refine List.pairwise_append.2 ⟨apA, List.pairwise_cons.2 ⟨fun z hz => (far z (.inr hz)).2, apB⟩, fun z hz u hu => ?_⟩
    rcases List.mem_cons.1 hu with rfl | hu
    · exact (far z (.inl hz)).1
    · exact apAX z hz u (by simp [hu])
/-- A block done: its cells written back, and counted. -/
theorem DrpI.step {wb wx wy wz : World} {D MB k n : Nat} {v lv : Value} {bl bl' : List BV} {sp : List (Int × Int)} {x : BV} (h : DrpI wb D MB v bl sp k bl' wx) (hx : bl[k]? = some x)
    (j : DrpJ wx MB (cellsOf (bl.take k)).length (cellsOf bl') (cellsOf (bl.drop (k + 1))) x.c sp x.c.length n lv wy) (mz : Mod (one x.p) wy wz) (kz : Blk wz x.p [.int .i64 (n : Int), .int .i64 (liveN (dropFrom sp (cellsOf (bl.take k)).length x.c) : Int), lv] 145) :
    DrpI wb D MB v bl sp (k + 1) (bl' ++ [⟨x.p, lv, dropFrom sp (cellsOf (bl.take k)).length x.c⟩]) wz := by
  obtain ⟨hk, e⟩ := List.getElem?_eq_some_iff.1 hx
  have hdk : bl.drop k = x :: bl.drop (k + 1) := by rw [List.drop_eq_getElem_cons hk, e]
  have hdoc := h.doc
  rw [hdk] at hdoc
  have hnm0 := h.nm
  have hnf := foot_names hdoc (by rw [hdk] at hnm0; simpa [cellsOf] using hnm0)
  have hy := hdoc.mod j.m (fun b hb e => by have e' : b = MB := e; subst e'; exact hnf hb)
  have hbx := hy.blk x (by simp)
  have hn := j.n
  have hrow := j.row
  have hnmj := j.nm
  rw [List.take_length] at hrow hn hnmj
  rw [List.drop_length, List.append_nil] at hnmj
  have hlv : ∀ g, lv.ownBlock = some g → wx.heap.size ≤ g := fun g hg => (hrow.lt g hg).1
  have hrz := ownsRow_mod hrow mz (fun b hb e => by
    have e' : b = x.p := e
    subst e'
    obtain ⟨cs, hc⟩ := ownsRow_type hrow hb
    exact Blk.apart hbx.b hc (by decide) rfl)
  have hMBx : MB ≠ x.p := fun e => hnf (.inr (.inr ⟨x, by simp, .inl e⟩))
  have hBV : BlkV wz ⟨x.p, lv, dropFrom sp (cellsOf (bl.take k)).length x.c⟩ := by
    refine ⟨by rw [hn] at kz; exact kz, ?_⟩
    have := ownsRow_base hrz (Nat.zero_le _)
    rw [hn] at this
    exact this
  have hwx : wx.heap.size ≤ wy.heap.size := j.m.size
  have hdz : DocV wz D v MB (bl' ++ ⟨x.p, lv, dropFrom sp (cellsOf (bl.take k)).length x.c⟩ :: bl.drop (k + 1)) :=
    hy.upd2 (mz.mono (fun b _ e => .inl e)) hBV rfl (fun g hg z hz e => by
      have h1 := hlv g hg
      have h2 := ((hdoc.blk z (List.mem_append.2 (hz.imp id (List.mem_cons_of_mem _)))).o.lt g e).2
      omega)
  have hs2 := cellsOf_succ hx
  refine ⟨by simpa using hdz, by simp [h.len], ?_, ?_, (h.m.trans (j.m.mono (fun b _ e => .inr e))).transIn mz (fun b hb e => ?_), ?_⟩
  · rw [hs2, dropFrom_append, ← h.cs, Nat.zero_add]
    simp [cellsOf]
  · have := hnmj.mod mz hMBx
    simpa [cellsOf] using this
  · have e' : b = x.p := e
    subst e'
    rcases h.ft x.p (.inr (.inr ⟨x, by rw [hdk]; simp, .inl rfl⟩)) with h1 | h1
    · exact .inl h1
    · omega
  · intro b hb
    have hold : ∀ z, z ∈ bl' ++ bl.drop k → (b = z.p ∨ z.v.ownBlock = some b) → foot D v bl b ∨ wb.heap.size ≤ b := fun z hz hzb => h.ft b (.inr (.inr ⟨z, hz, hzb⟩))
    rcases hb with hb | hb | ⟨z, hz, hzb⟩
    · exact h.ft b (.inl hb)
    · exact h.ft b (.inr (.inl hb))
    · rw [List.append_assoc, List.mem_append] at hz
      rcases hz with hz | hz
      · exact hold z (List.mem_append_left _ hz) hzb
      · rcases List.mem_cons.1 hz with rfl | hz
        · rcases hzb with hzb | hzb
          · exact hold x (by rw [hdk]; simp) (.inl hzb)
          · right
            have h1 := hlv b hzb
            have h2 := h.m.size
            omega
        · have hz' : z ∈ bl.drop (k + 1) := by simpa using hz
          exact hold z (by rw [hdk]; simp [hz']) hzb
end Go.Proofs.YtjgjjlolhdlofaaGreatDoor

namespace Go.Proofs.YtjgjjlolhdlofaaGreatDoor
open Go.RowKit Go.Mine

/-- An operation that came in: whatever long its text is. -/
structure OpV.ok0 (o : OpV) (w : World) (l : List (Int × Int)) : Prop where
  sz : o.text.size ≤ maxLen
  sp : IsSpans w o.sa o.slen o.scap l
  ok : o.text.size < 4611686018427387904 → o.ok w l
theorem OpV.ok0.grown {o : OpV} {w w' : World} {l : List (Int × Int)} (h : o.ok0 w l) (m : Mod none_ w w') : o.ok0 w' l := ⟨h.sz, h.sp.grown m, fun hs => (h.ok hs).grown m⟩
/-- An act of a document. -/
structure ActV where
  k : Int
  o : OpV
  sp : List (Int × Int)
/-- Acts in memory. -/
structure IsActs (w : World) (a : Option Addr) (len cap : Nat) (l : List ActV) : Prop where
  n : l.length = len
  le : len ≤ cap
  big : cap ≤ maxLen
  ok : ∀ x ∈ l, x.o.ok0 w x.sp ∧ 0 ≤ x.k ∧ x.k ≤ 255
  acts : ∀ (i : Nat) (x : ActV), l[i]? = some x → ∃ b off, a = some ⟨b, off, none⟩ ∧ w.cell? ⟨b, off + i * 8, none⟩ = some (.int .u8 x.k) ∧ w.rangeAt b (off + i * 8 + 1) x.o.cs
theorem IsActs.grown {w w' : World} {a : Option Addr} {len cap : Nat} {l : List ActV} (h : IsActs w a len cap l) (m : Mod none_ w w') : IsActs w' a len cap l :=
  ⟨h.n, h.le, h.big, fun x hx => ⟨(h.ok x hx).1.grown m, (h.ok x hx).2⟩, fun i c hc => by
    obtain ⟨b, off, e, hk, hr⟩ := h.acts i c hc
    exact ⟨b, off, e, m.cell (fun e => e) hk, fun j v hv => m.cell (fun e => e) (hr j v hv)⟩⟩

def bigOp (o : OpV) : Bool := decide (40 < (o.slen : Int)) || decide (1000 < (o.text.size : Int))
set_option maxHeartbeats 1000000 in
set_option maxRecDepth 1000000 in
theorem great_op (o : OpV) (w : World) (l : List (Int × Int)) (h : o.ok0 w l) :
    Calls Tryz.prog 22 #[o.v] w fun e w' => e = .returned (.bool (bigOp o)) ∧ Mod none_ w w' := by
  have hsz := h.sz
  have hle := h.sp.le
  have hbig := h.sp.big
  unfold maxLen at hbig hsz
  obtain ⟨W0, hW0⟩ : ∃ W0, w.alloc (.cells o.cs.toArray 58) = W0 := ⟨_, rfl⟩
  obtain ⟨m0, kB⟩ := opBox1 hW0
  have M0 := Lib.hid m0
  have c5 : W0.cell? ⟨w.heap.size, 5, none⟩ = some (.string o.text) := by rw [kB.cell]; rfl
  have c6 : W0.cell? ⟨w.heap.size, 6, none⟩ = some (.slice o.sa o.slen o.scap) := by rw [kB.cell]; rfl
  unfold bigOp
  clear h m0 kB
  by_cases h1 : 40 < (o.slen : Int)
  · have hd : decide (40 < (o.slen : Int)) = true := by simpa using h1
    go_enter Tryz.func22, Tryz.ntmps22
    go_upto_region 1 with fail
    clear hW0
    go_wp2_with fail
    go_ret
    exact ⟨by rw [hd]; rfl, M0.out⟩
  · have hd : decide (40 < (o.slen : Int)) = false := by simp; omega
    go_enter Tryz.func22, Tryz.ntmps22
    go_upto_region 1 with fail
    clear hW0
    go_wp2_with fail
    go_ret
    exact ⟨rfl, M0.out⟩

/-- How many of the first p cells are live. -/
def seenN (l : List CellV) (p : Nat) : Nat := liveN (l.take p)
theorem seenN_succ {l : List CellV} {k : Nat} {c : CellV} (h : l[k]? = some c) : seenN l (k + 1) = seenN l k + if c.gone then 0 else 1 := by
  obtain ⟨hi, e⟩ := List.getElem?_eq_some_iff.1 h
  unfold seenN
  rw [List.take_succ_eq_append_getElem hi, e, liveN_snoc]
theorem seenN_all (l : List CellV) : seenN l l.length = liveN l := by unfold seenN; rw [List.take_length]
set_option maxHeartbeats 1000000 in
set_option maxRecDepth 1000000 in
theorem rseen_any (w : World) (a : Option Addr) (len cap : Nat) (l : List CellV) (h : IsCells w a len cap l) (p : Nat) (hp : p ≤ len) :
    Calls Tryz.prog 36 #[.slice a len cap, .int .i64 p] w fun e w' => e = .returned (.int .i64 (seenN l p : Int)) ∧ Mod none_ w w' := by
  have hle := h.le
  have hcap := h.big
  have hn := h.n
  unfold maxLen at hcap
  have H := Lib.hid h
  have HN := Lib.hid hn
  clear h hn
  go_enter Tryz.func36, Tryz.ntmps36
  go_wp2_with fail
  go_loopg [5, 6] p (fun g s5 s6 wx => ∃ k n : Nat, g = p - k ∧ s5 = .int .i64 n ∧ s6 = .int .i64 k ∧ k ≤ p ∧ n ≤ k ∧ wx = w ∧ RowKit.Hid (n = seenN l k))
  case atStart => exact ⟨0, 0, rfl, rfl, rfl, Nat.zero_le _, Nat.zero_le _, rfl, Lib.hid rfl⟩
  case round =>
    obtain ⟨k, n, rfl, rfl, rfl, hk, hnk, rfl, hst⟩ := hrel
    by_cases hlk : k < p
    · obtain ⟨c, hx⟩ : ∃ x, l[k]? = some x := ⟨l[k]'(by rw [HN.out]; omega), by simp⟩
      obtain ⟨g, off, rfl, hr⟩ := H.out.cells k c hx
      have c4 := hr 4 _ rfl
      have HS := Lib.hid (seenN_succ hx)
      have hkl : k < len := by omega
      clear hr hx
      cases hg : c.gone
      · rw [hg] at c4 HS
        go_wp2_with fail
        go_roundg (p - (k + 1))
        all_goals first
          | omega
          | exact ⟨k + 1, n + 1, rfl, by go_num, by go_num, by omega, by omega, rfl, Lib.hid (by rw [HS.out, hst.out]; rfl)⟩
      · rw [hg] at c4 HS
        go_wp2_with fail
        go_roundg (p - (k + 1))
        all_goals first
          | omega
          | exact ⟨k + 1, n, rfl, rfl, by go_num, by omega, by omega, rfl, Lib.hid (by rw [HS.out, hst.out]; rfl)⟩
    · obtain rfl : k = p := by omega
      have HF := Lib.hid hst.out
      clear hst
      go_wp2_with fail
      go_ret
      exact ⟨by rw [← HF.out]; rfl, Mod.refl _ _⟩
theorem rlive_any (w : World) (a : Option Addr) (len cap : Nat) (l : List CellV) (h : IsCells w a len cap l) :
    Calls Tryz.prog 38 #[.slice a len cap] w fun e w' => e = .returned (.int .i64 (liveN l : Int)) ∧ Mod none_ w w' := by
  have HS := Lib.hid (rseen_any w a len cap l h len (Nat.le_refl _))
  rw [← h.n, seenN_all, h.n] at HS
  have hle := h.le
  have hcap := h.big
  unfold maxLen at hcap
  clear h
  go_enter Tryz.func38, Tryz.ntmps38
  go_wp2_with fail
  refine HS.out.mono ?_
  rintro e w1 ⟨rfl, m1⟩
  go_wp2_with fail
  go_ret
  exact ⟨rfl, m1⟩
end Go.Proofs.YtjgjjlolhdlofaaGreatDoor

namespace Go.Proofs.YtjgjjlolhdlofaaGreatDoor
open Go.RowKit Go.Mine

def seenV (l : List CellV) (p : Int) : Value := if p < 0 ∨ (l.length : Int) < p then .tuple #[.int .i64 0, .int .i64 3] else .tuple #[.int .i64 (seenN l p.toNat : Int), .int .i64 0]
theorem seenN_le (l : List CellV) (p : Nat) : seenN l p ≤ p ∧ seenN l p ≤ l.length := by
  unfold seenN
  have := liveN_le (l.take p)
  rw [List.length_take] at this
  omega
theorem seenN_ge (c r : List CellV) (p : Nat) (h : c.length ≤ p) : seenN (c ++ r) p = liveN c + seenN r (p - c.length) := by
  unfold seenN
  rw [List.take_append, List.take_of_length_le h, liveN_append]
theorem seenN_lt (c r : List CellV) (p : Nat) (h : p ≤ c.length) : seenN (c ++ r) p = seenN c p := by
  unfold seenN
  rw [List.take_append_of_le_length h]

set_option maxHeartbeats 4000000 in
set_option maxRecDepth 1000000 in
theorem seen_any (w : World) (B D : Nat) (l : List CellV) (p : Int) (h : DocIs w B D l) (hlen : l.length ≤ 1099511627776) :
    Calls Tryz.prog 89 #[.pointer (some ⟨D, 0, none⟩), .int .i64 p] w fun e w' => e = .returned (seenV l p) ∧ Mod none_ w w' := by
  have HSZ := Lib.hid (size_any w B D l h hlen)
  have HDOC := Lib.hid h
  obtain ⟨R, hR⟩ : ∃ R, R = seenV l p := ⟨_, rfl⟩
  rw [← hR]
  have HR := Lib.hid hR
  clear hR h
  go_enter Tryz.func89, Tryz.ntmps89
  by_cases hi0 : p < 0
  · have HE := Lib.hid (show R = .tuple #[.int .i64 0, .int .i64 3] by rw [HR.out]; unfold seenV; rw [if_pos (.inl hi0)])
    have hd : decide (p < 0) = true := by simp; omega
    go_wp2_with fail
    go_ret2
    exact ⟨by rw [HE.out]; rfl, Mod.refl _ _⟩
  have hd0 : decide (p < 0) = false := by simp; omega
  go_wp2_with fail
  refine HSZ.out.mono ?_
  rintro e wA ⟨rfl, m1⟩
  have MA := Lib.hid m1
  clear m1 HSZ
  by_cases hi1 : (l.length : Int) < p
  · have HE := Lib.hid (show R = .tuple #[.int .i64 0, .int .i64 3] by rw [HR.out]; unfold seenV; rw [if_pos (.inr hi1)])
    have hd : decide ((l.length : Int) < p) = true := by simp; omega
    go_wp2_with fail
    go_ret2
    exact ⟨by rw [HE.out]; rfl, MA.out⟩
  have hd1 : decide ((l.length : Int) < p) = false := by simp; omega
  obtain ⟨p0, rfl⟩ : ∃ p0 : Nat, p = (p0 : Int) := ⟨p.toNat, by omega⟩
  have HE := Lib.hid (show R = .tuple #[.int .i64 (seenN l p0 : Int), .int .i64 0] by rw [HR.out]; unfold seenV; rw [if_neg (by omega)]; rfl)
  obtain ⟨⟨v, MB, bl, n, kd, hdb, hfl, _⟩, _⟩ := HDOC.out
  obtain ⟨va, vc, rfl⟩ : ∃ va vc, v = .slice va bl.length vc := by
    rcases ownsRow_blk hdb.1 with ⟨rfl, h0, _⟩ | ⟨g, c', _, rfl, _⟩
    · exact ⟨none, 0, by rw [h0]⟩
    · exact ⟨_, c', rfl⟩
  have hcap := hdb.cap
  unfold maxLen at hcap
  have hbn : bl.length ≤ 9223372036854775807 := by omega
  have cd : wA.cell? ⟨D, 0, none⟩ = some (.slice va bl.length vc) := by
    have := (kd.mod MA.out (fun e => e)).cell 0
    exact this
  obtain ⟨GP, hGP⟩ : ∃ GP, GP = seenN l p0 := ⟨_, rfl⟩
  have hGL : GP ≤ l.length := by rw [hGP]; exact (seenN_le l p0).2
  have hpl : p0 ≤ l.length := by omega
  have hd2 : decide (l.length < p0) = false := by simp; omega
  have H0 : rstBs bl 0 = l := by unfold rstBs; rw [List.drop_zero, hfl]
  have HS := Lib.hid (show 0 + seenN (rstBs bl 0) p0 = GP ∧ p0 ≤ (rstBs bl 0).length ∧ (rstBs bl 0).length ≤ l.length by rw [H0, hGP]; omega)
  rw [← hGP] at HE
  have HDB := Lib.hid hdb
  clear hcap hdb hfl kd hGP H0 HR hpl
  go_wp2_with fail
  go_loopg [1, 6, 26] bl.length (fun g s1 s6 s26 wx => ∃ k n' p' : Nat, g = bl.length - k ∧ s1 = .int .i64 p' ∧ s6 = .int .i64 n' ∧ s26 = .int .i64 k ∧ k ≤ bl.length ∧ Mod none_ w wx ∧ RowKit.Hid (n' + seenN (rstBs bl k) p' = GP ∧ p' ≤ (rstBs bl k).length ∧ (rstBs bl k).length ≤ l.length))
  case atStart => exact ⟨0, 0, p0, rfl, rfl, rfl, rfl, Nat.zero_le _, MA.out, HS⟩
  case round =>
    obtain ⟨k, n', p', rfl, rfl, rfl, rfl, hk, mx, hst⟩ := hrel
    have MX := Lib.hid mx
    by_cases hlk : k < bl.length
    · obtain ⟨x, hx⟩ : ∃ x, bl[k]? = some x := ⟨bl[k]'hlk, by simp⟩
      have hdx := HDB.out.grown mx
      obtain ⟨g, rfl, c0⟩ := hdx.at_ hx
      obtain ⟨⟨vb, kb, hrow, _⟩, _⟩ := hdx.2 x (List.mem_of_getElem? hx)
      obtain ⟨h1, h2, h3⟩ := hst.out
      rw [rstBs_step hx] at h1 h2 h3
      obtain ⟨q, c⟩ := x
      dsimp only at c0 kb hrow h1 h2 h3
      rw [List.length_append] at h2 h3
      have b0 : wr.cell? ⟨q, 0, none⟩ = some (.int .i64 (c.length : Int)) := by rw [kb.cell]; rfl
      have b1 : wr.cell? ⟨q, 1, none⟩ = some (.int .i64 (liveN c : Int)) := by rw [kb.cell]; rfl
      have b2 : wr.cell? ⟨q, 2, none⟩ = some vb := by rw [kb.cell]; rfl
      have hcl := liveN_le c
      by_cases hge : c.length ≤ p'
      · rw [seenN_ge _ _ _ hge] at h1
        have HS2 := Lib.hid (show (n' + liveN c) + seenN (rstBs bl (k + 1)) (p' - c.length) = GP ∧ p' - c.length ≤ (rstBs bl (k + 1)).length ∧ (rstBs bl (k + 1)).length ≤ l.length by omega)
        have hw1 : (n' : Int) + liveN c ≤ 1099511627776 := by omega
        have hw2 : (p' : Int) - c.length ≤ 1099511627776 := by omega
        have hdg : decide ((c.length : Int) ≤ (p' : Int)) = true := by simp; omega
        clear hdx hx mx kb hrow h1 h2 h3 hst
        go_wp2_with fail
        go_roundg (bl.length - (k + 1))
        case measure => omega
        case rel => exact ⟨k + 1, n' + liveN c, p' - c.length, rfl, by (congr 1; omega), by (congr 1), by go_num, by omega, MX.out, HS2⟩
      · rw [seenN_lt _ _ _ (by omega)] at h1
        have hdg : decide ((c.length : Int) ≤ (p' : Int)) = false := by simp; omega
        have hw1 : n' ≤ 1099511627776 := by omega
        have hw2 : c.length ≤ 1099511627776 := by omega
        have hpc : p' < c.length := by omega
        have HF := Lib.hid h1
        rcases ownsRow_blk hrow with ⟨rfl, hz, _⟩ | ⟨gc, capc, more, rfl, _, kg, hnc, hcm, _⟩
        · omega
        unfold maxLen at hcm
        have hpcap : p' ≤ capc := by omega
        have KG := Lib.hid kg
        clear hdx hx mx kb hrow h1 h2 h3 hst kg
        go_wp2_with fail
        go_loopg [6, 58] p' (fun g s6 s58 wx => ∃ j n2 : Nat, g = p' - j ∧ s6 = .int .i64 n2 ∧ s58 = .int .i64 j ∧ j ≤ p' ∧ Mod none_ wr wx ∧ RowKit.Hid (n2 = n' + seenN c j))
        case atStart => exact ⟨0, n', rfl, rfl, rfl, Nat.zero_le _, Mod.refl _ _, Lib.hid rfl⟩
        case round =>
          obtain ⟨j, n2, rfl, rfl, rfl, hj, my, hst2⟩ := hrel
          by_cases hjp : j < p'
          · obtain ⟨y, hy⟩ : ∃ y, c[j]? = some y := ⟨c[j]'(by omega), by simp⟩
            have kgx := KG.out.mod my (fun e => e)
            have q0 := Blk.elem CellV.len kgx j 0 y hy (by decide)
            have q1 := Blk.elem CellV.len kgx j 1 y hy (by decide)
            have q2 := Blk.elem CellV.len kgx j 2 y hy (by decide)
            have q3 := Blk.elem CellV.len kgx j 3 y hy (by decide)
            have q4 := Blk.elem CellV.len kgx j 4 y hy (by decide)
            simp only [CellV.cs, Nat.add_zero, List.getElem?_cons_zero, List.getElem?_cons_succ] at q0 q1 q2 q3 q4
            have hgl := kgx.lt
            have MY := Lib.hid my
            have hs := seenN_succ hy
            have hsl := (seenN_le c j).1
            have e2 := hst2.out
            have hw3 : n2 ≤ 2199023255552 := by omega
            have HS3 := Lib.hid hs
            have HE2 := Lib.hid e2
            clear hst2 hy my kgx hs hsl e2
            cases hgone : y.gone
            · rw [hgone] at q4 HS3
              go_wp2_with fail
              all_goals go_roundg (p' - (j + 1))
              all_goals first
                | omega
                | exact ⟨j + 1, n2 + 1, rfl, by go_num, by go_num, by omega, MY.out.alloc _, Lib.hid (by rw [HS3.out, HE2.out]; simp; omega)⟩
            · rw [hgone] at q4 HS3
              go_wp2_with fail
              all_goals go_roundg (p' - (j + 1))
              all_goals first
                | omega
                | exact ⟨j + 1, n2, rfl, rfl, by go_num, by omega, MY.out.alloc _, Lib.hid (by rw [HS3.out, HE2.out]; simp)⟩
          · obtain rfl : j = p' := by omega
            have hfin := hst2.out
            rw [HF.out] at hfin
            have MZ := Lib.hid (MX.out.trans my)
            subst hfin
            clear hst2 my
            go_wp2_with fail
            all_goals go_ret2
            all_goals exact ⟨by rw [HE.out]; rfl, MZ.out⟩
    · obtain rfl : k = bl.length := by omega
      have hfin : n' = GP := by
        obtain ⟨h1, h2, _⟩ := hst.out
        have hr0 : rstBs bl bl.length = [] := by unfold rstBs; rw [List.drop_length]; rfl
        rw [hr0] at h1 h2
        have : seenN [] p' = 0 := by unfold seenN; simp [liveN]
        omega
      subst hfin
      clear hst mx
      go_wp2_with fail
      all_goals go_ret2
      all_goals exact ⟨by rw [HE.out]; rfl, MX.out⟩

end Go.Proofs.YtjgjjlolhdlofaaGreatDoor

namespace Go.Proofs.YtjgjjlolhdlofaaGreatDoor
open Go.RowKit Go.Mine

theorem ix0 (a t : Int) (w : World) : (Instr.index 156 (.agg #[.int .i64 a, .int .i64 t]) (.int .i64 0)).run Tryz.prog w = .ok (.int .i64 a) w := by kernel_rfl
theorem ix1 (a t : Int) (w : World) : (Instr.index 156 (.agg #[.int .i64 a, .int .i64 t]) (.int .i64 1)).run Tryz.prog w = .ok (.int .i64 t) w := by kernel_rfl
attribute [local go_sem] ix0 ix1

end Go.Proofs.YtjgjjlolhdlofaaGreatDoor

namespace Go.Proofs.YtjgjjlolhdlofaaGreatDoor
open Go.RowKit Go.Mine

/-- Where a place is behind n cells inserted. -/
def pointOf (p at_ n : Int) (stays : Bool) : Int := if at_ < p ∨ (p = at_ ∧ stays = false) then p + n else p

end Go.Proofs.YtjgjjlolhdlofaaGreatDoor

namespace Go.Proofs.YtjgjjlolhdlofaaGreatDoor
open Go.RowKit Go.Mine

end Go.Proofs.YtjgjjlolhdlofaaGreatDoor

namespace Go.Proofs.YtjgjjlolhdlofaaGreatDoor
open Go.RowKit Go.Mine

end Go.Proofs.YtjgjjlolhdlofaaGreatDoor

namespace Go.Proofs.YtjgjjlolhdlofaaGreatDoor
open Go.RowKit Go.Mine

end Go.Proofs.YtjgjjlolhdlofaaGreatDoor

namespace Go.Proofs.YtjgjjlolhdlofaaGreatDoor
open Go.RowKit Go.Mine

/-- Where a place is behind an operation. -/
def movP (o : OpV) (p : Int) (stays : Bool) : Int := if o.kind = 1 then pointOf p o.at_ (addsOf o) stays else p

end Go.Proofs.YtjgjjlolhdlofaaGreatDoor

namespace Go.Proofs.YtjgjjlolhdlofaaGreatDoor
open Go.RowKit Go.Mine

end Go.Proofs.YtjgjjlolhdlofaaGreatDoor

namespace Go.Proofs.YtjgjjlolhdlofaaGreatDoor
open Go.RowKit Go.Mine

end Go.Proofs.YtjgjjlolhdlofaaGreatDoor

namespace Go.Proofs.YtjgjjlolhdlofaaGreatDoor
open Go.RowKit Go.Shelf Go.Mine Go.Maps
open Classical

/-- Cells that a document may have. -/
structure Cl (l : List CellV) : Prop where
  ids : (l.map CellV.id).Nodup
  ok : ∀ c ∈ l, c.ok
  big : l.length ≤ 20000

theorem ins_runes {o : OpV} {n : Int} (h : insOk o n = true) : ∃ rs, runesOf o.text = some rs ∧ runesD o.text = rs ∧ ulen o.text = rs.length ∧ 1 ≤ rs.length ∧ rs.length ≤ 200 ∧ (rs.length : Int) ≤ 20000 - n ∧ 0 ≤ o.at_ ∧ o.at_ ≤ n ∧ ∀ r ∈ rs, r ≤ 1114111 := by
  simp only [insOk, Bool.and_eq_true, decide_eq_true_eq, inB, textOk] at h
  obtain ⟨⟨⟨h1, h2, h3⟩, h4⟩, h5⟩ := h
  cases hr : runesOf o.text with
  | none => rw [ulen_none hr] at h3; omega
  | some rs =>
    have hu := ulen_some hr
    exact ⟨rs, rfl, by unfold runesD; rw [hr]; rfl, hu, by omega, by omega, by omega, h1.1, h1.2, runes_le _ o.text (Nat.le_refl _) rs hr⟩

theorem markS_ids (sp : List (Int × Int)) (l : List CellV) : (markS sp 0 l).map CellV.id = l.map CellV.id := by
  unfold markS
  apply List.ext_getElem?
  intro i
  rw [List.getElem?_map, List.getElem?_map, markP_get]
  cases l[i]? with
  | none => rfl
  | some c => simp only [Option.map_some]; split <;> rfl

theorem fresh_ids (o : OpV) (rs : List Nat) : ((freshC o rs).map CellV.id).Nodup := by
  unfold List.Nodup
  rw [List.pairwise_iff_getElem]
  intro i j hi hj hij e
  simp [freshC, CellV.id] at e
  omega
theorem fresh_name {o : OpV} {rs : List Nat} {c : CellV} (h : c ∈ freshC o rs) : c.site = o.site ∧ c.seq = o.seq := by
  unfold freshC at h
  rw [List.mem_mapIdx] at h
  obtain ⟨i, hi, rfl⟩ := h
  exact ⟨rfl, rfl⟩

/-- An operation that may be and is carried out: what it is. -/
theorem doE_zero {o : OpV} {sp : List (Int × Int)} {l : List CellV} (h : doE o sp l = 0) : opMay o sp l.length = true ∧ ((¬ o.kind = 1 ∧ doL o sp l = markS sp 0 l) ∨ (o.kind = 1 ∧ insOk o l.length = true ∧ o.name ∉ l.map CellV.name ∧ doL o sp l = l.take o.at_.toNat ++ freshC o (runesD o.text) ++ l.drop o.at_.toNat)) := by
  unfold doE at h
  by_cases hm : opMay o sp l.length = true
  · rw [if_pos hm] at h
    refine ⟨hm, ?_⟩
    unfold doL
    rw [if_pos hm]
    have hm' := hm
    unfold opMay at hm'
    simp only [Bool.and_eq_true] at hm'
    by_cases hk : o.kind = 2
    · rw [if_pos hk]
      exact .inl ⟨by omega, rfl⟩
    · rw [if_neg hk] at h ⊢
      by_cases hn : o.name ∈ l.map CellV.name
      · rw [if_pos hn] at h; omega
      · rw [if_neg hn]
        have h3 := hm'.2
        by_cases hk1 : o.kind = 1
        · rw [if_pos hk1] at h3
          exact .inr ⟨hk1, h3, hn, rfl⟩
        · rw [if_neg hk1, if_neg hk] at h3; cases h3
  · rw [if_neg hm] at h; omega

/-- An operation that is refused leaves the cells. -/
theorem doL_same {o : OpV} {sp : List (Int × Int)} {l : List CellV} (h : ¬ doE o sp l = 0) : doL o sp l = l := by
  unfold doE at h
  unfold doL
  by_cases hm : opMay o sp l.length = true
  · rw [if_pos hm] at h ⊢
    by_cases hk : o.kind = 2
    · rw [if_pos hk] at h; exact absurd rfl h
    · rw [if_neg hk] at h ⊢
      by_cases hn : o.name ∈ l.map CellV.name
      · rw [if_pos hn]
      · rw [if_neg hn] at h; exact absurd rfl h
  · rw [if_neg hm]

theorem Cl.doL {o : OpV} {sp : List (Int × Int)} {l : List CellV} (h : Cl l) (hs : -9223372036854775808 ≤ o.site ∧ o.site ≤ 9223372036854775807) (hq : -9223372036854775808 ≤ o.seq ∧ o.seq ≤ 9223372036854775807) : Cl (doL o sp l) := by
  by_cases he : doE o sp l = 0
  · rcases (doE_zero he).2 with ⟨_, e⟩ | ⟨_, hi, hn, e⟩
    · rw [e]
      exact ⟨by rw [markS_ids]; exact h.ids, fun c hc => markP_ok h.ok c hc, by rw [markS_len]; exact h.big⟩
    · rw [e]
      obtain ⟨rs, hr, hd, hu, h1, h2, h3, h4, h5, h6⟩ := ins_runes hi
      rw [hd]
      refine ⟨?_, ?_, ?_⟩
      · have hp : ((l.take o.at_.toNat ++ freshC o rs ++ l.drop o.at_.toNat).map CellV.id).Perm ((l ++ freshC o rs).map CellV.id) := by
          refine List.Perm.map _ ?_
          conv => rhs; rw [← List.take_append_drop o.at_.toNat l]
          rw [List.append_assoc, List.append_assoc]
          exact (List.perm_append_comm).append_left _
        rw [hp.nodup_iff, List.map_append, List.nodup_append]
        refine ⟨h.ids, fresh_ids o rs, ?_⟩
        intro a ha b hb hab
        subst hab
        obtain ⟨c, hc, rfl⟩ := List.mem_map.1 ha
        obtain ⟨d, hd', e2⟩ := List.mem_map.1 hb
        obtain ⟨e3, e4⟩ := fresh_name hd'
        simp [CellV.id] at e2
        exact hn (List.mem_map.2 ⟨c, hc, by simp [CellV.name, OpV.name, ← e2.1, ← e2.2.1, e3, e4]⟩)
      · intro c hc
        simp only [List.mem_append] at hc
        rcases hc with (hc | hc) | hc
        · exact h.ok c (List.mem_of_mem_take hc)
        · exact freshC_ok o rs hs hq h2 h6 c hc
        · exact h.ok c (List.mem_of_mem_drop hc)
      · simp only [List.length_append, List.length_take, List.length_drop, freshC_len]
        have := h.big
        omega
  · rw [doL_same he]; exact h

/-- A place right behind the cell of a name. -/
def behind (s q f : Int) (l : List CellV) (p : Int) : Prop := ∃ (i : Nat) (c : CellV), l[i]? = some c ∧ c.site = s ∧ c.seq = q ∧ c.off = f ∧ p = (i : Int) + 1
theorem behind.doL {s q f p : Int} {o : OpV} {sp : List (Int × Int)} {l : List CellV} (h : behind s q f l p) (he : doE o sp l = 0) : behind s q f (doL o sp l) (movP o p true) := by
  obtain ⟨i, c, hc, h1, h2, h3, hp⟩ := h
  have hlt := (List.getElem?_eq_some_iff.1 hc).1
  rcases (doE_zero he).2 with ⟨hk, e⟩ | ⟨hk, hi, hn, e⟩
  · rw [e]
    unfold movP
    rw [if_neg hk]
    refine ⟨i, _, by unfold markS; rw [markP_get, hc]; rfl, ?_, ?_, ?_, hp⟩
    all_goals split <;> assumption
  · rw [e]
    obtain ⟨rs, hr, hd, hu, g1, g2, g3, g4, g5, g6⟩ := ins_runes hi
    rw [hd]
    have hadd : addsOf o = rs.length := by unfold addsOf; rw [if_pos hk, hu]; omega
    unfold movP pointOf
    rw [if_pos hk, hadd]
    obtain ⟨at_, hat⟩ : ∃ n : Nat, o.at_ = n := ⟨o.at_.toNat, by omega⟩
    rw [hat] at g5 ⊢
    have hat2 : at_ ≤ l.length := by omega
    simp only [Int.toNat_natCast]
    by_cases hia : at_ ≤ i
    · rw [if_pos (.inl (by omega))]
      refine ⟨i + rs.length, c, ?_, h1, h2, h3, by rw [hp]; omega⟩
      rw [List.append_assoc, List.getElem?_append_right (by rw [List.length_take]; omega), List.length_take, Nat.min_eq_left hat2, List.getElem?_append_right (by rw [freshC_len]; omega), freshC_len, List.getElem?_drop, ← hc]
      congr 1; omega
    · rw [if_neg (by rintro (h | ⟨_, h⟩); omega; cases h)]
      refine ⟨i, c, ?_, h1, h2, h3, hp⟩
      rw [List.append_assoc, List.getElem?_append_left (by rw [List.length_take]; omega), List.getElem?_take, if_pos (by omega)]
      exact hc
end Go.Proofs.YtjgjjlolhdlofaaGreatDoor

namespace Go.Proofs.YtjgjjlolhdlofaaGreatDoor
open Go.RowKit Go.Mine
open Classical

end Go.Proofs.YtjgjjlolhdlofaaGreatDoor

namespace Go.Proofs.YtjgjjlolhdlofaaGreatDoor
open Go.RowKit Go.Mine
open Classical

end Go.Proofs.YtjgjjlolhdlofaaGreatDoor

namespace Go.Proofs.YtjgjjlolhdlofaaGreatDoor
open Go.RowKit Go.Shelf Go.Mine Go.Maps
open Classical
attribute [local go_sem] Oper.semAt_some
attribute [local go_sem ↓] app_fold

end Go.Proofs.YtjgjjlolhdlofaaGreatDoor

namespace Go.Proofs.YtjgjjlolhdlofaaGreatDoor
open Go.RowKit Go.Mine
open Classical

/-- Since w only new blocks; the document D of the cells L lies in new blocks, none of them in E. -/
structure DocF (w : World) (E : Nat → Prop) (wx : World) (D : Nat) (L : List CellV) : Prop where
  m : Mod none_ w wx
  doc : ∃ S, DocS wx S D L ∧ ∀ k, S k → w.heap.size ≤ k ∧ ¬ E k
  ex : ∀ k, E k → k < wx.heap.size
  cl : Cl L
theorem DocF.grown {w wx wy : World} {E : Nat → Prop} {D : Nat} {L : List CellV} (h : DocF w E wx D L) (m : Mod none_ wx wy) : DocF w E wy D L :=
  ⟨h.m.trans m, (by obtain ⟨S, h1, h2⟩ := h.doc; exact ⟨S, h1.grown m, h2⟩), fun k hk => Nat.lt_of_lt_of_le (h.ex k hk) m.size, h.cl⟩
theorem DocF.box {w wx wy : World} {E : Nat → Prop} {D : Nat} {L : List CellV} (h : DocF w E wx D L) (m : Mod none_ wx wy) : DocF w (fun k => E k ∨ (wx.heap.size ≤ k ∧ k < wy.heap.size)) wy D L := by
  obtain ⟨S, h1, h2⟩ := h.doc
  refine ⟨h.m.trans m, ⟨fun k => S k ∧ k < wx.heap.size, (h1.mono (T := fun k => S k ∧ k < wx.heap.size) (fun k hk hs => ⟨hs, hk⟩)).grown m, fun k hk => ⟨(h2 k hk.1).1, ?_⟩⟩, ?_, h.cl⟩
  · rintro (he | ⟨he, _⟩)
    · exact (h2 k hk.1).2 he
    · have := hk.2; omega
  · rintro k (hk | hk)
    · exact Nat.lt_of_lt_of_le (h.ex k hk) m.size
    · exact hk.2
theorem DocF.less {w wx : World} {E E' : Nat → Prop} {D : Nat} {L : List CellV} (h : DocF w E wx D L) (hE : ∀ k, E' k → E k) : DocF w E' wx D L :=
  ⟨h.m, (by obtain ⟨S, h1, h2⟩ := h.doc; exact ⟨S, h1, fun k hk => ⟨(h2 k hk).1, fun e => (h2 k hk).2 (hE k e)⟩⟩), fun k hk => h.ex k (hE k hk), h.cl⟩
theorem DocF.is {w wx : World} {E : Nat → Prop} {D : Nat} {L : List CellV} (h : DocF w E wx D L) : DocIs wx 0 D L := by
  obtain ⟨S, h1, _⟩ := h.doc
  exact h1.is
/-- A store into the blocks that are kept. -/
theorem DocF.put {w wx wy : World} {E : Nat → Prop} {D : Nat} {L : List CellV} (h : DocF w E wx D L) (m : Mod E wx wy) (hE : ∀ k, E k → w.heap.size ≤ k) : DocF w E wy D L := by
  obtain ⟨S, h1, h2⟩ := h.doc
  exact ⟨h.m.transIn m (fun b hb e => by have := hE b e; omega), ⟨S, h1.mod m (fun k hk => (h2 k hk).2), h2⟩, fun k hk => Nat.lt_of_lt_of_le (h.ex k hk) m.size, h.cl⟩
/-- A world on: the document's cells are L', all blocks that are kept stay. -/
structure DocN (w : World) (E : Nat → Prop) (wx : World) (D : Nat) (L' : List CellV) (w' : World) : Prop where
  f : DocF w E w' D L'
  bs : ∀ (b : Nat) (cs : List Value) (t : TypeId), E b → Blk wx b cs t → Blk w' b cs t
  sz : wx.heap.size ≤ w'.heap.size
theorem far_of {w : World} {S : Nat → Prop} {sa : Option Addr} {n c : Nat} {sp : List (Int × Int)} (hsp : IsSpans w sa n c sp) (hS : ∀ k, S k → w.heap.size ≤ k) : ∀ b off, sa = some ⟨b, off, none⟩ → 0 < n → ¬ S b := by
  intro b off hsa hpos hsb
  have h1 := hS b hsb
  have hl : 0 < sp.length := by rw [hsp.n]; exact hpos
  obtain ⟨b', off', e, hc, _⟩ := hsp.cells 0 sp[0] (List.getElem?_eq_getElem hl)
  rw [hsa] at e
  cases e
  have := block_lt_of_cell hc
  simp at this
  omega
theorem Cl.new {l : List CellV} (h : newE l = 0) (hok : ∀ c ∈ l, c.ok) (hl : l.length ≤ 20000) : Cl l := by
  unfold newE at h
  by_cases h1 : l.all cellOk = true
  · rw [if_pos h1] at h
    by_cases h2 : (l.map CellV.id).Nodup
    · exact ⟨h2, hok, hl⟩
    · rw [if_neg h2] at h; omega
  · rw [if_neg h1] at h; omega

end Go.Proofs.YtjgjjlolhdlofaaGreatDoor

namespace Go.Proofs.YtjgjjlolhdlofaaGreatDoor
open Go.RowKit Go.Mine

end Go.Proofs.YtjgjjlolhdlofaaGreatDoor

namespace Go.Proofs.YtjgjjlolhdlofaaGreatDoor
open Go.RowKit Go.Mine

end Go.Proofs.YtjgjjlolhdlofaaGreatDoor

namespace Go.Proofs.YtjgjjlolhdlofaaGreatDoor
open Go.RowKit Go.Mine
open Classical

end Go.Proofs.YtjgjjlolhdlofaaGreatDoor

namespace Go.Proofs.YtjgjjlolhdlofaaGreatDoor
open Go.RowKit Go.Mine

end Go.Proofs.YtjgjjlolhdlofaaGreatDoor

namespace Go.Proofs.YtjgjjlolhdlofaaGreatDoor
open Go.RowKit Go.Mine
open Classical

end Go.Proofs.YtjgjjlolhdlofaaGreatDoor

namespace Go.Proofs.YtjgjjlolhdlofaaGreatDoor
open Go.RowKit Go.Mine

/-- All of them runes. -/
abbrev vR (rs : List Int) : Prop := ∀ r ∈ rs, Lib.validRune r = true
theorem bytesOf_flat (rs : List Int) : bytesOf rs = rs.flatMap Lib.encodeRune := by
  unfold bytesOf
  rw [List.map_flatMap]
  rfl
theorem bytesOf_append (a b : List Int) : bytesOf (a ++ b) = bytesOf a ++ bytesOf b := by simp [bytesOf_flat]
theorem bytesOf_cons (r : Int) (b : List Int) : bytesOf (r :: b) = Lib.encodeRune r ++ bytesOf b := by simp [bytesOf_flat]
theorem enc_pos (r : Int) : 0 < (Lib.encodeRune r).length := by
  unfold Lib.encodeRune Lib.encodeRuneZ
  repeat' split
  all_goals simp
theorem vR_cases {r : Int} (h : Lib.validRune r = true) : ∃ n : Nat, r = n ∧ (n < 128 ∨ (128 ≤ n ∧ n < 2048) ∨ (2048 ≤ n ∧ n < 65536 ∧ (n < 55296 ∨ 57344 ≤ n)) ∨ (65536 ≤ n ∧ n ≤ 1114111)) := by
  unfold Lib.validRune at h
  simp only [decide_eq_true_eq] at h
  exact ⟨r.toNat, by omega, by omega⟩
theorem b8 (n : Nat) (h : n < 256) : (UInt8.ofNat n).toNat = n := by rw [UInt8.toNat_ofNat']; omega
theorem enc_n (n : Nat) : Lib.encodeRune (n : Int) = if n < 128 then [UInt8.ofNat n] else if n < 2048 then [UInt8.ofNat (192 + n / 64), UInt8.ofNat (128 + n % 64)] else if n < 65536 ∧ (n < 55296 ∨ 57344 ≤ n) then [UInt8.ofNat (224 + n / 4096), UInt8.ofNat (128 + n / 64 % 64), UInt8.ofNat (128 + n % 64)]
    else if 65536 ≤ n ∧ n ≤ 1114111 then [UInt8.ofNat (240 + n / 262144), UInt8.ofNat (128 + n / 4096 % 64), UInt8.ofNat (128 + n / 64 % 64), UInt8.ofNat (128 + n % 64)] else [239, 191, 189] := by
  have tb : ∀ (z : Int) (m : Nat), z = m → z.toNat.toUInt8 = UInt8.ofNat m := fun z m h => by subst h; rfl
  unfold Lib.encodeRune
  split
  · rw [Lib.encodeRuneZ_one (by omega) (by omega)]
    simp only [List.map_cons, List.map_nil]
    rw [tb _ n rfl]
  · split
    · rw [Lib.encodeRuneZ_two (by omega) (by omega)]
      simp only [List.map_cons, List.map_nil]
      rw [tb _ (192 + n / 64) (by omega), tb _ (128 + n % 64) (by omega)]
    · split
      · rw [Lib.encodeRuneZ_three (by omega)]
        simp only [List.map_cons, List.map_nil]
        rw [tb _ (224 + n / 4096) (by omega), tb _ (128 + n / 64 % 64) (by omega), tb _ (128 + n % 64) (by omega)]
      · split
        · rw [Lib.encodeRuneZ_four (by omega) (by omega)]
          simp only [List.map_cons, List.map_nil]
          rw [tb _ (240 + n / 262144) (by omega), tb _ (128 + n / 4096 % 64) (by omega), tb _ (128 + n / 64 % 64) (by omega), tb _ (128 + n % 64) (by omega)]
        · unfold Lib.encodeRuneZ
          rw [if_neg (by omega), if_neg (by omega), if_neg (by omega), if_neg (by omega)]
          rfl
theorem dN1 (n m b1 b2 b3 : Nat) (h : m < 128) : Lib.decodeN n m b1 b2 b3 = (m, 1) := by unfold Lib.decodeN; rw [if_pos h]
theorem dN2 (n m b2 b3 : Nat) (h : 128 ≤ m ∧ m < 2048) (hn : 2 ≤ n) : Lib.decodeN n (192 + m / 64) (128 + m % 64) b2 b3 = (m, 2) := by
  unfold Lib.decodeN
  rw [if_neg (by omega), if_pos (by omega), if_pos (by omega)]
  congr 1
  omega
theorem dN3 (n m b3 : Nat) (h : 2048 ≤ m ∧ m < 65536 ∧ (m < 55296 ∨ 57344 ≤ m)) (hn : 3 ≤ n) : Lib.decodeN n (224 + m / 4096) (128 + m / 64 % 64) (128 + m % 64) b3 = (m, 3) := by
  have e : (224 + m / 4096) % 16 * 4096 + (128 + m / 64 % 64) % 64 * 64 + (128 + m % 64) % 64 = m := by omega
  unfold Lib.decodeN
  rw [if_neg (by omega), if_neg (by omega), if_pos (by omega), e, if_pos (by omega)]
theorem dN4 (n m : Nat) (h : 65536 ≤ m ∧ m ≤ 1114111) (hn : 4 ≤ n) : Lib.decodeN n (240 + m / 262144) (128 + m / 4096 % 64) (128 + m / 64 % 64) (128 + m % 64) = (m, 4) := by
  have e : (240 + m / 262144) % 8 * 262144 + (128 + m / 4096 % 64) % 64 * 4096 + (128 + m / 64 % 64) % 64 * 64 + (128 + m % 64) % 64 = m := by omega
  unfold Lib.decodeN
  rw [if_neg (by omega), if_neg (by omega), if_neg (by omega), if_pos (by omega), e, if_pos (by omega)]
/-- What was encoded is decoded. -/
theorem decodeL_enc {r : Int} (h : Lib.validRune r = true) (rest : List UInt8) : Lib.decodeL (Lib.encodeRune r ++ rest) = (r.toNat, (Lib.encodeRune r).length) := by
  obtain ⟨n, rfl, hc⟩ := vR_cases h
  rw [Lib.decodeL_N, enc_n, Int.toNat_natCast]
  rcases hc with h1 | ⟨h0, h1⟩ | ⟨h0, h1, h2⟩ | ⟨h0, h1⟩
  · rw [if_pos h1]
    simp only [List.cons_append, List.nil_append, List.getD_cons_zero]
    rw [b8 n (by omega), dN1 _ _ _ _ _ h1]
    rfl
  · rw [if_neg (by omega), if_pos h1]
    simp only [List.cons_append, List.nil_append, List.getD_cons_zero, List.getD_cons_succ]
    rw [b8 (192 + n / 64) (by omega), b8 (128 + n % 64) (by omega), dN2 _ _ _ _ ⟨h0, h1⟩ (by simp only [List.length_cons]; omega)]
    rfl
  · rw [if_neg (by omega), if_neg (by omega), if_pos ⟨h1, h2⟩]
    simp only [List.cons_append, List.nil_append, List.getD_cons_zero, List.getD_cons_succ]
    rw [b8 (224 + n / 4096) (by omega), b8 (128 + n / 64 % 64) (by omega), b8 (128 + n % 64) (by omega), dN3 _ _ _ ⟨h0, h1, h2⟩ (by simp only [List.length_cons]; omega)]
    rfl
  · rw [if_neg (by omega), if_neg (by omega), if_neg (by omega), if_pos ⟨h0, h1⟩]
    simp only [List.cons_append, List.nil_append, List.getD_cons_zero, List.getD_cons_succ]
    rw [b8 (240 + n / 262144) (by omega), b8 (128 + n / 4096 % 64) (by omega), b8 (128 + n / 64 % 64) (by omega), b8 (128 + n % 64) (by omega), dN4 _ _ ⟨h0, h1⟩ (by simp only [List.length_cons]; omega)]
    rfl
theorem bytesOf_len (rs : List Int) : rs.length ≤ (bytesOf rs).length := by
  induction rs with
  | nil => simp
  | cons r rs ih =>
    rw [bytesOf_cons, List.length_append, List.length_cons]
    have := enc_pos r
    omega
/-- A text is its runes' bytes. -/
theorem runesOf_bytes : ∀ (n : Nat) (t : ByteArray), t.size ≤ n → ∀ rs, runesOf t = some rs → t.data.toList = bytesOf (rs.map fun r : Nat => (r : Int)) ∧ vR (rs.map fun r : Nat => (r : Int))
  | 0, t, h, rs, hr => by
    rw [runesOf_nil (by omega)] at hr
    cases hr
    refine ⟨?_, fun r hr => by cases hr⟩
    have : t.data.toList.length = 0 := by rw [← Lib.size_eq]; omega
    rw [List.eq_nil_of_length_eq_zero this]; rfl
  | n + 1, t, h, rs, hr => by
    by_cases h0 : t.size = 0
    · rw [runesOf_nil h0] at hr
      cases hr
      refine ⟨?_, fun r hr => by cases hr⟩
      have : t.data.toList.length = 0 := by rw [← Lib.size_eq]; omega
      rw [List.eq_nil_of_length_eq_zero this]; rfl
    · by_cases hb : bad1 t
      · rw [runesOf_bad h0 hb] at hr; cases hr
      · rw [runesOf_step h0 hb] at hr
        obtain ⟨rest, hr1, rfl⟩ := Option.map_eq_some_iff.1 hr
        have hp := decodeGo_pos h0
        obtain ⟨i1, i2⟩ := runesOf_bytes n (tl t (Lib.decodeGo t).2) (by rw [tl_size]; omega) rest hr1
        have hg : Lib.decodeGo t = Lib.decodeL t.data.toList := by
          have := Lib.decodeL_drop t 0
          rw [List.drop_zero] at this
          rw [this]
          unfold Lib.decodeGo
          rw [if_neg h0]
        have hne : t.data.toList ≠ [] := fun e => h0 (by rw [Lib.size_eq, e]; rfl)
        have hw1 : ¬ ((Lib.decodeL t.data.toList).1 = 65533 ∧ (Lib.decodeL t.data.toList).2 = 1) := fun e => hb (by unfold bad1; rw [hg]; omega)
        have htl : (tl t (Lib.decodeGo t).2).data.toList = t.data.toList.drop (Lib.decodeGo t).2 := by
          unfold tl
          rw [Lib.extract_data, List.take_of_length_le (by rw [List.length_drop, ← Lib.size_eq]; omega)]
        have hen := Lib.encode_decode _ hne hw1
        rw [← hg] at hen
        rw [htl] at i1
        refine ⟨?_, ?_⟩
        · rw [List.map_cons, bytesOf_cons, hen, ← i1, List.take_append_drop]
        · intro r hr
          rw [List.map_cons] at hr
          rcases List.mem_cons.1 hr with rfl | hr
          · rw [hg, Lib.decodeL_N]
            rw [Lib.decodeL_N] at hw1
            have k0 := (t.data.toList.getD 0 0).toNat_lt
            unfold Lib.validRune
            rw [decide_eq_true_eq]
            rcases Lib.decodeN_shape t.data.toList.length (t.data.toList.getD 0 0).toNat (t.data.toList.getD 1 0).toNat (t.data.toList.getD 2 0).toNat (t.data.toList.getD 3 0).toNat with ⟨c, e⟩ | ⟨c1, c2, c3, cv, e⟩ | ⟨c1, c2, c3, c4, cv, cs, e⟩ | ⟨c1, c2, c3, c4, c5, cv, cw, e⟩ | e
            · rw [e]; dsimp only; omega
            · rw [e]; dsimp only; omega
            · rw [e]; dsimp only; omega
            · rw [e]; dsimp only; omega
            · rw [e] at hw1; exact absurd ⟨rfl, rfl⟩ hw1
          · exact i2 r hr
theorem runesD_bytes {t : ByteArray} {rs : List Nat} (h : runesOf t = some rs) : t = ⟨(bytesOf (rs.map fun r : Nat => (r : Int))).toArray⟩ ∧ vR (rs.map fun r : Nat => (r : Int)) := by
  obtain ⟨h1, h2⟩ := runesOf_bytes t.size t (Nat.le_refl _) rs h
  refine ⟨?_, h2⟩
  apply ByteArray.ext
  rw [← h1]
theorem bytes_app (a b : List Int) : (⟨(bytesOf a).toArray⟩ : ByteArray) ++ ⟨(bytesOf b).toArray⟩ = ⟨(bytesOf (a ++ b)).toArray⟩ := by
  apply ByteArray.ext
  simp [bytesOf_append]
end Go.Proofs.YtjgjjlolhdlofaaGreatDoor

namespace Go.Proofs.YtjgjjlolhdlofaaGreatDoor
open Go.RowKit Go.Mine
open Classical

/-- What cells of a document are, all of them. -/
structure Good (l : List CellV) : Prop where
  cl : Cl l
  ok : ∀ c ∈ l, cellOk c = true
theorem Good.new {l : List CellV} (h : Good l) : newE l = 0 := by
  unfold newE
  rw [if_pos (List.all_eq_true.2 h.ok), if_pos h.cl.ids]
  have := h.cl.big
  split <;> first | rfl | omega
theorem Good.of {l : List CellV} (h : newE l = 0) (hok : ∀ c ∈ l, c.ok) (hl : l.length ≤ 20000) : Good l := by
  refine ⟨Cl.new h hok hl, ?_⟩
  unfold newE at h
  by_cases h1 : l.all cellOk = true
  · exact List.all_eq_true.1 h1
  · rw [if_neg h1] at h; omega
theorem markS_mem (sp : List (Int × Int)) (l : List CellV) (p : Nat) (c : CellV) (h : c ∈ markS sp p l) : ∃ d ∈ l, c = d ∨ c = goneC d := by
  obtain ⟨i, hi⟩ := List.getElem?_of_mem h
  unfold markS at hi
  rw [markP_get] at hi
  obtain ⟨d, hd, e⟩ := Option.map_eq_some_iff.1 hi
  refine ⟨d, List.mem_of_getElem? hd, ?_⟩
  split at e
  · exact .inr e.symm
  · exact .inl e.symm
theorem Good.doL {o : OpV} {sp : List (Int × Int)} {l : List CellV} (h : Good l) (hs : -9223372036854775808 ≤ o.site ∧ o.site ≤ 9223372036854775807) (hq : -9223372036854775808 ≤ o.seq ∧ o.seq ≤ 9223372036854775807) : Good (doL o sp l) := by
  refine ⟨h.cl.doL hs hq, ?_⟩
  by_cases he : doE o sp l = 0
  · obtain ⟨hm, ⟨_, hL⟩ | ⟨_, hins, _, hL⟩⟩ := doE_zero he
    · rw [hL]
      intro c hc
      obtain ⟨d, hd, e | e⟩ := markS_mem sp l 0 c hc
      · rw [e]; exact h.ok _ hd
      · rw [e]; exact h.ok d hd
    · rw [hL]
      obtain ⟨ns, h1, h2, h3, h4, h5, h6, h7, h8, h9⟩ := ins_runes hins
      obtain ⟨_, b2⟩ := runesD_bytes h1
      have hno : nameOk o.site o.seq = true := by
        unfold opMay at hm
        simp only [Bool.and_eq_true] at hm
        exact hm.1.1
      intro c hc
      rw [List.append_assoc] at hc
      rcases List.mem_append.1 hc with hc | hc
      · exact h.ok _ (List.mem_of_mem_take hc)
      · rcases List.mem_append.1 hc with hc | hc
        · rw [h2] at hc
          obtain ⟨i, hi, rfl⟩ := List.mem_mapIdx.1 hc
          unfold cellOk
          simp only [hno, Bool.true_and, Bool.and_eq_true, decide_eq_true_eq]
          exact ⟨⟨by omega, by omega⟩, b2 _ (List.mem_map.2 ⟨_, List.getElem_mem hi, rfl⟩)⟩
        · exact h.ok _ (List.mem_of_mem_drop hc)
  · rw [doL_same he]
    exact h.ok
end Go.Proofs.YtjgjjlolhdlofaaGreatDoor

namespace Go.Proofs.YtjgjjlolhdlofaaGreatDoor
open Go.RowKit Go.Mine
open Classical

structure DocP (w : World) (E : Nat → Prop) (wx : World) (D : Nat) (L : List CellV) : Prop where
  f : DocF w E wx D L
  g : Good L
theorem DocP.grown {w wx wy : World} {E : Nat → Prop} {D : Nat} {L : List CellV} (h : DocP w E wx D L) (m : Mod none_ wx wy) : DocP w E wy D L := ⟨h.f.grown m, h.g⟩
theorem DocP.box {w wx wy : World} {E : Nat → Prop} {D : Nat} {L : List CellV} (h : DocP w E wx D L) (m : Mod none_ wx wy) : DocP w (fun k => E k ∨ (wx.heap.size ≤ k ∧ k < wy.heap.size)) wy D L := ⟨h.f.box m, h.g⟩
theorem DocP.less {w wx : World} {E E' : Nat → Prop} {D : Nat} {L : List CellV} (h : DocP w E wx D L) (hE : ∀ k, E' k → E k) : DocP w E' wx D L := ⟨h.f.less hE, h.g⟩
/-- A world on: the cells are L'; nothing that is kept has changed. -/
structure DocQ (w : World) (E : Nat → Prop) (wx : World) (D : Nat) (L' : List CellV) (w' : World) : Prop where
  p : DocP w E w' D L'
  mo : Mod (fun k => ¬ E k) wx w'
theorem DocQ.pre {w wx wy w' : World} {E E' : Nat → Prop} {D : Nat} {L' : List CellV} (m : Mod none_ wx wy) (d : DocQ w E' wy D L' w') (hE : ∀ k, E k → E' k) : DocQ w E wx D L' w' :=
  ⟨d.p.less hE, (m.mono (fun _ _ e => e.elim)).trans (d.mo.mono (fun k _ h e => h (hE k e)))⟩
theorem DocP.doc {w wx : World} {E : Nat → Prop} {D : Nat} {L : List CellV} (h : DocP w E wx D L) : ∃ S, DocS wx S D L := by
  obtain ⟨S, h1, _⟩ := h.f.doc
  exact ⟨S, h1⟩
abbrev ActV.v (x : ActV) : Value := .agg #[.int .u8 x.k, .int .i64 x.o.site, .int .i64 x.o.seq, .int .i64 x.o.num, .int .i64 x.o.kind, .int .i64 x.o.at_, .string x.o.text, .slice x.o.sa x.o.slen x.o.scap]
abbrev ActV.cs (x : ActV) : List Value := [.int .u8 x.k, .int .i64 x.o.site, .int .i64 x.o.seq, .int .i64 x.o.num, .int .i64 x.o.kind, .int .i64 x.o.at_, .string x.o.text, .slice x.o.sa x.o.slen x.o.scap]

end Go.Proofs.YtjgjjlolhdlofaaGreatDoor

namespace Go.Mine
open Go.RowKit Go.ChangeShapes Go.WideShapes Go.Deep

section
variable {H : Type} {enc : TypeId × Value → H} {P : Program} {w : World} {base : Nat} {spare : Nat → Bool} {held : Bool}

end
end Go.Mine

namespace Go.Proofs.YtjgjjlolhdlofaaGreatDoor
open Go.ChangeShapes Go.WideShapes Go.ChangeAt Go.RowKit Go.Mine Go.Deep

set_option maxRecDepth 100000
section
variable {H : Type} {enc : TypeId × Value → H} {w : World} {base : Nat} {sp : Nat → Bool} {held : Bool}

theorem szOp : Tryz.prog.cellsOf 58 = 7 := by kernel_rfl
theorem szCell : Tryz.prog.cellsOf 53 = 5 := by kernel_rfl
theorem szName : Tryz.prog.cellsOf 42 = 2 := by kernel_rfl
theorem szInt : Tryz.prog.cellsOf 3 = 1 := by kernel_rfl
theorem szRune : Tryz.prog.cellsOf 21 = 1 := by kernel_rfl
theorem szBool : Tryz.prog.cellsOf 4 = 1 := by kernel_rfl
theorem szString : Tryz.prog.cellsOf 9 = 1 := by kernel_rfl
theorem szSpans : Tryz.prog.cellsOf 56 = 1 := by kernel_rfl

theorem name_of {n : Nat} {a b : Value} {y : DataW H × List MemPlace} (h : DataW.trod enc Tryz.prog w base sp held n 42 [a, b] = some y) :
    ∃ s q : Int, a = .int .i64 s ∧ b = .int .i64 q ∧ (-9223372036854775808 ≤ s ∧ s ≤ 9223372036854775807) ∧ (-9223372036854775808 ≤ q ∧ q ≤ 9223372036854775807) := by
  obtain ⟨ys, m, _, _, _, hyl, hf⟩ := DataW.trod_struct Tryz.underlying42 h
  obtain ⟨y0, y1, rfl⟩ : ∃ y0 y1, ys = [y0, y1] := by
    match ys, (show ys.length = 2 from hyl) with
    | [y0, y1], _ => exact ⟨y0, y1, rfl⟩
  have h0 := hf 0 _ rfl
  have h1 := hf 1 _ rfl
  simp only [List.getElem_toArray, List.getElem_cons_zero, List.getElem_cons_succ, szInt, List.drop_zero, List.drop_succ_cons, List.take_succ_cons, List.take_zero, List.getElem?_cons_zero, List.getElem?_cons_succ] at h0 h1
  obtain ⟨s, e0, _, w0⟩ := DataW.trod_int Tryz.underlying3 h0
  obtain ⟨q, e1, _, w1⟩ := DataW.trod_int Tryz.underlying3 h1
  simp only [List.cons.injEq, and_true] at e0 e1
  exact ⟨s, q, e0, e1, bounds_i64 w0, bounds_i64 w1⟩

theorem cell_of {n : Nat} {cells : List Value} {y : DataW H × List MemPlace} (h : DataW.trod enc Tryz.prog w base sp held n 53 cells = some y) :
    ∃ c : CellV, cells = c.cs ∧ c.ok := by
  obtain ⟨ys, m, _, _, hl, hyl, hf⟩ := DataW.trod_struct Tryz.underlying53 h
  rw [szCell] at hl
  obtain ⟨a, b, c, d, e, rfl⟩ : ∃ a b c d e, cells = [a, b, c, d, e] := by
    match cells, hl with
    | [a, b, c, d, e], _ => exact ⟨a, b, c, d, e, rfl⟩
  obtain ⟨y0, y1, y2, y3, rfl⟩ : ∃ y0 y1 y2 y3, ys = [y0, y1, y2, y3] := by
    match ys, (show ys.length = 4 from hyl) with
    | [y0, y1, y2, y3], _ => exact ⟨y0, y1, y2, y3, rfl⟩
  have h0 := hf 0 _ rfl
  have h1 := hf 1 _ rfl
  have h2 := hf 2 _ rfl
  have h3 := hf 3 _ rfl
  simp only [List.getElem_toArray, List.getElem_cons_zero, List.getElem_cons_succ, szName, szInt, szRune, szBool, List.drop_zero, List.drop_succ_cons, List.take_succ_cons, List.take_zero, List.getElem?_cons_zero, List.getElem?_cons_succ] at h0 h1 h2 h3
  obtain ⟨s, q, rfl, rfl, hs, hq⟩ := name_of h0
  obtain ⟨f, e1, _, w1⟩ := DataW.trod_int Tryz.underlying3 h1
  obtain ⟨r, e2, _, w2⟩ := DataW.trod_int Tryz.underlying21 h2
  obtain ⟨g, e3, _⟩ := DataW.trod_bool Tryz.underlying4 h3
  simp only [List.cons.injEq, and_true] at e1 e2 e3
  subst e1 e2 e3
  exact ⟨⟨s, q, f, r, g⟩, rfl, hs, hq, bounds_i64 w1, bounds_i32 w2⟩

/-- A slice of structs of k cells: what each element's cells read as. -/
theorem slice_elems {t e : TypeId} {k fuel : Nat} {cs : List Value} {x : DataW H × List MemPlace} (ht : Tryz.prog.underlying t = some (.slice e)) (hk : Tryz.prog.cellsOf e = k) (h0k : 0 < k) (h : DataW.trod enc Tryz.prog w base sp held fuel t cs = some x) :
    ∃ (a : Option Addr) (len cap : Nat), cs = [.slice a len cap] ∧ len ≤ cap ∧ cap ≤ maxLen ∧
      ∀ i, i < len → ∃ (b off : Nat) (cells : List Value) (y : DataW H × List MemPlace) (n : Nat), a = some ⟨b, off, none⟩ ∧ cells.length = k ∧ w.rangeAt b (off + i * k) cells ∧ DataW.trod enc Tryz.prog w base sp held n e cells = some y := by
  rcases DataW.trod_slice ht h with ⟨h0, _⟩ | ⟨a, len, cap, elems, rest, n, _, hcs, _, _, hl, hm, hlen, hel, _, _⟩
  · exact ⟨none, 0, 0, h0, Nat.le_refl _, Nat.zero_le _, fun i hi => absurd hi (Nat.not_lt_zero _)⟩
  · rw [hk] at hel
    refine ⟨some a, len, cap, hcs, hl, hm, fun i hi => ?_⟩
    obtain ⟨b, off, spot⟩ := a
    have hspot : spot = none := by
      have h1 := hel 0 (by omega)
      rw [List.getElem?_eq_getElem (by omega)] at h1
      obtain ⟨cells, hc, hr⟩ := Option.bind_eq_some_iff.1 h1
      obtain ⟨_, hlen, hat⟩ := World.cells?_some hc
      have := hat 0 h0k
      rw [List.getElem?_eq_getElem (by omega)] at this
      have := World.cell?_spot this
      simpa [Addr.add] using this
    subst hspot
    have h1 := hel i hi
    rw [List.getElem?_eq_getElem (by omega)] at h1
    obtain ⟨cells, hc, hr⟩ := Option.bind_eq_some_iff.1 h1
    obtain ⟨_, hlen, hat⟩ := World.cells?_some hc
    refine ⟨b, off, cells, _, n, rfl, hlen, fun j v hv => ?_, hr⟩
    have hj : j < k := by have := (List.getElem?_eq_some_iff.1 hv).1; omega
    have := hat j hj
    rw [hv] at this
    simpa only [Addr.add_lit] using this

theorem read_cells {fuel : Nat} {a : Option Addr} {len cap : Nat} {x : DataW H × List MemPlace} (h : DataW.trod enc Tryz.prog w base sp held fuel 22 [.slice a len cap] = some x) : ∃ l, IsCells w a len cap l := by
  obtain ⟨a', len', cap', hcs, hl, hm, hf⟩ := slice_elems Tryz.underlying22 szCell (by decide) h
  simp only [List.cons.injEq, Value.slice.injEq, and_true] at hcs
  obtain ⟨rfl, rfl, rfl⟩ := hcs
  have key : ∀ i, i < len → ∃ c : CellV, c.ok ∧ ∃ b off, a = some ⟨b, off, none⟩ ∧ w.rangeAt b (off + i * 5) c.cs := by
    intro i hi
    obtain ⟨b, off, cells, y, n, e, _, hr, ht⟩ := hf i hi
    obtain ⟨c, rfl, hc⟩ := cell_of ht
    exact ⟨c, hc, b, off, e, hr⟩
  obtain ⟨f, hfk⟩ := Classical.axiomOfChoice (fun i : Fin len => key i.1 i.2)
  refine ⟨List.ofFn f, by simp, hl, hm, ?_, ?_⟩
  · intro y hy
    obtain ⟨i, rfl⟩ := List.mem_ofFn.1 hy
    exact (hfk i).1
  · intro i y hy
    have hi : i < len := by have := (List.getElem?_eq_some_iff.1 hy).1; simpa using this
    have : y = f ⟨i, hi⟩ := by
      rw [List.getElem?_eq_getElem (by simpa using hi)] at hy
      simp at hy; exact hy.symm
    subst this
    exact (hfk ⟨i, hi⟩).2

theorem szSpan : Tryz.prog.cellsOf 55 = 2 := by kernel_rfl
theorem read_spans {fuel : Nat} {a : Option Addr} {len cap : Nat} {x : DataW H × List MemPlace} (h : DataW.trod enc Tryz.prog w base sp held fuel 56 [.slice a len cap] = some x) : ∃ l, IsSpans w a len cap l := by
  obtain ⟨a', len', cap', hcs, hl, hm, hf⟩ := slice_elems Tryz.underlying56 szSpan (by decide) h
  simp only [List.cons.injEq, Value.slice.injEq, and_true] at hcs
  obtain ⟨rfl, rfl, rfl⟩ := hcs
  have key : ∀ i, i < len → ∃ y : Int × Int, ((-9223372036854775808 ≤ y.1 ∧ y.1 ≤ 9223372036854775807) ∧ (-9223372036854775808 ≤ y.2 ∧ y.2 ≤ 9223372036854775807)) ∧ ∃ b off, a = some ⟨b, off, none⟩ ∧ w.cell? ⟨b, off + i * 2, none⟩ = some (.int .i64 y.1) ∧ w.cell? ⟨b, off + i * 2 + 1, none⟩ = some (.int .i64 y.2) := by
    intro i hi
    obtain ⟨b, off, cells, y, n, e, hlen, hr, ht⟩ := hf i hi
    obtain ⟨u, v, rfl⟩ : ∃ u v, cells = [u, v] := by
      match cells, hlen with
      | [u, v], _ => exact ⟨u, v, rfl⟩
    obtain ⟨ys, m, _, _, _, hyl, hg⟩ := DataW.trod_struct Tryz.underlying55 ht
    obtain ⟨y0, y1, rfl⟩ : ∃ y0 y1, ys = [y0, y1] := by
      match ys, (show ys.length = 2 from hyl) with
      | [y0, y1], _ => exact ⟨y0, y1, rfl⟩
    have h0 := hg 0 _ rfl
    have h1 := hg 1 _ rfl
    simp only [List.getElem_toArray, List.getElem_cons_zero, List.getElem_cons_succ, szInt, List.drop_zero, List.drop_succ_cons, List.take_succ_cons, List.take_zero, List.getElem?_cons_zero, List.getElem?_cons_succ] at h0 h1
    obtain ⟨s, e0, _, w0⟩ := DataW.trod_int Tryz.underlying3 h0
    obtain ⟨q, e1, _, w1⟩ := DataW.trod_int Tryz.underlying3 h1
    simp only [List.cons.injEq, and_true] at e0 e1
    subst e0 e1
    exact ⟨(s, q), ⟨bounds_i64 w0, bounds_i64 w1⟩, b, off, e, hr 0 _ rfl, hr 1 _ rfl⟩
  obtain ⟨f, hfk⟩ := Classical.axiomOfChoice (fun i : Fin len => key i.1 i.2)
  refine ⟨List.ofFn f, by simp, hl, hm, ?_, ?_⟩
  · intro y hy
    obtain ⟨i, rfl⟩ := List.mem_ofFn.1 hy
    exact (hfk i).1
  · intro i y hy
    have hi : i < len := by have := (List.getElem?_eq_some_iff.1 hy).1; simpa using this
    have : y = f ⟨i, hi⟩ := by
      rw [List.getElem?_eq_getElem (by simpa using hi)] at hy
      simp at hy; exact hy.symm
    subst this
    exact (hfk ⟨i, hi⟩).2

theorem op_of {n : Nat} {cells : List Value} {y : DataW H × List MemPlace} (htab : tabsOk w) (h : DataW.trod enc Tryz.prog w base sp held n 58 cells = some y) :
    ∃ (o : OpV) (l : List (Int × Int)), cells = o.cs ∧ o.ok0 w l := by
  obtain ⟨ys, m, _, _, hl, hyl, hf⟩ := DataW.trod_struct Tryz.underlying58 h
  rw [szOp] at hl
  obtain ⟨c0, c1, c2, c3, c4, c5, c6, rfl⟩ : ∃ c0 c1 c2 c3 c4 c5 c6, cells = [c0, c1, c2, c3, c4, c5, c6] := by
    match cells, hl with
    | [c0, c1, c2, c3, c4, c5, c6], _ => exact ⟨c0, c1, c2, c3, c4, c5, c6, rfl⟩
  obtain ⟨y0, y1, y2, y3, y4, y5, rfl⟩ : ∃ y0 y1 y2 y3 y4 y5, ys = [y0, y1, y2, y3, y4, y5] := by
    match ys, (show ys.length = 6 from hyl) with
    | [y0, y1, y2, y3, y4, y5], _ => exact ⟨y0, y1, y2, y3, y4, y5, rfl⟩
  have h0 := hf 0 _ rfl
  have h1 := hf 1 _ rfl
  have h2 := hf 2 _ rfl
  have h3 := hf 3 _ rfl
  have h4 := hf 4 _ rfl
  have h5 := hf 5 _ rfl
  simp only [List.getElem_toArray, List.getElem_cons_zero, List.getElem_cons_succ, szName, szInt, szString, szSpans, List.drop_zero, List.drop_succ_cons, List.take_succ_cons, List.take_zero, List.getElem?_cons_zero, List.getElem?_cons_succ] at h0 h1 h2 h3 h4 h5
  obtain ⟨s, q, rfl, rfl, hs, hq⟩ := name_of h0
  obtain ⟨num, e1, _, w1⟩ := DataW.trod_int Tryz.underlying3 h1
  obtain ⟨kd, e2, _, w2⟩ := DataW.trod_int Tryz.underlying3 h2
  obtain ⟨at_, e3, _, w3⟩ := DataW.trod_int Tryz.underlying3 h3
  obtain ⟨tx, e4, _, w4⟩ := DataW.trod_string Tryz.underlying9 h4
  obtain ⟨a, len, cap, e5, _⟩ := slice_elems Tryz.underlying56 szSpan (by decide) h5
  simp only [List.cons.injEq, and_true] at e1 e2 e3 e4 e5
  subst e1 e2 e3 e4 e5
  obtain ⟨l, hsp⟩ := read_spans h5
  exact ⟨⟨s, q, num, kd, at_, tx, a, len, cap⟩, l, rfl, w4, hsp, fun hsz => { i1 := hs, i2 := hq, i3 := bounds_i64 w1, i4 := bounds_i64 w2, i5 := bounds_i64 w3, tx := .inl htab, sz := hsz, sp := hsp }⟩

end
end Go.Proofs.YtjgjjlolhdlofaaGreatDoor

namespace Go.Proofs.YtjgjjlolhdlofaaGreatDoor
open Go.RowKit Go.Mine Go.Deep
open Classical

/-- Strings in memory. -/
structure IsStrs (w : World) (a : Option Addr) (len cap : Nat) (l : List ByteArray) : Prop where
  n : l.length = len
  le : len ≤ cap
  big : cap ≤ maxLen
  ok : ∀ s ∈ l, s.size ≤ maxLen
  cells : ∀ (i : Nat) (s : ByteArray), l[i]? = some s → ∃ b off, a = some ⟨b, off, none⟩ ∧ w.cell? ⟨b, off + i, none⟩ = some (.string s)
theorem IsStrs.grown {w w' : World} {a : Option Addr} {len cap : Nat} {l : List ByteArray} (h : IsStrs w a len cap l) (m : Mod none_ w w') : IsStrs w' a len cap l :=
  ⟨h.n, h.le, h.big, h.ok, fun i x hx => by
    obtain ⟨b, off, e, c0⟩ := h.cells i x hx
    exact ⟨b, off, e, m.cell (fun e => e) c0⟩⟩
section
variable {H : Type} {enc : TypeId × Value → H} {w : World} {base : Nat} {sp : Nat → Bool} {held : Bool}
end

/-- What is typed. -/
def tyOp (k : Nat) (p : Int) (t : ByteArray) : OpV := ⟨3, 549755813888 + (k : Int), 0, 1, p, t, none, 0, 0⟩
theorem liveR_append (a b : List CellV) : liveR (a ++ b) = liveR a ++ liveR b := by simp [liveR]
theorem liveR_fresh (o : OpV) (rs : List Nat) : liveR (freshC o rs) = rs.map fun r : Nat => (r : Int) := by
  unfold liveR freshC
  rw [List.filter_eq_self.2 (fun c hc => ?_)]
  · apply List.ext_getElem
    · simp
    · intro i h1 h2; simp
  · obtain ⟨i, hi, rfl⟩ := List.mem_mapIdx.1 hc
    rfl
theorem liveR_valid {l : List CellV} (h : newE l = 0) : vR (liveR l) := by
  intro r hr
  unfold liveR at hr
  obtain ⟨c, hc, rfl⟩ := List.mem_map.1 hr
  have hm := (List.mem_filter.1 hc).1
  unfold newE at h
  by_cases h1 : l.all cellOk = true
  · have := List.all_eq_true.1 h1 c hm
    unfold cellOk at this
    simp only [Bool.and_eq_true] at this
    exact this.2
  · rw [if_neg h1] at h; omega
theorem textB_valid {l : List CellV} (h : vR (liveR l)) : textB l = ⟨(bytesOf (liveR l)).toArray⟩ := by
  unfold textB
  rw [if_pos (List.all_eq_true.2 h)]

/-- Behind some of what was typed at place i of l: the document's cells are L, the caret is at p, the runes typed are rs. -/
structure Typ (l : List CellV) (i : Nat) (L : List CellV) (p : Nat) (rs : List Int) : Prop where
  hp : p ≤ L.length
  le : liveR (L.take p) = (liveR l).take i ++ rs
  ri : liveR (L.drop p) = (liveR l).drop i
  va : vR rs
theorem Typ.all {l L : List CellV} {i p : Nat} {rs : List Int} (h : Typ l i L p rs) : liveR L = (liveR l).take i ++ rs ++ (liveR l).drop i := by
  rw [← h.le, ← h.ri, ← liveR_append, List.take_append_drop]
theorem Typ.step {l L : List CellV} {i p k : Nat} {rs : List Int} {t : ByteArray} (h : Typ l i L p rs) (he : doE (tyOp k p t) [] L = 0) :
    ∃ ns : List Nat, t = ⟨(bytesOf (ns.map fun r : Nat => (r : Int))).toArray⟩ ∧ addsOf (tyOp k p t) = ns.length ∧ ns.length ≤ 200 ∧ Typ l i (doL (tyOp k p t) [] L) (p + ns.length) (rs ++ ns.map fun r : Nat => (r : Int)) := by
  obtain ⟨hm, hh⟩ := doE_zero he
  rcases hh with ⟨hk, _⟩ | ⟨hk, hins, _, hL⟩
  · exact absurd rfl hk
  obtain ⟨ns, h1, h2, h3, h4, h5, h6, h7, h8, h9⟩ := ins_runes hins
  obtain ⟨b1, b2⟩ := runesD_bytes h1
  rw [h2] at hL
  have hat : (tyOp k p t).at_.toNat = p := by unfold tyOp; simp
  rw [hat] at hL
  have hlt : (L.take p).length = p := by rw [List.length_take]; have := h.hp; omega
  have e1 : (doL (tyOp k p t) [] L).take (p + ns.length) = L.take p ++ freshC (tyOp k p t) ns := by
    rw [hL]
    have : p + ns.length = (L.take p ++ freshC (tyOp k p t) ns).length := by rw [List.length_append, hlt]; simp [freshC]
    rw [this, List.take_left]
  have e2 : (doL (tyOp k p t) [] L).drop (p + ns.length) = L.drop p := by
    rw [hL]
    have : p + ns.length = (L.take p ++ freshC (tyOp k p t) ns).length := by rw [List.length_append, hlt]; simp [freshC]
    rw [this, List.drop_left]
  refine ⟨ns, b1, ?_, h5, ⟨?_, ?_, ?_, ?_⟩⟩
  · unfold addsOf
    rw [if_pos hk, h3]
    omega
  · have := congrArg List.length e2
    have hh := congrArg List.length hL
    simp only [List.length_append, hlt, List.length_drop, freshC, List.length_mapIdx] at hh
    omega
  · rw [e1, liveR_append, h.le, liveR_fresh, List.append_assoc]
  · rw [e2, h.ri]
  · intro r hr
    rcases List.mem_append.1 hr with hr | hr
    · exact h.va r hr
    · exact b2 r hr
theorem Typ.text {l L : List CellV} {i p : Nat} {rs : List Int} (h : Typ l i L p rs) (hv : vR (liveR l)) : textB L = ⟨(bytesOf ((liveR l).take i) ++ bytesOf rs ++ bytesOf ((liveR l).drop i)).toArray⟩ := by
  have hvL : vR (liveR L) := by
    rw [h.all]
    intro r hr
    rcases List.mem_append.1 hr with hr | hr
    · rcases List.mem_append.1 hr with hr | hr
      · exact hv r (List.mem_of_mem_take hr)
      · exact h.va r hr
    · exact hv r (List.mem_of_mem_drop hr)
  rw [textB_valid hvL, h.all, bytesOf_append, bytesOf_append]
end Go.Proofs.YtjgjjlolhdlofaaGreatDoor

namespace Go.Proofs.YtjgjjlolhdlofaaGreatDoor
open Go.RowKit Go.Mine Go.Deep
open Classical

theorem liveR_cons (c : CellV) (r : List CellV) : liveR (c :: r) = (if c.gone then [] else [c.r]) ++ liveR r := by
  unfold liveR
  cases h : c.gone <;> simp [h]
theorem liveR_good {l : List CellV} (h : Good l) : vR (liveR l) := liveR_valid h.new
theorem IsSpans.mod {T : Nat → Prop} {w w' : World} {a : Option Addr} {len cap : Nat} {l : List (Int × Int)} (h : IsSpans w a len cap l) (m : Mod T w w') (hT : ∀ b off, a = some ⟨b, off, none⟩ → 0 < len → ¬ T b) : IsSpans w' a len cap l :=
  ⟨h.n, h.le, h.big, h.ok, fun i x hx => by
    obtain ⟨b, off, e, c0, c1⟩ := h.cells i x hx
    have hi := (List.getElem?_eq_some_iff.1 hx).1
    have hp : 0 < len := by rw [← h.n]; omega
    exact ⟨b, off, e, m.cell (hT b off e hp) c0, m.cell (hT b off e hp) c1⟩⟩
theorem IsSpans.lt {w : World} {a : Option Addr} {len cap : Nat} {l : List (Int × Int)} (h : IsSpans w a len cap l) : ∀ b off, a = some ⟨b, off, none⟩ → 0 < len → b < w.heap.size := by
  intro b off e hn
  have hl : 0 < l.length := by rw [h.n]; exact hn
  obtain ⟨b', off', e', hc, _⟩ := h.cells 0 l[0] (List.getElem?_eq_getElem hl)
  rw [e] at e'
  cases e'
  exact block_lt_of_cell hc
end Go.Proofs.YtjgjjlolhdlofaaGreatDoor

namespace Go.Proofs.YtjgjjlolhdlofaaGreatDoor
open Go.RowKit Go.Mine

/-- The text of runes. -/
def txt (rs : List Int) : ByteArray := ⟨(bytesOf rs).toArray⟩
theorem txt_size (rs : List Int) : (txt rs).size = (bytesOf rs).length := by
  show ((bytesOf rs).toArray).size = _
  rw [List.size_toArray]
theorem tl_bytes (a b : List UInt8) : tl ⟨(a ++ b).toArray⟩ a.length = ⟨b.toArray⟩ := by
  unfold tl
  apply ByteArray.ext
  rw [ByteArray.data_extract]
  apply Array.ext'
  rw [Array.toList_extract]
  have hs : ByteArray.size ⟨(a ++ b).toArray⟩ = a.length + b.length := by
    show ((a ++ b).toArray).size = _
    rw [List.size_toArray, List.length_append]
  rw [hs]
  simp
theorem txt_cons (r : Int) (rs : List Int) : tl (txt (r :: rs)) (Lib.encodeRune r).length = txt rs := by
  unfold txt
  rw [bytesOf_cons]
  exact tl_bytes _ _
theorem txt_ne (r : Int) (rs : List Int) : (txt (r :: rs)).size ≠ 0 := by
  rw [txt_size, bytesOf_cons, List.length_append]
  have := enc_pos r
  omega
theorem txt_nil : (txt []).size = 0 := by rw [txt_size]; rfl
theorem decodeGo_txt {r : Int} (h : Lib.validRune r = true) (rs : List Int) : Lib.decodeGo (txt (r :: rs)) = (r.toNat, (Lib.encodeRune r).length) := by
  unfold Lib.decodeGo
  rw [if_neg (txt_ne r rs)]
  have := decodeL_enc h (bytesOf rs)
  unfold Lib.decodeL at this
  unfold txt
  rw [bytesOf_cons]
  exact this
theorem bad1_txt {r : Int} (h : Lib.validRune r = true) (rs : List Int) : ¬ bad1 (txt (r :: rs)) := by
  unfold bad1
  rw [decodeGo_txt h]
  rintro ⟨h1, h2⟩
  obtain ⟨n, rfl, hc⟩ := vR_cases h
  simp only [Int.toNat_natCast] at h1
  subst h1
  dsimp only at h2
  rw [enc_n] at h2
  simp at h2
theorem runesOf_txt : ∀ {rs : List Int}, vR rs → runesOf (txt rs) = some (rs.map Int.toNat)
  | [], _ => by rw [runesOf_nil txt_nil]; rfl
  | r :: rs, h => by
    have hr := h r (List.mem_cons_self ..)
    rw [runesOf_step (txt_ne r rs) (bad1_txt hr rs), decodeGo_txt hr]
    dsimp only
    rw [txt_cons, runesOf_txt (fun x hx => h x (List.mem_cons_of_mem _ hx))]
    rfl
theorem ulen_txt {rs : List Int} (h : vR rs) : ulen (txt rs) = rs.length := by
  unfold ulen
  rw [runesOf_txt h]
  simp
theorem txt_app (a b : List Int) : txt a ++ txt b = txt (a ++ b) := bytes_app a b
/-- Where a rune begins. -/
def offs (rs : List Int) (k : Nat) : Nat := (bytesOf (rs.take k)).length
theorem offs_all (rs : List Int) : offs rs rs.length = (txt rs).size := by unfold offs; rw [List.take_length, txt_size]
theorem offs_succ {rs : List Int} {k : Nat} {r : Int} (h : rs[k]? = some r) : offs rs (k + 1) = offs rs k + (Lib.encodeRune r).length := by
  unfold offs
  obtain ⟨hk, e⟩ := List.getElem?_eq_some_iff.1 h
  rw [List.take_succ_eq_append_getElem hk, bytesOf_append, List.length_append, e, bytesOf_cons]
  show _ = _ + _
  rw [List.length_append]
  rfl
theorem offs_le (rs : List Int) (j k : Nat) (h : j ≤ k) : offs rs j ≤ offs rs k := by
  unfold offs
  have : rs.take k = rs.take j ++ (rs.take k).drop j := by
    have h1 : (rs.take k).take j = rs.take j := by rw [List.take_take]; congr 1; omega
    rw [← h1, List.take_append_drop]
  rw [this, bytesOf_append, List.length_append]
  omega
theorem txt_cut (rs : List Int) (i n : Nat) (hi : i + n ≤ rs.length) : (txt rs).extract (offs rs i) (offs rs (i + n)) = txt ((rs.drop i).take n) := by
  unfold txt offs
  apply ByteArray.ext
  rw [ByteArray.data_extract]
  apply Array.ext'
  rw [Array.toList_extract]
  have h1 : bytesOf rs = bytesOf (rs.take i) ++ (bytesOf ((rs.drop i).take n) ++ bytesOf ((rs.drop i).drop n)) := by
    rw [← bytesOf_append, List.take_append_drop, ← bytesOf_append, List.take_append_drop]
  have h2 : rs.take (i + n) = rs.take i ++ (rs.drop i).take n := by rw [List.take_add]
  rw [h2, bytesOf_append, List.length_append, h1]
  show List.extract _ _ _ = _
  rw [List.extract_eq_take_drop, Nat.add_sub_cancel_left, List.drop_left, List.take_left]
end Go.Proofs.YtjgjjlolhdlofaaGreatDoor

namespace Go.Proofs.YtjgjjlolhdlofaaGreatDoor
open Go.RowKit Go.Mine

/-- An operation, and its spans. -/
structure OpS where
  o : OpV
  sp : List (Int × Int)
/-- Operations in memory. -/
structure IsOps (w : World) (a : Option Addr) (len cap : Nat) (l : List OpS) : Prop where
  n : l.length = len
  le : len ≤ cap
  big : cap ≤ maxLen
  ok : ∀ x ∈ l, x.o.ok w x.sp
  ops : ∀ (i : Nat) (x : OpS), l[i]? = some x → ∃ b off, a = some ⟨b, off, none⟩ ∧ w.rangeAt b (off + i * 7) x.o.cs
theorem IsOps.grown {w w' : World} {a : Option Addr} {len cap : Nat} {l : List OpS} (h : IsOps w a len cap l) (m : Mine.Mod none_ w w') : IsOps w' a len cap l :=
  ⟨h.n, h.le, h.big, fun x hx => (h.ok x hx).grown m, fun i c hc => by
    obtain ⟨b, off, e, hr⟩ := h.ops i c hc
    exact ⟨b, off, e, fun j v hv => m.cell (fun e => e) (hr j v hv)⟩⟩
theorem IsOps.take {w : World} {a : Option Addr} {len cap : Nat} {l : List OpS} (h : IsOps w a len cap l) (k : Nat) (hk : k ≤ len) : IsOps w a k cap (l.take k) :=
  ⟨by rw [List.length_take, h.n]; omega, Nat.le_trans hk h.le, h.big, fun c hc => h.ok c (List.mem_of_mem_take hc), fun i c hc => h.ops i c (by
    rw [List.getElem?_take] at hc
    split at hc
    · exact hc
    · cases hc)⟩

def sameNm (s q : Int) (x : OpS) : Bool := decide (x.o.site = s ∧ x.o.seq = q)

set_option maxHeartbeats 2000000 in
set_option maxRecDepth 1000000 in
theorem named1_any (w : World) (x : OpS) (P : Nat) (s q : Int) (k : Blk w P [.int .i64 s, .int .i64 q] 42) :
    Calls Tryz.prog 124 #[x.o.v, .pointer (some ⟨P, 0, none⟩)] w fun e w' => e = .returned (.bool (sameNm s q x)) ∧ Mine.Mod none_ w w' := by
  obtain ⟨W0, hW0⟩ : ∃ W0, w.alloc (.cells x.o.cs.toArray 58) = W0 := ⟨_, rfl⟩
  obtain ⟨m0, kB⟩ := opBox1 hW0
  obtain ⟨K, hK⟩ : ∃ K, w.heap.size = K := ⟨_, rfl⟩
  rw [hK] at kB
  have M0 := Lib.hid m0
  have kP := k.mod m0 (fun e => e)
  have d0 : W0.cell? ⟨P, 0, none⟩ = some (.int .i64 s) := by rw [kP.cell]; rfl
  have d1 : W0.cell? ⟨P, 1, none⟩ = some (.int .i64 q) := by rw [kP.cell]; rfl
  have c0 : W0.cell? ⟨K, 0, none⟩ = some (.int .i64 x.o.site) := by rw [kB.cell]; rfl
  have c1 : W0.cell? ⟨K, 1, none⟩ = some (.int .i64 x.o.seq) := by rw [kB.cell]; rfl
  clear k m0 kB kP
  go_enter Tryz.func124, Tryz.ntmps124
  go_upto_region 1 with fail
  clear hW0 hK
  by_cases h1 : x.o.site = s
  · by_cases h2 : x.o.seq = q
    · have HE := Lib.hid (show sameNm s q x = true by unfold sameNm; simp [h1, h2])
      rw [h1] at c0
      rw [h2] at c1
      clear h1 h2
      go_wp2_with fail
      go_ret
      exact ⟨by rw [HE.out]; rfl, M0.out⟩
    · have HE := Lib.hid (show sameNm s q x = false by unfold sameNm; simp [h2])
      have b2 : (x.o.seq == q) = false := by simpa using h2
      rw [h1] at c0
      clear h1 h2
      go_wp2_with fail
      go_ret
      exact ⟨by rw [HE.out]; rfl, M0.out⟩
  · have HE := Lib.hid (show sameNm s q x = false by unfold sameNm; simp [h1])
    have b1 : (x.o.site == s) = false := by simpa using h1
    clear h1
    go_wp2_with fail
    go_ret
    exact ⟨by rw [HE.out]; rfl, M0.out⟩

set_option maxHeartbeats 2000000 in
set_option maxRecDepth 1000000 in
theorem namedIx_any (w : World) (a : Option Addr) (len cap : Nat) (l : List OpS) (P : Nat) (s q : Int) (h : IsOps w a len cap l) (k : Blk w P [.int .i64 s, .int .i64 q] 42) :
    Calls Tryz.prog 133 #[.slice a len cap, .func (.func 124) #[] #[.pointer (some ⟨P, 0, none⟩)]] w fun e w' => (∃ r : Int, e = .returned (.int .i64 r) ∧ -1 ≤ r ∧ r ≤ 9223372036854775807 ∧ decide (0 ≤ r) = l.any (sameNm s q)) ∧ Mine.Mod none_ w w' := by
  have hle := h.le
  have hcap := h.big
  unfold maxLen at hcap
  have H := Lib.hid h
  have HN := Lib.hid h.n
  have HP := Lib.hid k
  clear h k
  go_enter Tryz.func133, Tryz.ntmps133
  go_wp2_with fail
  go_loopg [8] len (fun g s8 wx => ∃ k : Nat, g = len - k ∧ s8 = .int .i64 k ∧ k ≤ len ∧ Mine.Mod none_ w wx ∧ RowKit.Hid ((l.take k).any (sameNm s q) = false))
  case atStart => exact ⟨0, rfl, rfl, Nat.zero_le _, Mine.Mod.refl _ _, Lib.hid rfl⟩
  case round =>
    obtain ⟨k, rfl, rfl, hk, mx, hst⟩ := hrel
    have MX := Lib.hid mx
    by_cases hlk : k < len
    · obtain ⟨x, hx⟩ : ∃ x, l[k]? = some x := ⟨l[k]'(by rw [HN.out]; exact hlk), by simp⟩
      obtain ⟨b, off, rfl, hr⟩ := (H.out.grown mx).ops k x hx
      have c0 := hr 0 _ rfl
      have c1 := hr 1 _ rfl
      have c2 := hr 2 _ rfl
      have c3 := hr 3 _ rfl
      have c4 := hr 4 _ rfl
      have c5 := hr 5 _ rfl
      have c6 := hr 6 _ rfl
      rw [Nat.add_zero] at c0
      have HC := Lib.hid (named1_any wr x P s q (HP.out.mod mx (fun e => e)))
      have HT := Lib.hid (show (l.take (k + 1)).any (sameNm s q) = sameNm s q x by
        obtain ⟨hi, e⟩ := List.getElem?_eq_some_iff.1 hx
        rw [List.take_succ_eq_append_getElem hi, List.any_append, hst.out, e]; simp)
      have HA := Lib.hid (fun (hb : sameNm s q x = true) => (show l.any (sameNm s q) = true from List.any_eq_true.2 ⟨x, List.mem_of_getElem? hx, hb⟩))
      generalize sameNm s q x = bb at HC HT HA
      clear hx hst mx hr
      cases bb
      · go_wp2_with fail
        refine HC.out.mono ?_
        rintro e w1 ⟨rfl, m1⟩
        have M1 := Lib.hid (MX.out.trans m1)
        clear m1
        go_wp2_with fail
        go_roundg (len - (k + 1))
        all_goals first
          | omega
          | exact ⟨k + 1, rfl, by go_num, by omega, M1.out, HT⟩
      · go_wp2_with fail
        refine HC.out.mono ?_
        rintro e w1 ⟨rfl, m1⟩
        have M1 := Lib.hid (MX.out.trans m1)
        clear m1
        go_wp2_with fail
        go_ret
        exact ⟨⟨k, rfl, by omega, by omega, by rw [HA.out trivial]; simp⟩, M1.out⟩
    · obtain rfl : k = len := by omega
      have hF : l.any (sameNm s q) = false := by
        have := hst.out
        rwa [List.take_of_length_le (by rw [HN.out]; omega)] at this
      have HF := Lib.hid hF
      clear hst mx hF
      go_wp2_with fail
      go_ret
      exact ⟨⟨-1, rfl, by omega, by omega, by rw [HF.out]; rfl⟩, MX.out⟩

set_option maxHeartbeats 2000000 in
set_option maxRecDepth 1000000 in
theorem named_any (w : World) (a : Option Addr) (len cap : Nat) (l : List OpS) (s q : Int) (h : IsOps w a len cap l) :
    Calls Tryz.prog 108 #[.slice a len cap, .agg #[.int .i64 s, .int .i64 q]] w fun e w' => e = .returned (.bool (l.any (sameNm s q))) ∧ Mine.Mod none_ w w' := by
  obtain ⟨W0, hW0⟩ : ∃ W0, w.alloc (.cells #[.int .i64 s, .int .i64 q] 42) = W0 := ⟨_, rfl⟩
  obtain ⟨K, hK⟩ : ∃ K, w.heap.size = K := ⟨_, rfl⟩
  have m0 : Mine.Mod none_ w W0 := by rw [← hW0]; exact (Mine.Mod.refl none_ w).alloc _
  have k0 : Blk W0 K [.int .i64 s, .int .i64 q] 42 := by rw [← hW0, ← hK]; exact Blk.new (w := w) (cs := [.int .i64 s, .int .i64 q])
  have M0 := Lib.hid m0
  have HI := Lib.hid (namedIx_any W0 a len cap l K s q (h.grown m0) k0)
  clear h m0 k0
  have HC : RowKit.Hid (Calls Tryz.prog 123 #[.slice a len cap, .func (.func 124) #[] #[.pointer (some ⟨K, 0, none⟩)]] W0 fun e w' => e = .returned (.bool (l.any (sameNm s q))) ∧ Mine.Mod none_ W0 w') := Lib.hid (by
    clear hW0 hK
    go_enter Tryz.func123, Tryz.ntmps123
    go_wp2_with fail
    refine HI.out.mono ?_
    rintro e w2 ⟨⟨r, rfl, h1, h2, h3⟩, m2⟩
    have M2 := Lib.hid m2
    have H3 := Lib.hid h3
    clear m2 h3
    go_wp2_with fail
    go_ret
    exact ⟨by rw [← H3.out]; rfl, M2.out⟩)
  clear HI
  go_enter Tryz.func108, Tryz.ntmps108
  go_upto_region 1 with fail
  clear hW0 hK
  go_wp2_with fail
  refine HC.out.mono ?_
  rintro e w1 ⟨rfl, m1⟩
  have M1 := Lib.hid (M0.out.trans m1)
  clear m1 HC
  go_wp2_with fail
  go_ret
  exact ⟨rfl, M1.out⟩

set_option maxHeartbeats 4000000 in
set_option maxRecDepth 1000000 in
theorem rnamed_any (w : World) (a : Option Addr) (len cap : Nat) (l : List OpS) (s q : Int) (h : IsOps w a len cap l) :
    Calls Tryz.prog 61 #[.slice a len cap, .agg #[.int .i64 s, .int .i64 q]] w fun e w' => e = .returned (.bool (l.any (sameNm s q))) ∧ Mine.Mod none_ w w' := by
  have hle := h.le
  have hcap := h.big
  unfold maxLen at hcap
  obtain ⟨W0, hW0⟩ : ∃ W0, w.alloc (.cells #[.int .i64 s, .int .i64 q] 42) = W0 := ⟨_, rfl⟩
  obtain ⟨K, hK⟩ : ∃ K, w.heap.size = K := ⟨_, rfl⟩
  have m0 : Mine.Mod none_ w W0 := by rw [← hW0]; exact (Mine.Mod.refl none_ w).alloc _
  have k0 : Blk W0 K [.int .i64 s, .int .i64 q] 42 := by rw [← hW0, ← hK]; exact Blk.new (w := w) (cs := [.int .i64 s, .int .i64 q])
  have M0 := Lib.hid m0
  have K0 := Lib.hid k0
  have H := Lib.hid (h.grown m0)
  have HN := Lib.hid h.n
  clear h m0 k0
  go_enter Tryz.func61, Tryz.ntmps61
  go_upto_region 1 with fail
  clear hW0 hK
  go_wp2_with fail
  go_loopg [5] len (fun g s5 wx => ∃ k : Nat, g = len - k ∧ s5 = .int .i64 k ∧ k ≤ len ∧ Mine.Mod none_ W0 wx ∧ RowKit.Hid ((l.take k).any (sameNm s q) = false))
  case atStart => exact ⟨0, rfl, rfl, Nat.zero_le _, Mine.Mod.refl _ _, Lib.hid rfl⟩
  case round =>
    obtain ⟨k, rfl, rfl, hk, mx, hst⟩ := hrel
    have MX := Lib.hid mx
    by_cases hlk : k < len
    · obtain ⟨x, hx⟩ : ∃ x, l[k]? = some x := ⟨l[k]'(by rw [HN.out]; exact hlk), by simp⟩
      obtain ⟨b, off, rfl, hr⟩ := (H.out.grown mx).ops k x hx
      have c0 := hr 0 _ rfl
      have c1 := hr 1 _ rfl
      rw [Nat.add_zero] at c0
      have kx := K0.out.mod mx (fun e => e)
      have d0 : wr.cell? ⟨K, 0, none⟩ = some (.int .i64 s) := by rw [kx.cell]; rfl
      have d1 : wr.cell? ⟨K, 1, none⟩ = some (.int .i64 q) := by rw [kx.cell]; rfl
      have HT := Lib.hid (show (l.take (k + 1)).any (sameNm s q) = sameNm s q x by
        obtain ⟨hi, e⟩ := List.getElem?_eq_some_iff.1 hx
        rw [List.take_succ_eq_append_getElem hi, List.any_append, hst.out, e]; simp)
      have HA := Lib.hid (fun (hb : sameNm s q x = true) => (show l.any (sameNm s q) = true from List.any_eq_true.2 ⟨x, List.mem_of_getElem? hx, hb⟩))
      clear hx hst mx hr kx
      by_cases h1 : x.o.site = s
      · by_cases h2 : x.o.seq = q
        · have HE := Lib.hid (HA.out (by unfold sameNm; simp [h1, h2]))
          rw [h1] at c0
          rw [h2] at c1
          clear h1 h2 HT HA
          go_upto_region 4 with fail
          go_quiet (fail)
          have MQ := Lib.hid (M0.out.trans (MX.out.drewN nq))
          generalize wr.drewN nq = wq at MQ ⊢
          clear c0 c1 d0 d1
          go_wp2_with fail
          go_ret
          exact ⟨by rw [HE.out]; rfl, MQ.out⟩
        · have HT2 := Lib.hid (show (l.take (k + 1)).any (sameNm s q) = false by rw [HT.out]; unfold sameNm; simp [h2])
          have b2 : (x.o.seq == q) = false := by simpa using h2
          rw [h1] at c0
          clear h1 h2 HT HA
          go_upto_region 4 with fail
          go_quiet (fail)
          have MQ := Lib.hid (MX.out.drewN nq)
          generalize wr.drewN nq = wq at MQ ⊢
          clear c0 c1 d0 d1
          go_wp2_with fail
          go_roundg (len - (k + 1))
          all_goals first
            | omega
            | exact ⟨k + 1, rfl, by go_num, by omega, MQ.out, HT2⟩
      · have HT2 := Lib.hid (show (l.take (k + 1)).any (sameNm s q) = false by rw [HT.out]; unfold sameNm; simp [h1])
        have b1 : (x.o.site == s) = false := by simpa using h1
        clear h1 HT HA
        go_upto_region 4 with fail
        go_quiet (fail)
        have MQ := Lib.hid (MX.out.drewN nq)
        generalize wr.drewN nq = wq at MQ ⊢
        clear c0 c1 d0 d1
        go_wp2_with fail
        go_roundg (len - (k + 1))
        all_goals first
          | omega
          | exact ⟨k + 1, rfl, by go_num, by omega, MQ.out, HT2⟩
    · obtain rfl : k = len := by omega
      have hF : l.any (sameNm s q) = false := by
        have := hst.out
        rwa [List.take_of_length_le (by rw [HN.out]; omega)] at this
      have HF := Lib.hid hF
      have MF := Lib.hid (M0.out.trans mx)
      clear hst mx hF
      go_wp2_with fail
      go_ret
      exact ⟨by rw [HF.out]; rfl, MF.out⟩
end Go.Proofs.YtjgjjlolhdlofaaGreatDoor

namespace Go.Mine
open Go.Lib

/-- What the first byte says: how many bytes, and what it holds. -/
def lead (b : Nat) : Option (Nat × Nat) :=
  if b < 128 then some (1, b) else if b < 192 then none else if b < 224 then some (2, b - 192) else if b < 240 then some (3, b - 224) else if b < 248 then some (4, b - 240) else none
/-- What the bytes up to the k-th hold. -/
def accR (t : ByteArray) (x0 : Nat) : Nat → Nat
  | 0 => x0
  | k + 1 => 64 * accR t x0 k + bt t (k + 1) - 128
def contB (b : Nat) : Prop := 128 ≤ b ∧ b ≤ 191
/-- A number that is a rune. -/
def isR (n : Nat) : Prop := n ≤ 1114111 ∧ (n < 55296 ∨ 57343 < n)
instance (n : Nat) : Decidable (isR n) := by unfold isR; infer_instance

theorem lead_some {b n x0 : Nat} (h : lead b = some (n, x0)) : (n = 1 ∧ x0 = b ∧ b < 128) ∨ (n = 2 ∧ x0 = b - 192 ∧ 192 ≤ b ∧ b < 224) ∨ (n = 3 ∧ x0 = b - 224 ∧ 224 ≤ b ∧ b < 240) ∨ (n = 4 ∧ x0 = b - 240 ∧ 240 ≤ b ∧ b < 248) := by
  unfold lead at h
  repeat' split at h
  all_goals first
    | (cases h; fail)
    | (simp only [Option.some.injEq, Prod.mk.injEq] at h; omega)
    | simp at h
theorem lead_none {b : Nat} (h : lead b = none) : (128 ≤ b ∧ b < 192) ∨ 248 ≤ b := by
  unfold lead at h
  repeat' split at h
  all_goals first
    | omega
    | simp at h
theorem firstR_none {t : ByteArray} (h : t.size ≠ 0) (hl : lead (bt t 0) = none) : firstR t = (0, 0) := firstR0 h (lead_none hl)
theorem firstR_short {t : ByteArray} (h : t.size ≠ 0) {n x0 : Nat} (hl : lead (bt t 0) = some (n, x0)) (hs : t.size < n) : firstR t = (0, 0) := by
  rcases lead_some hl with ⟨hn', hx', h0⟩ | ⟨hn', hx', h0⟩ | ⟨hn', hx', h0⟩ | ⟨hn', hx', h0⟩ <;> clear hl <;> subst hn'
  · omega
  · rw [firstR2 h h0, if_neg (fun e => by omega)]
  · rw [firstR3 h h0, if_neg (fun e => by omega)]
  · rw [firstR4 h h0, if_neg (fun e => by omega)]
theorem firstR_cont {t : ByteArray} (h : t.size ≠ 0) {n x0 j : Nat} (hl : lead (bt t 0) = some (n, x0)) (h1 : 1 ≤ j) (hj : j < n) (hc : ¬ contB (bt t j)) : firstR t = (0, 0) := by
  unfold contB at hc
  rcases lead_some hl with ⟨hn', hx', h0⟩ | ⟨hn', hx', h0⟩ | ⟨hn', hx', h0⟩ | ⟨hn', hx', h0⟩ <;> clear hl <;> subst hn'
  · omega
  · obtain rfl : j = 1 := by omega
    rw [firstR2 h h0, if_neg (fun e => hc e.2.1)]
  · rcases (show j = 1 ∨ j = 2 by omega) with rfl | rfl
    · rw [firstR3 h h0, if_neg (fun e => hc e.2.1)]
    · rw [firstR3 h h0, if_neg (fun e => hc e.2.2.1)]
  · rcases (show j = 1 ∨ j = 2 ∨ j = 3 by omega) with rfl | rfl | rfl
    · rw [firstR4 h h0, if_neg (fun e => hc e.2.1)]
    · rw [firstR4 h h0, if_neg (fun e => hc e.2.2.1)]
    · rw [firstR4 h h0, if_neg (fun e => hc e.2.2.2.1)]
theorem accR_lt (t : ByteArray) (x0 : Nat) (h : x0 < 128) (k : Nat) (hk : k ≤ 3) : accR t x0 k < 100000000 := by
  have h1 := bt_lt t 1
  have h2 := bt_lt t 2
  have h3 := bt_lt t 3
  have e0 : accR t x0 0 = x0 := rfl
  have e1 : accR t x0 1 = 64 * x0 + bt t 1 - 128 := rfl
  have e2 : accR t x0 2 = 64 * accR t x0 1 + bt t 2 - 128 := rfl
  have e3 : accR t x0 3 = 64 * accR t x0 2 + bt t 3 - 128 := rfl
  generalize hg1 : accR t x0 1 = a1 at e1 e2
  generalize hg2 : accR t x0 2 = a2 at e2 e3
  have hk4 : k = 0 ∨ k = 1 ∨ k = 2 ∨ k = 3 := by omega
  rcases hk4 with e | e | e | e <;> rw [e]
  · rw [e0]; omega
  · rw [hg1]; omega
  · rw [hg2]; omega
  · rw [e3]; omega
theorem two_bytes (n b0 b1 : Nat) (h0 : 192 ≤ b0 ∧ b0 < 224) (hn : 2 ≤ n) (c1 : 128 ≤ b1 ∧ b1 ≤ 191) :
    (if 2 ≤ n ∧ (128 ≤ b1 ∧ b1 ≤ 191) ∧ 128 ≤ 64 * (b0 - 192) + b1 - 128 then (64 * (b0 - 192) + b1 - 128, 2) else (0, 0)) = if isR (64 * (b0 - 192) + b1 - 128) ∧ encR (64 * (b0 - 192) + b1 - 128) = [b0, b1] then (64 * (b0 - 192) + b1 - 128, 2) else (0, 0) := by
  generalize hx : 64 * (b0 - 192) + b1 - 128 = x
  by_cases hv : 128 ≤ x
  · rw [if_pos ⟨hn, c1, hv⟩, if_pos]
    refine ⟨by unfold isR; omega, ?_⟩
    unfold encR
    rw [if_neg (by omega), if_pos (by omega)]
    simp only [List.cons.injEq, and_true]
    omega
  · rw [if_neg (fun e => hv e.2.2), if_neg]
    rintro ⟨_, he⟩
    unfold encR at he
    rw [if_pos (by omega)] at he
    simp at he
theorem three_bytes (n b0 b1 b2 : Nat) (h0 : 224 ≤ b0 ∧ b0 < 240) (hn : 3 ≤ n) (c1 : 128 ≤ b1 ∧ b1 ≤ 191) (c2 : 128 ≤ b2 ∧ b2 ≤ 191) (x : Nat) (hx : 64 * (64 * (b0 - 224) + b1 - 128) + b2 - 128 = x) :
    (if 3 ≤ n ∧ (128 ≤ b1 ∧ b1 ≤ 191) ∧ (128 ≤ b2 ∧ b2 ≤ 191) ∧ 2048 ≤ x ∧ (x < 55296 ∨ 57343 < x) then (x, 3) else (0, 0)) = if isR x ∧ encR x = [b0, b1, b2] then (x, 3) else (0, 0) := by
  by_cases hv : 2048 ≤ x ∧ (x < 55296 ∨ 57343 < x)
  · rw [if_pos ⟨hn, c1, c2, hv⟩, if_pos]
    refine ⟨by unfold isR; omega, ?_⟩
    unfold encR
    rw [if_neg (by omega), if_neg (by omega), if_pos (by omega)]
    simp only [List.cons.injEq, and_true]
    omega
  · rw [if_neg (fun e => hv e.2.2.2), if_neg]
    rintro ⟨hr, he⟩
    unfold isR at hr
    have hx2 : x < 2048 := by omega
    unfold encR at he
    by_cases h1 : x < 128
    · rw [if_pos h1] at he
      simp at he
    · rw [if_neg h1, if_pos hx2] at he
      simp at he
theorem four_bytes (n b0 b1 b2 b3 : Nat) (h0 : 240 ≤ b0 ∧ b0 < 248) (hn : 4 ≤ n) (c1 : 128 ≤ b1 ∧ b1 ≤ 191) (c2 : 128 ≤ b2 ∧ b2 ≤ 191) (c3 : 128 ≤ b3 ∧ b3 ≤ 191) (x : Nat) (hx : 64 * (64 * (64 * (b0 - 240) + b1 - 128) + b2 - 128) + b3 - 128 = x) :
    (if 4 ≤ n ∧ (128 ≤ b1 ∧ b1 ≤ 191) ∧ (128 ≤ b2 ∧ b2 ≤ 191) ∧ (128 ≤ b3 ∧ b3 ≤ 191) ∧ 65536 ≤ x ∧ x ≤ 1114111 then (x, 4) else (0, 0)) = if isR x ∧ encR x = [b0, b1, b2, b3] then (x, 4) else (0, 0) := by
  by_cases hv : 65536 ≤ x ∧ x ≤ 1114111
  · rw [if_pos ⟨hn, c1, c2, c3, hv⟩, if_pos]
    refine ⟨by unfold isR; omega, ?_⟩
    unfold encR
    rw [if_neg (by omega), if_neg (by omega), if_neg (by omega)]
    simp only [List.cons.injEq, and_true]
    omega
  · rw [if_neg (fun e => hv e.2.2.2.2), if_neg]
    rintro ⟨hr, he⟩
    unfold isR at hr
    have hx2 : x < 65536 := by omega
    unfold encR at he
    by_cases h1 : x < 128
    · rw [if_pos h1] at he
      simp at he
    · by_cases h2 : x < 2048
      · rw [if_neg h1, if_pos h2] at he
        simp at he
      · rw [if_neg h1, if_neg h2, if_pos hx2] at he
        simp at he
/-- All bytes are of the form: the rune is right just if its own bytes are these. -/
theorem firstR_all {t : ByteArray} (h : t.size ≠ 0) {n x0 : Nat} (hl : lead (bt t 0) = some (n, x0)) (hn : n ≤ t.size) (hc : ∀ j, 1 ≤ j → j < n → contB (bt t j)) :
    firstR t = if isR (accR t x0 (n - 1)) ∧ encR (accR t x0 (n - 1)) = (List.range n).map (bt t) then (accR t x0 (n - 1), n) else (0, 0) := by
  have r1 : (List.range 1).map (bt t) = [bt t 0] := rfl
  have r2 : (List.range 2).map (bt t) = [bt t 0, bt t 1] := rfl
  have r3 : (List.range 3).map (bt t) = [bt t 0, bt t 1, bt t 2] := rfl
  have r4 : (List.range 4).map (bt t) = [bt t 0, bt t 1, bt t 2, bt t 3] := rfl
  have hc1 : 1 < n → contB (bt t 1) := fun e => hc 1 (Nat.le_refl _) e
  have hc2 : 2 < n → contB (bt t 2) := fun e => hc 2 (by decide) e
  have hc3 : 3 < n → contB (bt t 3) := fun e => hc 3 (by decide) e
  rcases lead_some hl with ⟨hn', hx', h0⟩ | ⟨hn', hx', h0⟩ | ⟨hn', hx', h0⟩ | ⟨hn', hx', h0⟩ <;> clear hl <;> subst hn'
  · have e1 : accR t x0 (1 - 1) = bt t 0 := hx'
    have e2 : isR (bt t 0) := ⟨Nat.le_trans (Nat.le_of_lt h0) (by decide), .inl (Nat.lt_of_lt_of_le h0 (by decide))⟩
    have e3 : encR (bt t 0) = (List.range 1).map (bt t) := by
      rw [r1]
      unfold encR
      rw [if_pos h0]
    rw [firstR1 h h0, e1, if_pos ⟨e2, e3⟩]
  · have e1 : accR t x0 (2 - 1) = 64 * (bt t 0 - 192) + bt t 1 - 128 := by rw [← hx']; rfl
    rw [firstR2 h h0, r2, e1]
    exact two_bytes _ _ _ h0 hn (hc1 (by decide))
  · have e1 : 64 * (64 * (bt t 0 - 224) + bt t 1 - 128) + bt t 2 - 128 = accR t x0 (3 - 1) := by rw [← hx']; rfl
    rw [firstR3 h h0, r3, e1]
    exact three_bytes _ _ _ _ h0 hn (hc1 (by decide)) (hc2 (by decide)) _ e1
  · have e1 : 64 * (64 * (64 * (bt t 0 - 240) + bt t 1 - 128) + bt t 2 - 128) + bt t 3 - 128 = accR t x0 (4 - 1) := by rw [← hx']; rfl
    rw [firstR4 h h0, r4, e1]
    exact four_bytes _ _ _ _ _ h0 hn (hc1 (by decide)) (hc2 (by decide)) (hc3 (by decide)) _ e1
end Go.Mine

namespace Go.Proofs.YtjgjjlolhdlofaaGreatDoor
open Go.RowKit Go.Mine

theorem vR_bools (r : Int) : Lib.validRune r = (decide (0 ≤ r) && decide (r ≤ 1114111) && (decide (r < 55296) || decide (57343 < r))) := by
  unfold Lib.validRune
  rw [Bool.eq_iff_iff]
  simp only [decide_eq_true_eq, Bool.and_eq_true, Bool.or_eq_true]
  omega

set_option maxHeartbeats 1000000 in
set_option maxRecDepth 1000000 in
theorem ris_any (r : Int) (w : World) : Calls Tryz.prog 60 #[.int .i32 r] w fun e w' => e = .returned (.bool (Lib.validRune r)) ∧ w' = w := by
  rw [vR_bools]
  go_enter Tryz.func60, Tryz.ntmps60
  cases h0 : decide (0 ≤ r)
  · go_wp2_with fail
    go_ret
    exact ⟨rfl, rfl⟩
  · cases h1 : decide (r ≤ 1114111)
    · go_wp2_with fail
      go_ret
      exact ⟨rfl, rfl⟩
    · cases h2 : decide (r < 55296)
      · cases h3 : decide (57343 < r)
        · go_wp2_with fail
          go_ret
          exact ⟨rfl, rfl⟩
        · go_wp2_with fail
          go_ret
          exact ⟨rfl, rfl⟩
      · go_wp2_with fail
        go_ret
        exact ⟨rfl, rfl⟩

/-- Bytes in memory. -/
abbrev encCs (r : Nat) : List Value := (encR r).map fun x : Nat => Value.int .u8 (x : Int)
def BytesTo (w : World) (r : Nat) (e : Ending) (w' : World) : Prop := (∃ g, e = .returned (.slice (some ⟨g, 0, none⟩) (encR r).length (encR r).length) ∧ w.heap.size ≤ g ∧ Blk w' g (encCs r) 5) ∧ Mod none_ w w'

theorem BytesTo.mk {w : World} {r : Nat} (cs : List Value) (n : Nat) (h : encCs r = cs) (hn : cs.length = n) : BytesTo w r (.returned (.slice (some ⟨w.heap.size, 0, none⟩) n n)) (w.alloc (.cells cs.toArray 5)) := by
  have hl : (encR r).length = n := by rw [← hn, ← h, List.length_map]
  refine ⟨⟨w.heap.size, by rw [hl], Nat.le_refl _, ?_⟩, (Mod.refl none_ w).alloc _⟩
  rw [h]
  exact Blk.new

set_option maxHeartbeats 1000000 in
set_option maxRecDepth 1000000 in
theorem rbytes_any (r : Nat) (w : World) (h : r ≤ 1114111) : Calls Tryz.prog 39 #[.int .i32 (r : Int)] w (BytesTo w r) := by
  have hi : IntKind.i64.wrap (r : Int) = r := by rw [IntKind.wrap_i64]; omega
  go_enter Tryz.func39, Tryz.ntmps39
  by_cases h0 : (r : Int) < 128
  · have hd0 : decide ((r : Int) < 128) = true := by simpa using h0
    have HF := Lib.hid (show BytesTo w r (.returned (.slice (some ⟨w.heap.size, 0, none⟩) 1 1)) (w.alloc (.cells [Value.int .u8 (r : Int)].toArray 5)) from
      BytesTo.mk _ 1 (by unfold encCs encR; rw [if_pos (by omega)]; rfl) rfl)
    go_wp2_with fail
    go_ret
    exact HF.out
  · have hd0 : decide ((r : Int) < 128) = false := by simpa using h0
    by_cases h1 : (r : Int) < 2048
    · have hd1 : decide ((r : Int) < 2048) = true := by simpa using h1
      have HF := Lib.hid (show BytesTo w r (.returned (.slice (some ⟨w.heap.size, 0, none⟩) 2 2)) (w.alloc (.cells [Value.int .u8 (192 + (r : Int) / 64), .int .u8 (128 + (r : Int) % 64)].toArray 5)) from
        BytesTo.mk _ 2 (by unfold encCs encR; rw [if_neg (by omega), if_pos (by omega)]; simp) rfl)
      go_wp2_with fail
      go_ret
      exact HF.out
    · have hd1 : decide ((r : Int) < 2048) = false := by simpa using h1
      by_cases h2 : (r : Int) < 65536
      · have hd2 : decide ((r : Int) < 65536) = true := by simpa using h2
        have HF := Lib.hid (show BytesTo w r (.returned (.slice (some ⟨w.heap.size, 0, none⟩) 3 3)) (w.alloc (.cells [Value.int .u8 (224 + (r : Int) / 4096), .int .u8 (128 + (r : Int) / 64 % 64), .int .u8 (128 + (r : Int) % 64)].toArray 5)) from
          BytesTo.mk _ 3 (by unfold encCs encR; rw [if_neg (by omega), if_neg (by omega), if_pos (by omega)]; simp) rfl)
        go_wp2_with fail
        go_ret
        exact HF.out
      · have hd2 : decide ((r : Int) < 65536) = false := by simpa using h2
        have HF := Lib.hid (show BytesTo w r (.returned (.slice (some ⟨w.heap.size, 0, none⟩) 4 4)) (w.alloc (.cells [Value.int .u8 (240 + (r : Int) / 262144), .int .u8 (128 + (r : Int) / 4096 % 64), .int .u8 (128 + (r : Int) / 64 % 64), .int .u8 (128 + (r : Int) % 64)].toArray 5)) from
          BytesTo.mk _ 4 (by unfold encCs encR; rw [if_neg (by omega), if_neg (by omega), if_neg (by omega)]; simp) rfl)
        go_wp2_with fail
        go_ret
        exact HF.out
end Go.Proofs.YtjgjjlolhdlofaaGreatDoor
