/-
  Layer 21 (hold): Take.
-/
import Derived.Test.YtpdfakfokegcnaaHold10
namespace Go.Proofs.Ytpdfakfokegcnaa
open Go.RowKit Go.Mine
attribute [local go_sem] m_push m_pop m_has m_first m_len m_less m_swap ta_item
attribute [local go_sem ↓] ld_msg st_msg ld_item st_item
attribute [local go_sem] run_ld_msg run_st_msg run_ld_item run_st_item cut_drew setCells_drew World.there_drew setCells_alloc_at there_alloc_at cut_alloc_at there_alloc_old cut_alloc_old fold_set_whole fold_set_at there_drewN cut_drewN setCells_drewN

theorem there_alloc_mid (w : World) (cs : Array Value) (T : TypeId) (off k n : Nat) (hn : n = w.heap.size) (h : off + k ≤ cs.size) : (w.alloc (.cells cs T)).there n off k := by
  subst hn; exact Blk.there (t := T) (cs := cs.toList) (heap_alloc_new w _) off k (by simpa using h)
theorem cut_alloc_mid (w : World) (cs : List Value) (T : TypeId) (off k n : Nat) (hn : n = w.heap.size) (h : off + k ≤ cs.length) : cut (w.alloc (.cells cs.toArray T)) n off k = (cs.drop off).take k := by
  subst hn
  refine cut_of_range (fun j v hv => ?_) (by simp; omega)
  have hb : Blk (w.alloc (.cells cs.toArray T)) w.heap.size cs T := heap_alloc_new w _
  rw [hb.cell]
  rw [List.getElem?_take] at hv
  split at hv
  · rw [List.getElem?_drop] at hv; exact hv
  · cases hv
theorem there_setCell_at (w : World) (b o : Nat) (v : Value) (g off k : Nat) (h : w.there g off k) : (w.setCell ⟨b, o, none⟩ v).there g off k := World.there_setCells h b o [v]
attribute [local go_sem] there_alloc_mid cut_alloc_mid there_setCell_at

theorem blk_over {w : World} {g : Nat} {cs mc : List Value} {t : TypeId} (h : Blk w g cs t) (hl : cs.length = mc.length) : Blk (w.setCells g 0 mc) g mc t ∧ Mod (one g) w (w.setCells g 0 mc) := by
  obtain ⟨a, b⟩ := Blk.setCells mc 0 w cs h (by omega)
  rw [List.take_zero, List.nil_append, List.drop_eq_nil_of_le (by omega), List.append_nil] at a
  exact ⟨a, b⟩
theorem blk_range {w : World} {g : Nat} {cs : List Value} {t : TypeId} (h : Blk w g cs t) : w.rangeAt g 0 cs := fun j v hv => by rw [Nat.zero_add, h.cell]; exact hv

theorem perm_nodup_num {xs L : List Itm} (h : xs.Perm L) (hn : (xs.map Itm.num).Nodup) : (L.map Itm.num).Nodup := ((h.map Itm.num).nodup_iff).1 hn

/-- The root is the item of the number next, where there is one. -/
theorem QRep.root {B : Nat} {w : World} {p lb g cap : Nat} {next : Int} {xs : List Itm} {more : List Value} (h : QRep B w p lb g cap next xs more) {x : Itm} (hx : x ∈ xs) (hn : x.num = next) : xs[0]? = some x := by
  obtain ⟨i, hi⟩ := List.getElem?_of_mem hx
  have hil : i < xs.length := (List.getElem?_eq_some_iff.1 hi).1
  have hr := h.hh.root i hil
  have hk : key kI xs i = x.num := by unfold key; rw [List.getD_eq_getElem?_getD, hi]; rfl
  have h0 := getD_of_lt (xs := xs) (show 0 < xs.length by omega)
  have hge := h.ge _ (List.mem_of_getElem? h0)
  have hk0 : key kI xs 0 = (xs.getD 0 default).num := rfl
  have e : (xs.getD 0 default).num = x.num := by omega
  have hnd := h.nd
  have := List.getElem_inj (xs := xs.map Itm.num) (i := 0) (j := i) (h₀ := by simp; omega) (h₁ := by simpa using hil) hnd
  have hi' := (List.getElem?_eq_some_iff.1 hi).2
  have h0' := (List.getElem?_eq_some_iff.1 h0).2
  have h00 : 0 = i := this.1 (by simp only [List.getElem_map]; rw [hi', h0']; exact e)
  subst h00; exact hi

theorem QRep.noroot {B : Nat} {w : World} {p lb g cap : Nat} {next : Int} {xs : List Itm} {more : List Value} (h : QRep B w p lb g cap next xs more) (hno : ∀ x ∈ xs, x.num ≠ next) : (if xs.length = 0 then 0 else key kI xs 0) ≠ next := by
  split
  · have := h.nx; omega
  · rename_i h0
    have := hno _ (List.mem_of_getElem? (getD_of_lt (xs := xs) (show 0 < xs.length by omega)))
    exact this

set_option maxHeartbeats 400000 in
set_option maxRecDepth 1000000 in
theorem qtake_nil (w : World) : Calls Try.prog 22 #[.pointer none] w fun e w' => e = .returned (.tuple #[.agg zm.toArray, .bool false]) ∧ Mod none_ w w' := by
  have z1 := zm_ones
  have HL := Lib.hid (fun w => qlook_nil w)
  have hz : zm.length = 11 := rfl
  have oz : Ones zm := zm_ones
  go_enter Try.func22, Try.ntmps22
  go_wp2_with (go_at_call 24; refine (HL.out _).mono ?_; rintro e w1 ⟨rfl, m1⟩; have b0 := (Blk.new (w := w) (cs := zm) (t := 51)).mod m1 (fun e => e); have t0 := b0.there 0 11 (by decide); have hlt0 := b0.lt; have B0 := Lib.hid b0; have M1 := Lib.hid m1; clear b0 m1)
  refine bodyPost_ret (results_msg rfl _ _ w.heap.size zm rfl rfl ?_) rfl ⟨rfl, ?_⟩
  · exact blk_range (blk_over (B0.out.mod ((Mod.refl none_ w1).alloc _) (fun e => e)) rfl).1
  · exact (((Mod.refl none_ w).alloc _).trans (M1.out.trans ((Mod.refl none_ w1).alloc _))).transIn (blk_over (B0.out.mod ((Mod.refl none_ w1).alloc _) (fun e => e)) rfl).2 (fun x h1 h2 => by have : x = w.heap.size := h2; omega)

set_option maxHeartbeats 400000 in
set_option maxRecDepth 1000000 in
theorem qtake_none (B p lb g : Nat) (next : Int) (L : List Itm) (w : World) (h : QIs B w p lb g next L) (hno : ∀ x ∈ L, x.num ≠ next) :
    Calls Try.prog 22 #[.pointer (some ⟨p, 0, none⟩)] w (QPost B p lb g next L (.tuple #[.agg zm.toArray, .bool false]) w) := by
  obtain ⟨cap, xs, more, h, hperm⟩ := h
  have H := Lib.hid h
  have z1 := zm_ones
  have HL := Lib.hid (fun w (h : QRep B w p lb g cap next xs more) => qlook_none B p lb g cap next xs more w h (h.noroot (fun x hx => hno x (hperm.mem_iff.1 hx))))
  have P := Lib.hid hperm
  have hz : zm.length = 11 := rfl
  have oz : Ones zm := zm_ones
  clear h hperm hno
  go_enter Try.func22, Try.ntmps22
  go_wp2_with (go_at_call 24; refine (HL.out _ (by exact H.out.grown ((Mod.refl none_ w).alloc _))).mono ?_; rintro e w1 ⟨rfl, m1⟩; have b0 := (Blk.new (w := w) (cs := zm) (t := 51)).mod m1 (fun e => e); have t0 := b0.there 0 11 (by decide); have hlt0 := b0.lt; have B0 := Lib.hid b0; have M1 := Lib.hid m1; clear b0 m1)
  refine bodyPost_ret (results_msg rfl _ _ w.heap.size zm rfl rfl ?_) rfl (H.out.same P.out ?_)
  · exact blk_range (blk_over (B0.out.mod ((Mod.refl none_ w1).alloc _) (fun e => e)) rfl).1
  · exact (((Mod.refl none_ w).alloc _).trans (M1.out.trans ((Mod.refl none_ w1).alloc _))).transIn (blk_over (B0.out.mod ((Mod.refl none_ w1).alloc _) (fun e => e)) rfl).2 (fun x h1 h2 => by have : x = w.heap.size := h2; omega)

set_option maxHeartbeats 400000 in
set_option maxRecDepth 1000000 in
theorem qtake_some (B p lb g : Nat) (next : Int) (x : Itm) (L : List Itm) (w : World) (h : QIs B w p lb g next (x :: L)) (hn : x.num = next) :
    Calls Try.prog 22 #[.pointer (some ⟨p, 0, none⟩)] w (QPost B p lb g (next + 1) L (.tuple #[.agg x.m.toArray, .bool true]) w) := by
  obtain ⟨cap, xs, more, h, hperm⟩ := h
  have H := Lib.hid h
  have hroot := h.root (hperm.mem_iff.2 (List.mem_cons_self ..)) hn
  have hlen : 0 < xs.length := (List.getElem?_eq_some_iff.1 hroot).1
  have HL := Lib.hid (fun w (h : QRep B w p lb g cap next xs more) => qlook_some B p lb g cap next xs more x w h hroot hn)
  have HX : Hid (x = xs.getD 0 default) := by rw [List.getD_eq_getElem?_getD, hroot]; rfl
  have HN := Lib.hid hn
  have P := Lib.hid hperm
  have z1 := zm_ones
  have hz : zm.length = 11 := rfl
  have oz : Ones zm := zm_ones
  have om : Ones x.m := x.one
  have hm := x.hm
  have hxc := x.len
  have hmid : List.take 11 x.cells.tail = x.m := by show x.m.take 11 = x.m; rw [List.take_of_length_le (by rw [hm]; omega)]
  have c0 := h.c0
  have c1 := h.c1
  have hpl := h.hp.lt
  have hnx := h.nx
  clear h hperm hroot hn
  go_enter Try.func22, Try.ntmps22
  go_wp2_with (go_at_call 24; refine (HL.out _ (by exact H.out.grown ((Mod.refl none_ w).alloc _))).mono ?_; rintro e w1 ⟨rfl, m1⟩; have b0 := (Blk.new (w := w) (cs := zm) (t := 51)).mod m1 (fun e => e); have d1 := (((Mod.refl none_ w).alloc _).trans m1).cell (p := ⟨p, 1, none⟩) (fun e => e) c1; have hp1 := block_lt_of_cell d1; have B0 := Lib.hid b0; have M1 := Lib.hid m1; clear b0 m1)
  refine (heap_pop B lb g cap xs more x _ (by exact (H.out.it.grown (((Mod.refl none_ w).alloc _).trans M1.out)).grown ((Mod.refl none_ w1).alloc _)) hlen H.out.hh HX.out).mono ?_
  rintro e w2 ⟨rfl, zs, more', hr, hpm, hh, m2⟩
  have hN := H.out.it.hl.lt
  have hN2 := H.out.it.hg.lt
  have b2 := (B0.out.mod ((Mod.refl none_ w1).alloc _) (fun e => e)).mod m2 (fun e => by rcases e with e | e <;> omega)
  have t2 := b2.there 0 11 (by decide)
  have hlt2 := b2.lt
  have t3 := there_setCell_at w2 p 0 (.int .i64 (next + 1)) _ _ _ t2
  have hp2 := ((H.out.hp.mod (((Mod.refl none_ w).alloc _).trans M1.out) (fun e => e)).mod ((Mod.refl none_ w1).alloc _) (fun e => e)).mod m2 (fun e => by rcases e with e | e; exact H.out.nl e; exact H.out.ng e)
  have d2 : w2.cell? ⟨p, 0, none⟩ = some (.int .i64 next) := by rw [hp2.cell]; rfl
  have f2 := hp2.frozen 0
  have hpl2 := hp2.lt
  have B2 := Lib.hid b2
  have P2 := Lib.hid hp2
  have Q := Lib.hid (And.intro hr (And.intro hpm (And.intro hh m2)))
  clear b2 hp2 hr hpm hh m2
  go_wp2
  obtain ⟨hr, hpm, hh, m2⟩ := Q.out
  have mA : Mod (one p) w2 ((w2.setCell ⟨p, 0, none⟩ (.int .i64 (next + 1))).alloc (.cells x.cells.toArray 94)) := ((Mod.refl (one p) w2).setCell ⟨p, 0, none⟩ (fun _ => rfl) _).alloc _
  have hpN : w.heap.size ≠ p := by omega
  obtain ⟨bZ, mZ⟩ := blk_over (B2.out.mod mA hpN) (show zm.length = x.m.length by rw [hm]; rfl)
  refine bodyPost_ret (results_msg rfl _ _ w.heap.size x.m rfl hm (blk_range bZ)) rfl ⟨rfl, g, ?_, ?_, .inl rfl⟩
  · have hpL : zs.Perm L := (List.perm_cons x).1 (hpm.trans P.out)
    have hpx : p ≠ w.heap.size := fun e => hpN e.symm
    have hNl : lb ≠ w.heap.size := by have := H.out.it.hl.lt; omega
    have hNg : g ≠ w.heap.size := by have := H.out.it.hg.lt; omega
    have hp' := ((P2.out.set 0 (.int .i64 (next + 1))).mod ((Mod.refl none_ _).alloc (.cells x.cells.toArray 94)) (fun e => e)).mod mZ hpx
    have hnd : (zs.map Itm.num).Nodup ∧ x.num ∉ zs.map Itm.num := by
      have := ((hpm.map Itm.num).nodup_iff).2 H.out.nd
      rw [List.map_cons, List.nodup_cons] at this
      exact ⟨this.2, this.1⟩
    have hlen' := hpm.length_eq
    refine ⟨cap, zs, more', ⟨by simpa using hp', ?_, hh, H.out.nl, H.out.ng, H.out.bp, by simp at hlen'; have := H.out.len; omega, hnd.1, fun y hy => ?_, by have := H.out.nx; have := (H.out.ge x (hpm.mem_iff.1 (List.mem_cons_self ..))); have := HN.out; omega⟩, hpL⟩
    · exact ⟨(hr.hl.mod mA (fun e => H.out.nl e.symm)).mod mZ hNl, (hr.hg.mod mA (fun e => H.out.ng e.symm)).mod mZ hNg, hr.ne, hr.bl, hr.bg, hr.nc, hr.cm, hr.few, hr.rm⟩
    · have h1 := H.out.ge y (hpm.mem_iff.1 (List.mem_cons_of_mem _ hy))
      have h2 : y.num ≠ next := fun e => hnd.2 (by rw [HN.out, ← e]; exact List.mem_map_of_mem hy)
      omega
  · have m3 := ((((Mod.refl none_ w).alloc (.cells zm.toArray 51)).trans M1.out).trans ((Mod.refl none_ w1).alloc (.cells x.m.toArray 51)))
    have m4 : Mod (fun b => b = p ∨ b = lb ∨ b = g) w w2 := (m3.mono (fun _ _ e => e.elim)).trans (m2.mono (fun _ _ e => .inr e))
    have m5 := (m4.trans (mA.mono (fun _ _ e => .inl e))).transIn mZ (fun x h1 h2 => by have : x = w.heap.size := h2; omega)
    exact m5

end Go.Proofs.Ytpdfakfokegcnaa
