/-
  Layer 21 (hold): Put.
-/
import Derived.Test.YtpdfakfokegcnaaHold8
namespace Go.Proofs.Ytpdfakfokegcnaa
open Go.RowKit Go.Mine
attribute [local go_sem] m_push m_pop m_has m_first m_len m_less m_swap ta_item
attribute [local go_sem ↓] ld_msg st_msg
attribute [local go_sem] run_ld_msg cut_drew setCells_drew World.there_drew setCells_alloc_at there_alloc_at cut_alloc_at there_alloc_old cut_alloc_old fold_set_whole fold_set_at

theorem put_end {B p lb g cap : Nat} {next : Int} {xs L : List Itm} {more : List Value} {x : Itm} {w w1 w2 : World} {e : Ending} (h : QRep B w p lb g cap next xs more) (hp : xs.Perm L) (m : Mod none_ w w1) (hl : xs.length < 64) (hx : next ≤ x.num ∧ x.num ≤ 1099511627776) (hin : x.num ∉ xs.map Itm.num)
    (hq : HPushPost B lb xs x g w1 e w2) : QPost B p lb g next (x :: L) (.int .i64 0) w (.returned (.int .i64 0)) w2 := by
  obtain ⟨_, g', cap', ys, more', hr, hpm, hh, hm, hg⟩ := hq
  have hmm : Mod (fun b => b = lb ∨ b = g) w w2 := (m.mono (fun _ _ e => e.elim)).trans hm
  have hpl := h.hp.lt
  have hlen := hpm.length_eq
  refine ⟨rfl, g', ⟨cap', ys, more', ⟨h.hp.mod hmm (fun e => by rcases e with e | e; exact h.nl e; exact h.ng e), hr, hh, h.nl, ?_, h.bp, ?_, ?_, fun y hy => ?_, h.nx⟩, hpm.trans (hp.cons x)⟩, hmm.mono (fun b _ e => .inr e), ?_⟩
  · rcases hg with e | e
    · rw [e]; exact h.ng
    · have := m.size; omega
  · simp at hlen; omega
  · rw [(hpm.map Itm.num).nodup_iff, List.map_cons, List.nodup_cons]
    exact ⟨hin, h.nd⟩
  · rcases List.mem_cons.1 (hpm.mem_iff.1 hy) with rfl | hy
    · exact hx
    · exact h.ge y hy
  · rcases hg with e | e
    · exact .inl e
    · right; have := m.size; omega

set_option maxHeartbeats 400000 in
set_option maxRecDepth 1000000 in
theorem qput_ok (B p lb g : Nat) (next : Int) (x : Itm) (L : List Itm) (w : World) (h : QIs B w p lb g next L) (h1 : next ≤ x.num) (h2 : x.num ≤ 1099511627776) (hin : x.num ∉ L.map Itm.num) (hl : L.length < 64) :
    Calls Try.prog 21 #[.pointer (some ⟨p, 0, none⟩), .int .i64 x.num, .agg x.m.toArray] w (QPost B p lb g next (x :: L) (.int .i64 0) w) := by
  obtain ⟨cap, xs, more, h, hperm⟩ := h
  have c0 := h.c0
  have c1 := h.c1
  have hpl := h.hp.lt
  have hll := h.it.hl.lt
  have H := Lib.hid h
  have hin2 : x.num ∉ xs.map Itm.num := fun e => hin ((hperm.map Itm.num).mem_iff.1 e)
  have hin' : ¬ 0 ≤ idx xs x.num := fun e => hin2 (idx_nonneg.1 e)
  have hd : decide (0 ≤ idx xs x.num) = false := decide_eq_false hin'
  have P := Lib.hid hperm
  have hx : xs.length < 64 := by have := hperm.length_eq; omega
  have c3 := h.it.c0
  have hne : ((xs.length : Int) == 64) = false := by rw [beq_eq_false_iff_ne]; omega
  have IN := Lib.hid hin2
  have hm11 := x.hm
  have HH := Lib.hid h.hh
  clear h hin hin' hin2 hperm hl
  have HX : ((Value.int .i64 x.num :: x.m)) = x.cells := rfl
  go_enter Try.func21, Try.ntmps21
  go_wp2_with (first
    | (go_at_call 90; refine (items_has B lb g cap xs more x.num _ (by exact (H.out.grown ((Mod.refl none_ w).alloc _)).it)).mono ?_; rw [hd]; rintro e w1 ⟨rfl, m1⟩; have d1 := (((Mod.refl none_ w).alloc _).trans m1).cell (p := ⟨p, 1, none⟩) (fun e => e) c1; have d3 := (((Mod.refl none_ w).alloc _).trans m1).cell (p := ⟨lb, 0, none⟩) (fun e => e) c3; have bx := (Blk.new (w := w) (cs := x.m) (t := 51)).mod m1 (fun e => e); have t5 := bx.there 0 11 (by omega); have u5 := cut_of_range (w := w1) (g := w.heap.size) (o := 0) (k := 11) (cs := x.m) (fun j v hv => by rw [Nat.zero_add, bx.cell]; exact hv) hm11; have BX := Lib.hid bx; clear bx; have M1 := Lib.hid m1; clear m1)
    | (go_at_call 84; refine (items_len _ _ _ _).mono ?_; rintro e w2 ⟨rfl, rfl⟩))
  go_region_law (go_simp; go_at_call 39; refine (heap_push B lb g cap xs more x _ (by exact (H.out.it.grown (((Mod.refl none_ w).alloc _).trans M1.out)).grown (Mod.refl none_ w1).drew) (by omega) HH.out).mono ?_; intro e w3 hq; have HP := Lib.hid (put_end H.out P.out ((((Mod.refl none_ w).alloc _).trans M1.out).drew) hx ⟨h1, h2⟩ IN.out hq); obtain ⟨rfl, _⟩ := hq)
  all_goals (go_wp2; go_ret; exact HP.out)

end Go.Proofs.Ytpdfakfokegcnaa
