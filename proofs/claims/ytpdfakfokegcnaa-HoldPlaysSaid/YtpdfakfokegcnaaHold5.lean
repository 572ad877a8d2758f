/-
  Layer 21 (hold): the items' Pop; the heap's Push, Pop, Remove.
-/
import Derived.Test.YtpdfakfokegcnaaHold4
namespace Go.Proofs.Ytpdfakfokegcnaa
open Go.RowKit Go.Mine
attribute [local go_sem] m_push m_pop m_has m_first m_len m_less m_swap ta_item
attribute [local go_sem ↓] ld_item st_item
attribute [local go_sem] run_ld_item run_st_item cut_drew setCells_drew World.there_drew setCells_alloc_at there_alloc_at cut_alloc_at there_alloc_old cut_alloc_old fold_set_whole

def PopPost (B lb g cap : Nat) (xs : List Itm) (w : World) (e : Ending) (w' : World) : Prop :=
  ∃ more', e = .returned (.iface 94 (.agg (xs.getD (xs.length - 1) default).cells.toArray)) ∧ IRep B w' lb g cap (xs.take (xs.length - 1)) more' ∧ Mod (one lb) w w'

set_option maxHeartbeats 400000 in
set_option maxRecDepth 1000000 in
theorem items_pop (B lb g cap : Nat) (xs : List Itm) (more : List Value) (w : World) (h : IRep B w lb g cap xs more) (hf : 0 < xs.length) :
    Calls Try.prog 86 #[.pointer (some ⟨lb, 0, none⟩)] w (PopPost B lb g cap xs w) := by
  obtain ⟨i0, hi0, hz0, hz1, hz2⟩ := info_parts Try.infoItem
  have c0 := h.c0
  have hll := h.hl.lt
  have hgl := h.hg.lt
  have hfl := h.hl.frozen 0
  have hcm := h.cm
  have hnc := h.nc
  have hfew := h.few
  unfold maxLen at hcm
  obtain ⟨n, hn⟩ : ∃ n, xs.length = n + 1 := ⟨xs.length - 1, by omega⟩
  obtain ⟨x, hx⟩ : ∃ x, x = xs.getD (xs.length - 1) default := ⟨_, rfl⟩
  have hxl := x.len
  have hxn : xs[n]? = some x := by rw [hx, show xs.length - 1 = n by omega]; exact getD_of_lt (by omega)
  have t1 : w.there g (n * 12) 12 := h.hg.there _ _ (by rw [List.length_append, flat_length Itm.len]; omega)
  have c1 := cut_of_range (Blk.range Itm.len h.hg n x hxn) x.len
  have H := Lib.hid h
  have HX := Lib.hid hx
  have HN := Lib.hid hn
  rw [hn] at c0 hnc
  clear h hx hxn hn hf
  go_enter Try.func86, Try.ntmps86
  go_wp2
  go_ret
  refine ⟨x.cells ++ more, by rw [← HX.out]; rfl, ?_, ((Mod.refl (one lb) w).setCell ⟨lb, 0, none⟩ (fun _ => rfl) _).alloc _⟩
  have m : Mod (one lb) w ((w.setCell ⟨lb, 0, none⟩ (.slice (some ⟨g, 0, none⟩) n cap)).alloc (.cells x.cells.toArray 94)) := ((Mod.refl (one lb) w).setCell ⟨lb, 0, none⟩ (fun _ => rfl) _).alloc _
  have e1 : xs.take (xs.length - 1) ++ [x] = xs := by
    rw [HX.out]
    have hlt : xs.length - 1 < xs.length := by have := HN.out; omega
    have := List.take_succ_eq_append_getElem hlt
    rw [show xs.length - 1 + 1 = xs.length by have := HN.out; omega, List.take_length] at this
    rw [List.getD_eq_getElem?_getD, List.getElem?_eq_getElem hlt]
    exact this.symm
  have h1 : (xs.take (xs.length - 1)).length = n := by rw [List.length_take]; have := HN.out; omega
  refine ⟨?_, ?_, H.out.ne, H.out.bl, H.out.bg, ?_, H.out.cm, ?_, ?_⟩
  · have := (H.out.hl.set 0 (.slice (some ⟨g, 0, none⟩) n cap)).mod ((Mod.refl none_ _).alloc (.cells x.cells.toArray 94)) (fun e => e)
    rw [h1]; simpa using this
  · have := H.out.hg.mod m (fun e => H.out.ne e.symm)
    have e2 : flat Itm.cells (xs.take (xs.length - 1)) ++ (x.cells ++ more) = flat Itm.cells xs ++ more := by
      rw [← List.append_assoc]; congr 1
      conv => rhs; rw [← e1]
      simp
    rw [e2]; exact this
  · rw [h1]; omega
  · rw [h1]; have := HN.out; omega
  · have := H.out.rm
    have := HN.out
    rw [h1, List.length_append, hxl]; omega

/-- What the heap's Push leaves. -/
def HPushPost (B lb : Nat) (xs : List Itm) (x : Itm) (g : Nat) (w : World) (e : Ending) (w' : World) : Prop :=
  e = .returned (.tuple #[]) ∧ ∃ g' cap' ys more', IRep B w' lb g' cap' ys more' ∧ ys.Perm (x :: xs) ∧ HeapTo kI ys.length ys ∧ Mod (fun b => b = lb ∨ b = g) w w' ∧ (g' = g ∨ w.heap.size ≤ g')

set_option maxHeartbeats 400000 in
set_option maxRecDepth 1000000 in
theorem heap_push (B lb g cap : Nat) (xs : List Itm) (more : List Value) (x : Itm) (w : World) (h : IRep B w lb g cap xs more) (hf : xs.length + 1 ≤ 100) (hh : HeapTo kI xs.length xs) :
    Calls Try.prog 39 #[.iface 85 (.pointer (some ⟨lb, 0, none⟩)), .iface 94 (.agg x.cells.toArray)] w (HPushPost B lb xs x g w) := by
  have H := Lib.hid h
  have HH := Lib.hid hh
  clear h hh
  go_enter Try.func39, Try.ntmps39
  go_wp2_with fail
  refine (items_push B lb g cap xs more x w H.out hf).mono ?_
  rintro e w1 ⟨rfl, g', cap', more', r1, m1, hg⟩
  have c1 := r1.c0
  have R1 := Lib.hid r1
  have M1 := Lib.hid m1
  have G1 := Lib.hid hg
  have hlen : (xs ++ [x]).length = xs.length + 1 := by simp
  rw [hlen] at c1
  clear r1 m1 hg hlen
  go_wp2_with fail
  refine (items_len _ _ _ _).mono ?_
  rintro e w2 ⟨rfl, rfl⟩
  go_wp2_with fail
  refine (up_any B lb g' cap' (xs ++ [x]) more' xs.length w1 R1.out (by simp)).mono ?_
  rintro e w2 ⟨rfl, ys, h1, h2, h3, h4, h5, h6⟩
  have Q := Lib.hid (And.intro h1 (And.intro h2 (And.intro h3 (And.intro h4 h6))))
  clear h1 h2 h3 h4 h5 h6
  go_wp2_with fail
  go_end0
  obtain ⟨h1, h2, h3, h4, h6⟩ := Q.out
  refine ⟨rfl, g', cap', ys, more', h3, h2.trans (List.perm_append_singleton x xs), ?_, ?_, G1.out⟩
  · have := h4 (xs.length + 1) (by omega) (by simp) (HeapTo.push HH.out x)
    rw [h1]; simpa using this
  · refine M1.out.transIn h6 (fun b hb e => ?_)
    rcases G1.out with e2 | e2
    · right; rw [← e2]; exact e
    · have : b = g' := e
      omega

end Go.Proofs.Ytpdfakfokegcnaa
