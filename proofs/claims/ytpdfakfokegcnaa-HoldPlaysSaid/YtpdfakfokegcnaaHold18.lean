/-
  Layer 21 (hold): Drop and Pass, by their contracts.
-/
import Derived.Test.YtpdfakfokegcnaaHold17
namespace Go.Proofs.Ytpdfakfokegcnaa
open Go.RowKit Go.Mine

theorem drop_not {L : List Itm} {num : Int} (h : num ∉ L.map Itm.num) : dropL L num = L := by
  unfold dropL
  rw [List.filter_eq_self]
  intro x hx
  rw [bne_iff_ne]
  exact fun e => h (List.mem_map.2 ⟨x, hx, e⟩)
theorem drop_perm {x : Itm} {zs L : List Itm} (h : (x :: zs).Perm L) (hn : (L.map Itm.num).Nodup) : zs.Perm (dropL L x.num) := by
  have h1 : ((x :: zs).map Itm.num).Nodup := ((h.map Itm.num).nodup_iff).2 hn
  rw [List.map_cons, List.nodup_cons] at h1
  have h2 := h.filter (fun y => y.num != x.num)
  rw [List.filter_cons_of_neg (by simp)] at h2
  have h3 : zs.filter (fun y => y.num != x.num) = zs := drop_not h1.1
  rw [h3] at h2
  exact h2
theorem drop_less {x : Itm} {zs L : List Itm} (h : (x :: zs).Perm L) (hn : (L.map Itm.num).Nodup) : (dropL L x.num).length < L.length := by
  have h1 := (drop_perm h hn).length_eq
  have h2 := h.length_eq
  simp at h2; omega

theorem idx_at {xs : List Itm} {num : Int} (h : num ∈ xs.map Itm.num) : ∃ i : Nat, idx xs num = (i : Int) ∧ i < xs.length ∧ (xs.getD i default).num = num := by
  unfold idx
  cases hf : xs.findIdx? (fun x => x.num == num) with
  | some i =>
    obtain ⟨h1, h2, _⟩ := List.findIdx?_eq_some_iff_getElem.1 hf
    refine ⟨i, rfl, h1, ?_⟩
    rw [List.getD_eq_getElem?_getD, List.getElem?_eq_getElem h1]
    simpa using h2
  | none =>
    exfalso
    obtain ⟨x, hx, e⟩ := List.mem_map.1 h
    rw [List.findIdx?_eq_none_iff] at hf
    have := hf x hx
    simp [e] at this

set_option maxHeartbeats 400000 in
set_option maxRecDepth 1000000 in
theorem qdrop_no (B p lb g : Nat) (next num : Int) (L : List Itm) (w : World) (h : QIs B w p lb g next L) (hin : num ∉ L.map Itm.num) :
    Calls Try.prog 29 #[.pointer (some ⟨p, 0, none⟩), .int .i64 num] w (QPost B p lb g next (dropL L num) (.bool false) w) := by
  obtain ⟨cap, xs, more, h, hperm⟩ := h
  rw [drop_not hin]
  have c2 := h.c2
  have c3 := h.it.c0
  have hpl := h.hp.lt
  have hll := h.it.hl.lt
  have H := Lib.hid h
  have hin' : ¬ 0 ≤ idx xs num := fun e => hin ((hperm.map Itm.num).mem_iff.1 (idx_nonneg.1 e))
  obtain ⟨i, hi⟩ : ∃ i, i = idx xs num := ⟨_, rfl⟩
  have hd : decide (i < 0) = true := by rw [hi]; simp; omega
  have HI := Lib.hid hi
  have P := Lib.hid hperm
  clear h hin hin' hperm hi
  go_enter Try.func29, Try.ntmps29
  go_wp2_with fail
  refine (index_drop B lb g cap xs more w.heap.size num _ (by exact (H.out.grown ((Mod.refl none_ w).alloc _)).it) (by exact (Blk.new (w := w) (cs := [.int .i64 num]) (t := 3)).cell 0)).mono ?_
  rw [← HI.out]
  rintro e w1 ⟨rfl, m1⟩
  have M1 := Lib.hid m1; clear m1
  go_wp2_with fail
  go_ret
  exact H.out.same P.out (((Mod.refl none_ w).alloc _).trans M1.out)

set_option maxHeartbeats 400000 in
set_option maxRecDepth 1000000 in
theorem qdrop_yes (B p lb g : Nat) (next num : Int) (L : List Itm) (w : World) (h : QIs B w p lb g next L) (hin : num ∈ L.map Itm.num) :
    Calls Try.prog 29 #[.pointer (some ⟨p, 0, none⟩), .int .i64 num] w (QPost B p lb g next (dropL L num) (.bool true) w) := by
  obtain ⟨cap, xs, more, h, hperm⟩ := h
  have c1 := h.c1
  have c2 := h.c2
  have c3 := h.it.c0
  have hpl := h.hp.lt
  have hll := h.it.hl.lt
  have H := Lib.hid h
  have hin' : num ∈ xs.map Itm.num := (hperm.map Itm.num).mem_iff.2 hin
  obtain ⟨i, hi, hlt, hx⟩ : ∃ i : Nat, idx xs num = (i : Int) ∧ i < xs.length ∧ (xs.getD i default).num = num := idx_at hin'
  have hd : decide ((i : Int) < 0) = false := by simp
  have HI := Lib.hid hi
  have HX := Lib.hid hx
  have P := Lib.hid hperm
  have hfew := h.it.few
  clear h hin hin' hperm hi hx
  go_enter Try.func29, Try.ntmps29
  go_wp2_with fail
  refine (index_drop B lb g cap xs more w.heap.size num _ (by exact (H.out.grown ((Mod.refl none_ w).alloc _)).it) (by exact (Blk.new (w := w) (cs := [.int .i64 num]) (t := 3)).cell 0)).mono ?_
  rw [HI.out]
  rintro e w1 ⟨rfl, m1⟩
  have d1 := (((Mod.refl none_ w).alloc (.cells #[.int .i64 num] 3)).trans m1).cell (p := ⟨p, 1, none⟩) (fun e => e) c1
  have M1 := Lib.hid m1; clear m1
  go_wp2_with fail
  refine (heap_remove B lb g cap xs more i (xs.getD i default) _ (by exact H.out.it.grown (((Mod.refl none_ w).alloc _).trans M1.out)) hlt H.out.hh rfl).mono ?_
  rintro e w2 ⟨rfl, zs, more', hr, hpm, hh, m2⟩
  have mm := (((Mod.refl none_ w).alloc (.cells #[.int .i64 num] 3)).trans M1.out)
  have Q := Lib.hid (And.intro hr (And.intro hpm (And.intro hh (And.intro m2 mm))))
  clear hr hpm hh m2 mm
  go_wp2_with fail
  go_ret
  obtain ⟨hr, hpm, hh, m2, mm⟩ := Q.out
  have hpL := hpm.trans P.out
  have hnL : (L.map Itm.num).Nodup := ((P.out.map Itm.num).nodup_iff).1 H.out.nd
  have hpd := drop_perm hpL hnL
  rw [HX.out] at hpd
  have hnd : (zs.map Itm.num).Nodup := by
    have := ((hpm.map Itm.num).nodup_iff).2 H.out.nd
    rw [List.map_cons, List.nodup_cons] at this
    exact this.2
  have hp2 := (H.out.hp.mod mm (fun e => e)).mod m2 (fun e => by rcases e with e | e; exact H.out.nl e; exact H.out.ng e)
  have hle := hpm.length_eq
  refine ⟨rfl, g, ⟨cap, zs, more', ⟨hp2, hr, hh, H.out.nl, H.out.ng, H.out.bp, by simp at hle; have := H.out.len; omega, hnd, fun y hy => H.out.ge y (hpm.mem_iff.1 (List.mem_cons_of_mem _ hy)), H.out.nx⟩, hpd⟩, (mm.mono (fun _ _ e => e.elim)).trans (m2.mono (fun _ _ e => .inr e)), .inl rfl⟩

theorem qdrop_any (B p lb g : Nat) (next num : Int) (L : List Itm) (w : World) (h : QIs B w p lb g next L) :
    Calls Try.prog 29 #[.pointer (some ⟨p, 0, none⟩), .int .i64 num] w (QPost B p lb g next (dropL L num) (.bool (decide ((dropL L num).length < L.length))) w) := by
  by_cases hin : num ∈ L.map Itm.num
  · have hd : decide ((dropL L num).length < L.length) = true := by
      obtain ⟨x, hx, e⟩ := List.mem_map.1 hin
      obtain ⟨s, t, hst⟩ := List.mem_iff_append.1 hx
      have hp : (x :: (s ++ t)).Perm L := by rw [hst]; exact List.perm_middle.symm
      obtain ⟨cap, xs, more, hq, hperm⟩ := h
      have := drop_less hp (((hperm.map Itm.num).nodup_iff).1 hq.nd)
      rw [e] at this
      simpa using this
    rw [hd]; exact qdrop_yes B p lb g next num L w h hin
  · have hd : decide ((dropL L num).length < L.length) = false := by rw [drop_not hin]; simp
    rw [hd]; exact qdrop_no B p lb g next num L w h hin

theorem QIs.passed {B : Nat} {w w' : World} {p lb g : Nat} {next : Int} {L : List Itm} (h : QIs B w p lb g next (dropL L next)) (hb : next < 2199023255552) : QIs B (w.setCell ⟨p, 0, none⟩ (.int .i64 (next + 1))) p lb g (next + 1) (dropL L next) := by
  obtain ⟨cap, xs, more, h, hp⟩ := h
  have m : Mod (one p) w (w.setCell ⟨p, 0, none⟩ (.int .i64 (next + 1))) := (Mod.refl (one p) w).setCell ⟨p, 0, none⟩ (fun _ => rfl) _
  have i := h.it
  refine ⟨cap, xs, more, ⟨h.hp.set 0 _, ⟨i.hl.mod m (fun e => h.nl e.symm), i.hg.mod m (fun e => h.ng e.symm), i.ne, i.bl, i.bg, i.nc, i.cm, i.few, i.rm⟩, h.hh, h.nl, h.ng, h.bp, h.len, h.nd, fun x hx => ?_, by have := h.nx; omega⟩, hp⟩
  have h1 := h.ge x hx
  have h2 := hp.mem_iff.1 hx
  unfold dropL at h2
  have h3 := (List.mem_filter.1 h2).2
  simp at h3
  omega

set_option maxHeartbeats 400000 in
set_option maxRecDepth 1000000 in
theorem qpass_any (B p lb g : Nat) (next : Int) (L : List Itm) (w : World) (h : QIs B w p lb g next L) (hb : next < 2199023255552) :
    Calls Try.prog 27 #[.pointer (some ⟨p, 0, none⟩)] w (QPost B p lb g (next + 1) (dropL L next) (.bool true) w) := by
  have HD := Lib.hid (qdrop_any B p lb g next next L w h)
  have H := Lib.hid h
  have c0 : w.cell? ⟨p, 0, none⟩ = some (.int .i64 next) := by obtain ⟨cap, xs, more, h, hperm⟩ := h; exact h.c0
  have h1 : 1 ≤ next := by obtain ⟨cap, xs, more, h, hperm⟩ := h; exact h.nx.1
  clear h
  go_enter Try.func27, Try.ntmps27
  go_wp2_with fail
  refine HD.out.mono ?_
  rintro e w1 ⟨rfl, g2, q2, m2, e2⟩
  have d0 : w1.cell? ⟨p, 0, none⟩ = some (.int .i64 next) := by obtain ⟨cap, xs, more, h, hperm⟩ := q2; exact h.c0
  have f0 : w1.frozen? ⟨p, 0, none⟩ = false := by obtain ⟨cap, xs, more, h, hperm⟩ := q2; exact h.hp.frozen 0
  have l0 : p < w1.heap.size := block_lt_of_cell d0
  have Q := Lib.hid (And.intro q2 (And.intro m2 e2))
  clear q2 m2 e2
  go_wp2_with fail
  go_ret
  obtain ⟨q2, m2, e2⟩ := Q.out
  exact ⟨rfl, g2, q2.passed (w' := w) hb, m2.setCell ⟨p, 0, none⟩ (fun _ => .inl rfl) _, e2⟩

end Go.Proofs.Ytpdfakfokegcnaa
