/-
  Layer 21 (hold): how a queue lies; New, Put.
-/
import Derived.Test.YtpdfakfokegcnaaHold7
namespace Go.Proofs.Ytpdfakfokegcnaa
open Go.RowKit Go.Mine
attribute [local go_sem] m_push m_pop m_has m_first m_len m_less m_swap ta_item

theorem Try.msgSize : (Try.prog.info? 51).map (·.size) = some 11 := by kernel_rfl
theorem ld_msg (ρ : Operand → Value) (dst : Option Tmp) (x : Operand) (ty : TypeId) (pos : String) (after : Array Edge) (guard : Option (Nat × Bool)) :
    execOp ρ { dst, op := .load 51 x, type := ty, pos, after, guard } = (do pure (.value (← ldRow 51 (ρ x)))) := rfl
theorem st_msg (ρ : Operand → Value) (dst : Option Tmp) (x y : Operand) (ty : TypeId) (pos : String) (after : Array Edge) (guard : Option (Nat × Bool)) :
    execOp ρ { dst, op := .store 51 x y, type := ty, pos, after, guard } = (do stRow 51 (ρ x) (ρ y); pure .skip) := rfl
theorem run_ld_msg (w : World) (g o : Nat) (h : w.there g o 11) : (ldRow 51 (.pointer (some ⟨g, o, none⟩))).run Try.prog w = .ok (.agg (cut w g o 11).toArray) w :=
  run_ldRow Try.underlying51 Try.msgSize w g o h

structure QRep (B : Nat) (w : World) (p lb g cap : Nat) (next : Int) (xs : List Itm) (more : List Value) : Prop where
  hp : Blk w p [.int .i64 next, .iface 85 (.pointer (some ⟨lb, 0, none⟩)), .pointer (some ⟨lb, 0, none⟩)] 91
  it : IRep B w lb g cap xs more
  hh : HeapTo kI xs.length xs
  nl : p ≠ lb
  ng : p ≠ g
  bp : B ≤ p
  len : xs.length ≤ 64
  nd : (xs.map Itm.num).Nodup
  ge : ∀ x ∈ xs, next ≤ x.num ∧ x.num ≤ 1099511627776
  nx : 1 ≤ next ∧ next ≤ 2199023255552

/-- A queue whose items are those of L, in whatever order. -/
def QIs (B : Nat) (w : World) (p lb g : Nat) (next : Int) (L : List Itm) : Prop := ∃ cap xs more, QRep B w p lb g cap next xs more ∧ xs.Perm L
/-- A queue's own blocks. -/
def qf (p lb g b : Nat) : Prop := b = p ∨ b = lb ∨ b = g

theorem QRep.grown {B : Nat} {w w' : World} {p lb g cap : Nat} {next : Int} {xs : List Itm} {more : List Value} (h : QRep B w p lb g cap next xs more) (m : Mod none_ w w') : QRep B w' p lb g cap next xs more :=
  { h with hp := h.hp.mod m (fun e => e), it := h.it.grown m }
theorem QIs.grown {B : Nat} {w w' : World} {p lb g : Nat} {next : Int} {L : List Itm} (h : QIs B w p lb g next L) (m : Mod none_ w w') : QIs B w' p lb g next L := by
  obtain ⟨cap, xs, more, h, hp⟩ := h; exact ⟨cap, xs, more, h.grown m, hp⟩
theorem QRep.base {B : Nat} {w : World} {p lb g cap : Nat} {next : Int} {xs : List Itm} {more : List Value} (h : QRep B w p lb g cap next xs more) : B ≤ w.heap.size := by have := h.hp.lt; have := h.bp; omega
theorem QRep.below {B : Nat} {w w' : World} {p lb g cap : Nat} {next : Int} {xs : List Itm} {more : List Value} (h : QRep B w p lb g cap next xs more) {S : Nat → Prop} (m : Mod S w w') (hs : ∀ b, S b → b = p ∨ b = lb ∨ b = g) : Below B w w' :=
  m.toBelow h.base (fun b hb e => by
    rcases hs b e with rfl | rfl | rfl
    · have := h.bp; omega
    · have := h.it.bl; omega
    · have := h.it.bg; omega)
theorem QRep.c0 {B : Nat} {w : World} {p lb g cap : Nat} {next : Int} {xs : List Itm} {more : List Value} (h : QRep B w p lb g cap next xs more) : w.cell? ⟨p, 0, none⟩ = some (.int .i64 next) := by rw [h.hp.cell]; rfl
theorem QRep.c1 {B : Nat} {w : World} {p lb g cap : Nat} {next : Int} {xs : List Itm} {more : List Value} (h : QRep B w p lb g cap next xs more) : w.cell? ⟨p, 1, none⟩ = some (.iface 85 (.pointer (some ⟨lb, 0, none⟩))) := by rw [h.hp.cell]; rfl
theorem QRep.c2 {B : Nat} {w : World} {p lb g cap : Nat} {next : Int} {xs : List Itm} {more : List Value} (h : QRep B w p lb g cap next xs more) : w.cell? ⟨p, 2, none⟩ = some (.pointer (some ⟨lb, 0, none⟩)) := by rw [h.hp.cell]; rfl

theorem idx_nonneg {xs : List Itm} {num : Int} : 0 ≤ idx xs num ↔ num ∈ xs.map Itm.num := by
  constructor
  · intro h
    apply Classical.byContradiction
    intro hn
    have := idx_none (xs := xs) (num := num) (fun k hk e => hn (by
      rw [List.mem_map]
      exact ⟨_, List.mem_of_getElem? (getD_of_lt hk), e⟩))
    omega
  · intro h
    obtain ⟨x, hx, e⟩ := List.mem_map.1 h
    unfold idx
    cases hf : xs.findIdx? (fun x => x.num == num) with
    | some i => simp
    | none =>
      rw [List.findIdx?_eq_none_iff] at hf
      have := hf x hx
      simp [e] at this

/-- The queue is as told, the call answers r, nothing but the queue's own blocks has changed. -/
def QPost (B p lb g : Nat) (next : Int) (L : List Itm) (r : Value) (w : World) (e : Ending) (w' : World) : Prop :=
  e = .returned r ∧ ∃ g', QIs B w' p lb g' next L ∧ Mod (qf p lb g) w w' ∧ (g' = g ∨ w.heap.size ≤ g')

theorem QRep.same {B : Nat} {w w' : World} {p lb g cap : Nat} {next : Int} {xs L : List Itm} {more : List Value} {r : Value} (h : QRep B w p lb g cap next xs more) (hp : xs.Perm L) (m : Mod none_ w w') : QPost B p lb g next L r w (.returned r) w' :=
  ⟨rfl, g, ⟨cap, xs, more, h.grown m, hp⟩, m.mono (fun _ _ e => e.elim), .inl rfl⟩

theorem QIs.foot {B : Nat} {w : World} {p lb g : Nat} {next : Int} {L : List Itm} (h : QIs B w p lb g next L) {b : Nat} (hb : qf p lb g b) : B ≤ b ∧ b < w.heap.size := by
  obtain ⟨cap, xs, more, h, hp⟩ := h
  rcases hb with rfl | rfl | rfl
  · exact ⟨h.bp, h.hp.lt⟩
  · exact ⟨h.it.bl, h.it.hl.lt⟩
  · exact ⟨h.it.bg, h.it.hg.lt⟩
theorem QIs.below {B : Nat} {w w' : World} {p lb g : Nat} {next : Int} {L : List Itm} (h : QIs B w p lb g next L) (m : Mod (qf p lb g) w w') : Below B w w' :=
  m.toBelow (by have := h.foot (b := p) (.inl rfl); omega) (fun b hb e => by have := (h.foot e).1; omega)

set_option maxHeartbeats 400000 in
theorem qput_nil (num : Int) (mc : List Value) (w : World) :
    Calls Try.prog 21 #[.pointer none, .int .i64 num, .agg mc.toArray] w fun e w' => e = .returned (.int .i64 1) ∧ Below w.heap.size w w' := by
  go_enter Try.func21, Try.ntmps21
  go_wp2
  go_ret
  exact ⟨rfl, (Below.refl _ w).alloc (Nat.le_refl _) _⟩

set_option maxHeartbeats 400000 in
theorem qput_order (B p lb g : Nat) (next num : Int) (mc : List Value) (L : List Itm) (w : World) (h : QIs B w p lb g next L) (hb : num < next ∨ 1099511627776 < num) :
    Calls Try.prog 21 #[.pointer (some ⟨p, 0, none⟩), .int .i64 num, .agg mc.toArray] w (QPost B p lb g next L (.int .i64 17) w) := by
  obtain ⟨cap, xs, more, h, hperm⟩ := h
  have c0 := h.c0
  have hpl := h.hp.lt
  have H := Lib.hid h
  clear h
  by_cases h1 : num < next
  · clear hb
    go_enter Try.func21, Try.ntmps21
    go_wp2
    go_ret
    exact H.out.same hperm ((Mod.refl none_ w).alloc _)
  · have hd : decide (num < next) = false := decide_eq_false h1
    have h2 : 1099511627776 < num := by omega
    clear hb h1
    go_enter Try.func21, Try.ntmps21
    go_wp2
    go_ret
    exact H.out.same hperm ((Mod.refl none_ w).alloc _)

set_option maxHeartbeats 400000 in
set_option maxRecDepth 1000000 in
theorem qput_twice (B p lb g : Nat) (next num : Int) (mc : List Value) (L : List Itm) (w : World) (h : QIs B w p lb g next L) (h1 : next ≤ num) (h2 : num ≤ 1099511627776) (hin : num ∈ L.map Itm.num) :
    Calls Try.prog 21 #[.pointer (some ⟨p, 0, none⟩), .int .i64 num, .agg mc.toArray] w (QPost B p lb g next L (.int .i64 15) w) := by
  obtain ⟨cap, xs, more, h, hperm⟩ := h
  have c0 := h.c0
  have c1 := h.c1
  have hpl := h.hp.lt
  have H := Lib.hid h
  have hin' : 0 ≤ idx xs num := idx_nonneg.2 ((hperm.map Itm.num).mem_iff.2 hin)
  have hd : decide (0 ≤ idx xs num) = true := decide_eq_true hin'
  have P := Lib.hid hperm
  clear h hin hin' hperm
  go_enter Try.func21, Try.ntmps21
  go_wp2_with (go_at_call 90; refine (items_has B lb g cap xs more num _ (by exact (H.out.grown ((Mod.refl none_ w).alloc _)).it)).mono ?_; rw [hd]; rintro e w1 ⟨rfl, m1⟩; have M1 := Lib.hid m1; clear m1)
  go_ret
  exact H.out.same P.out (((Mod.refl none_ w).alloc _).trans M1.out)

set_option maxHeartbeats 400000 in
set_option maxRecDepth 1000000 in
theorem qput_busy (B p lb g : Nat) (next num : Int) (mc : List Value) (L : List Itm) (w : World) (h : QIs B w p lb g next L) (h1 : next ≤ num) (h2 : num ≤ 1099511627776) (hin : num ∉ L.map Itm.num) (hl : L.length = 64) :
    Calls Try.prog 21 #[.pointer (some ⟨p, 0, none⟩), .int .i64 num, .agg mc.toArray] w (QPost B p lb g next L (.int .i64 6) w) := by
  obtain ⟨cap, xs, more, h, hperm⟩ := h
  have c0 := h.c0
  have c1 := h.c1
  have hpl := h.hp.lt
  have hll := h.it.hl.lt
  have H := Lib.hid h
  have hin' : ¬ 0 ≤ idx xs num := fun e => hin ((hperm.map Itm.num).mem_iff.1 (idx_nonneg.1 e))
  have hd : decide (0 ≤ idx xs num) = false := decide_eq_false hin'
  have P := Lib.hid hperm
  have hx : xs.length = 64 := hperm.length_eq.trans hl
  have c3 := h.it.c0
  have HX := Lib.hid hx
  rw [hx] at c3
  clear h hin hin' hperm hl hx
  go_enter Try.func21, Try.ntmps21
  go_wp2_with (first
    | (go_at_call 90; refine (items_has B lb g cap xs more num _ (by exact (H.out.grown ((Mod.refl none_ w).alloc _)).it)).mono ?_; rw [hd]; rintro e w1 ⟨rfl, m1⟩; have d1 := (((Mod.refl none_ w).alloc _).trans m1).cell (p := ⟨p, 1, none⟩) (fun e => e) c1; have d3 := (((Mod.refl none_ w).alloc _).trans m1).cell (p := ⟨lb, 0, none⟩) (fun e => e) c3; have M1 := Lib.hid m1; clear m1)
    | (go_at_call 84; refine (items_len _ _ _ _).mono ?_; rintro e w2 ⟨rfl, rfl⟩))
  go_ret
  exact H.out.same P.out (((Mod.refl none_ w).alloc _).trans M1.out)

end Go.Proofs.Ytpdfakfokegcnaa
