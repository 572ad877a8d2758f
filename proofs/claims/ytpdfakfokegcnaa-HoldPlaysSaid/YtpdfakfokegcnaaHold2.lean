/-
  Layer 21 (hold): the items through the interface; up.
-/
import Derived.Test.YtpdfakfokegcnaaHold1
import Derived.Test.YtpdfakfokegcnaaHeap
namespace Go.Proofs.Ytpdfakfokegcnaa
open Go.RowKit Go.Mine

instance : Inhabited Itm := ⟨⟨0, List.replicate 11 (.int .i64 0), rfl, by intro v hv; rw [List.eq_of_mem_replicate hv]; rfl⟩⟩
abbrev kI : Itm → Int := Itm.num

theorem m_push (a : Addr) (w : World) : (method 249 85 (.pointer (some a)) "Push").run Try.prog w = .ok (87, .pointer (some a)) w := by kernel_rfl
theorem m_pop (a : Addr) (w : World) : (method 249 85 (.pointer (some a)) "Pop").run Try.prog w = .ok (86, .pointer (some a)) w := by kernel_rfl
theorem m_has (a : Addr) (w : World) : (method 249 85 (.pointer (some a)) "foolscap/hold.has").run Try.prog w = .ok (90, .pointer (some a)) w := by kernel_rfl
theorem m_first (a : Addr) (w : World) : (method 249 85 (.pointer (some a)) "foolscap/hold.first").run Try.prog w = .ok (89, .pointer (some a)) w := by kernel_rfl
theorem m_len0 (a : Addr) (w : World) : (method 249 85 (.pointer (some a)) "Len").run Try.prog w = (Sem.load .plain a (fun v => .pure (84, v))).run Try.prog w := by kernel_rfl
theorem m_less0 (a : Addr) (w : World) : (method 249 85 (.pointer (some a)) "Less").run Try.prog w = (Sem.load .plain a (fun v => .pure (85, v))).run Try.prog w := by kernel_rfl
theorem m_swap0 (a : Addr) (w : World) : (method 249 85 (.pointer (some a)) "Swap").run Try.prog w = (Sem.load .plain a (fun v => .pure (88, v))).run Try.prog w := by kernel_rfl
theorem m_load {f : Nat} {a : Addr} {w : World} (h : (w.cell? a).isSome = true) : (Sem.load .plain a (fun v => .pure (f, v)) : Sem (FuncId × Value)).run Try.prog w = .ok (f, (w.cell? a).getD undef) w := by
  obtain ⟨v, hv⟩ := Option.isSome_iff_exists.1 h
  simp [Sem.run, hv]
theorem m_len (a : Addr) (w : World) (h : (w.cell? a).isSome = true) : (method 249 85 (.pointer (some a)) "Len").run Try.prog w = .ok (84, (w.cell? a).getD undef) w := by rw [m_len0, m_load h]
theorem m_less (a : Addr) (w : World) (h : (w.cell? a).isSome = true) : (method 249 85 (.pointer (some a)) "Less").run Try.prog w = .ok (85, (w.cell? a).getD undef) w := by rw [m_less0, m_load h]
theorem m_swap (a : Addr) (w : World) (h : (w.cell? a).isSome = true) : (method 249 85 (.pointer (some a)) "Swap").run Try.prog w = .ok (88, (w.cell? a).getD undef) w := by rw [m_swap0, m_load h]
attribute [local go_sem] m_push m_pop m_has m_first m_len m_less m_swap

structure IRep (B : Nat) (w : World) (lb g cap : Nat) (xs : List Itm) (more : List Value) : Prop where
  hl : Blk w lb [.slice (some ⟨g, 0, none⟩) xs.length cap] 87
  hg : Blk w g (flat Itm.cells xs ++ more) 94
  ne : lb ≠ g
  bl : B ≤ lb
  bg : B ≤ g
  nc : xs.length ≤ cap
  cm : cap ≤ maxLen
  few : xs.length ≤ 100
  rm : xs.length * 12 + more.length = cap * 12

theorem IRep.c0 {B : Nat} {w : World} {lb g cap : Nat} {xs : List Itm} {more : List Value} (h : IRep B w lb g cap xs more) : w.cell? ⟨lb, 0, none⟩ = some (.slice (some ⟨g, 0, none⟩) xs.length cap) := by rw [h.hl.cell]; rfl
theorem IRep.grown {B : Nat} {w w' : World} {lb g cap : Nat} {xs : List Itm} {more : List Value} (h : IRep B w lb g cap xs more) (m : Mod none_ w w') : IRep B w' lb g cap xs more :=
  ⟨h.hl.mod m (fun e => e), h.hg.mod m (fun e => e), h.ne, h.bl, h.bg, h.nc, h.cm, h.few, h.rm⟩
/-- The items are others, as many. -/
theorem IRep.turn {B : Nat} {w w' : World} {lb g cap : Nat} {xs ys : List Itm} {more : List Value} (h : IRep B w lb g cap xs more) (hy : ys.length = xs.length) (hb : Blk w' g (flat Itm.cells ys ++ more) 94) (m : Mod (one g) w w') : IRep B w' lb g cap ys more :=
  ⟨by rw [hy]; exact h.hl.mod m (fun e => h.ne e), hb, h.ne, h.bl, h.bg, by rw [hy]; exact h.nc, h.cm, by rw [hy]; exact h.few, by rw [hy]; exact h.rm⟩

theorem less_at (B lb g cap : Nat) (xs : List Itm) (more : List Value) (w : World) (h : IRep B w lb g cap xs more) (ii jj : Int) (i j : Nat) (hi : i < xs.length) (hj : j < xs.length) (e1 : ii = i) (e2 : jj = j) :
    Calls Try.prog 85 #[.slice (some ⟨g, 0, none⟩) xs.length cap, .int .i64 ii, .int .i64 jj] w fun e w' => e = .returned (.bool (decide (key kI xs i < key kI xs j))) ∧ Mod none_ w w' := by
  subst e1 e2
  have := h.cm
  exact items_less g xs.length cap i j xs more _ _ w h.hg rfl h.nc (by unfold maxLen at this; omega) (getD_of_lt hi) (getD_of_lt hj)
theorem swap_at (B lb g cap : Nat) (xs : List Itm) (more : List Value) (w : World) (h : IRep B w lb g cap xs more) (ii jj : Int) (i j : Nat) (hi : i < xs.length) (hj : j < xs.length) (e1 : ii = i) (e2 : jj = j) :
    Calls Try.prog 88 #[.slice (some ⟨g, 0, none⟩) xs.length cap, .int .i64 ii, .int .i64 jj] w fun e w' => e = .returned (.tuple #[]) ∧ IRep B w' lb g cap (sw xs i j) more ∧ Mod (one g) w w' := by
  subst e1 e2
  have := h.cm
  refine (items_swap g xs.length cap i j xs more _ _ w h.hg rfl h.nc (by unfold maxLen at this; omega) (getD_of_lt hi) (getD_of_lt hj)).mono ?_
  rintro e w' ⟨rfl, hb, m⟩
  rw [sw_eq xs i j _ _ (getD_of_lt hi) (getD_of_lt hj)] at hb
  exact ⟨rfl, h.turn (by simp) hb m, m⟩

def UpPost (B lb g cap : Nat) (xs : List Itm) (more : List Value) (j : Nat) (w : World) (e : Ending) (w' : World) : Prop :=
  e = .returned (.tuple #[]) ∧ ∃ ys, ys.length = xs.length ∧ ys.Perm xs ∧ IRep B w' lb g cap ys more ∧ (∀ n, j < n → n ≤ xs.length → Up kI n xs j → HeapTo kI n ys) ∧ (∀ n, j < n → n ≤ xs.length → ∀ k, n ≤ k → ys.getD k default = xs.getD k default) ∧ Mod (one g) w w'

def UpInv (B lb g cap : Nat) (xs : List Itm) (more : List Value) (j : Nat) (w : World) (jj : Nat) (ys : List Itm) (wr : World) : Prop :=
  jj ≤ j ∧ ys.length = xs.length ∧ ys.Perm xs ∧ IRep B wr lb g cap ys more ∧ (∀ n, j < n → n ≤ xs.length → Up kI n xs j → Up kI n ys jj) ∧ (∀ n, j < n → n ≤ xs.length → ∀ k, n ≤ k → ys.getD k default = xs.getD k default) ∧ Mod (one g) w wr

theorem up_end {B lb g cap jj j : Nat} {xs ys : List Itm} {more : List Value} {w wr : World} (_h : IRep B w lb g cap xs more) (hle : jj ≤ j) (hlen : ys.length = xs.length) (hperm : ys.Perm xs) (hr : IRep B wr lb g cap ys more)
    (hup : ∀ n, j < n → n ≤ xs.length → Up kI n xs j → Up kI n ys jj) (ht : ∀ n, j < n → n ≤ xs.length → ∀ k, n ≤ k → ys.getD k default = xs.getD k default) (hm : Mod (one g) w wr) (hs : jj = 0 ∨ ¬ key kI ys jj < key kI ys (par jj)) :
    UpPost B lb g cap xs more j w (.returned (.tuple #[])) wr :=
  ⟨rfl, ys, hlen, hperm, hr, fun n h1 h2 hu => (hup n h1 h2 hu).stop hs, ht, hm⟩

set_option maxHeartbeats 400000 in
set_option maxRecDepth 1000000 in
theorem up_any (B lb g cap : Nat) (xs : List Itm) (more : List Value) (j : Nat) (w : World) (h : IRep B w lb g cap xs more) (hj : j < xs.length) :
    Calls Try.prog 46 #[.iface 85 (.pointer (some ⟨lb, 0, none⟩)), .int .i64 j] w (UpPost B lb g cap xs more j w) := by
  have H := Lib.hid h
  have hfew := h.few
  clear h
  go_enter Try.func46, Try.ntmps46
  go_wp2_with fail
  go_loopw [1] (fun v wr => ∃ (jj : Nat) (ys : List Itm), v = .int .i64 jj ∧ UpInv B lb g cap xs more j w jj ys wr) (fun v _ => (intOf v).toNat)
  case atStart => exact ⟨j, xs, rfl, Nat.le_refl _, rfl, List.Perm.refl _, H.out, fun _ _ _ h => h, fun _ _ _ _ _ => rfl, Mod.refl _ _⟩
  case round =>
    obtain ⟨jj, ys, rfl, hle, hlen, hperm, hr, hup, htail, hmod⟩ := hrel
    have c0 := hr.c0
    have R := Lib.hid hr
    have Q := Lib.hid (And.intro hperm (And.intro hup (And.intro htail hmod)))
    have hlen' := Lib.hid hlen
    clear hr hperm hup htail hmod hlen
    by_cases h0 : jj = 0
    · subst h0
      go_wp2_with fail
      go_end0
      exact up_end H.out (by omega) hlen'.out Q.out.1 R.out Q.out.2.1 Q.out.2.2.1 Q.out.2.2.2 (.inl rfl)
    · obtain ⟨m, rfl⟩ : ∃ m, jj = m + 1 := ⟨jj - 1, by omega⟩
      have hm1 : m + 1 < ys.length := by rw [hlen'.out]; omega
      have hm2 : m / 2 < ys.length := by omega
      have hne : ((m : Int) / 2 == (m : Int) + 1) = false := by rw [beq_eq_false_iff_ne]; omega
      by_cases hlt : key kI ys (m + 1) < key kI ys (m / 2)
      · have hd : decide (key kI ys (m + 1) < key kI ys (m / 2)) = true := decide_eq_true hlt
        have HL := Lib.hid hlt
        clear hlt
        go_wp2_with fail
        refine (less_at B lb g cap ys more wr R.out _ _ (m + 1) (m / 2) hm1 hm2 (by omega) (by omega)).mono ?_
        rintro e w1 ⟨rfl, m1⟩
        rw [hd]
        have R1 := Lib.hid (R.out.grown m1)
        have c1 := R1.out.c0
        have M1 := Lib.hid m1
        clear m1
        go_wp2_with fail
        refine (swap_at B lb g cap ys more w1 R1.out _ _ (m / 2) (m + 1) hm2 hm1 (by omega) (by omega)).mono ?_
        rintro e w2 ⟨rfl, r2, m2⟩
        have R2 := Lib.hid r2
        have M2 := Lib.hid m2
        clear r2 m2
        go_wp2_with fail
        refine ⟨⟨m / 2, sw ys (m / 2) (m + 1), by go_num, ?_⟩, by simp [intOf]; omega⟩
        refine ⟨by omega, by rw [sw_length, hlen'.out], (sw_perm ys _ _ hm2 hm1).trans Q.out.1, R2.out, fun n h1 h2 hu => ?_, fun n h1 h2 k hk => ?_, Q.out.2.2.2.trans ((M1.out.mono (fun _ _ e => e.elim)).trans M2.out)⟩
        · exact (Q.out.2.1 n h1 h2 hu).step (by omega) (by omega) (by rw [hlen'.out]; exact h2) HL.out
        · rw [sw_getD ys _ _ k hm2 hm1, if_neg (by omega), if_neg (by omega)]
          exact Q.out.2.2.1 n h1 h2 k hk
      · have hd : decide (key kI ys (m + 1) < key kI ys (m / 2)) = false := decide_eq_false hlt
        have HL := Lib.hid hlt
        clear hlt
        go_wp2_with fail
        refine (less_at B lb g cap ys more wr R.out _ _ (m + 1) (m / 2) hm1 hm2 (by omega) (by omega)).mono ?_
        rintro e w1 ⟨rfl, m1⟩
        rw [hd]
        have M1 := Lib.hid m1
        clear m1
        go_wp2_with fail
        go_end0
        exact up_end H.out (by omega) hlen'.out Q.out.1 (R.out.grown M1.out) Q.out.2.1 Q.out.2.2.1 (Q.out.2.2.2.trans (M1.out.mono (fun _ _ e => e.elim))) (.inr (by have := HL.out; show ¬ key kI ys (m + 1) < key kI ys ((m + 1 - 1) / 2); rw [Nat.add_sub_cancel]; omega))

end Go.Proofs.Ytpdfakfokegcnaa
