/-
  Layer 21 (hold): each act done by the queue and by the document's, side by side.
-/
import Derived.Test.YtpdfakfokegcnaaHold19
namespace Go.Proofs.Ytpdfakfokegcnaa
open Go.RowKit Go.Mine

theorem InsOf.perm {L M : List Itm} {x : Itm} (h : InsOf L x M) : M.Perm (x :: L) := by
  obtain ⟨s, r, rfl, rfl, _⟩ := h; exact List.perm_middle
theorem InsOf.rising {L M : List Itm} {x : Itm} (h : InsOf L x M) (hr : Rising L) (hin : x.num ∉ L.map Itm.num) : Rising M := by
  obtain ⟨s, r, rfl, rfl, hs, hh⟩ := h
  unfold Rising at hr ⊢
  rw [List.pairwise_append] at hr ⊢
  obtain ⟨h1, h2, h3⟩ := hr
  have hx : ∀ y ∈ r, x.num < y.num := by
    cases r with
    | nil => simp
    | cons z t =>
      have hz := hh z rfl
      intro y hy
      rcases List.mem_cons.1 hy with e | e
      · rw [e]; exact hz
      · have := (List.pairwise_cons.1 h2).1 y e; omega
  refine ⟨h1, List.pairwise_cons.2 ⟨hx, h2⟩, fun a ha b hb => ?_⟩
  rcases List.mem_cons.1 hb with e | e
  · rw [e]
    have q1 := hs a ha
    have q2 : a.num ≠ x.num := fun e => hin (List.mem_map.2 ⟨a, List.mem_append_left _ ha, e⟩)
    omega
  · exact h3 a ha b e
theorem Rising.drop {L : List Itm} (h : Rising L) (num : Int) : Rising (dropL L num) := List.Pairwise.filter _ h

abbrev mcell (d k : Int) : Value := .agg #[.int .i64 d, .int .i64 k, .int .i64 0, .int .i64 0, .int .i64 0, .int .i64 0, .int .i64 0, .int .i64 0, .int .i64 0, .string ⟨#[]⟩, .string ⟨#[]⟩]

/-- Behind one of the document's acts: a list that is M0 in another order, by rising numbers. -/
def RAct (next : Int) (n : Nat) (a : Option Addr) (M0 : List Itm) (r : Value → Value) (w : World) (e : Ending) (w' : World) : Prop :=
  ∃ M a' cap', e = .returned (r (.agg #[.int .i64 next, .slice a' M.length cap'])) ∧ M.Perm M0 ∧ Rising M ∧ RRow w' a' M.length cap' M ∧ (∀ A, a' = some A → (M.length ≤ n ∧ ∃ A0, a = some A0 ∧ A0.block = A.block) ∨ w.heap.size ≤ A.block) ∧ Mod none_ w w'

theorem put_both (next num k : Int) (L : List Itm) (hr : Rising L) (hlen : L.length ≤ 64) : ∃ (c : Int) (M0 : List Itm), 0 ≤ c ∧ c ≤ 100 ∧ M0.length ≤ 64 ∧ (∀ y ∈ M0, y = itmOf num 2 k ∨ y ∈ L) ∧
    (∀ w a len cap, RRow w a len cap L → Calls Try.prog 30 #[.agg #[.int .i64 next, .slice a len cap], .int .i64 num, mcell 2 k] w (RAct next L.length a M0 (fun v => .tuple #[v, .int .i64 c]) w)) ∧
    (∀ B w p lb g, QIs B w p lb g next L → Calls Try.prog 21 #[.pointer (some ⟨p, 0, none⟩), .int .i64 num, mcell 2 k] w (QPost B p lb g next M0 (.int .i64 c) w)) := by
  have hno : ∀ (c : Int) (w : World) (a : Option Addr) (len cap : Nat), RRow w a len cap L → ∀ e w', RPutNo next a len cap c w e w' → RAct next L.length a L (fun v => .tuple #[v, .int .i64 c]) w e w' := by
    rintro c w a len cap h e w' ⟨rfl, m⟩
    have hn := h.n
    subst hn
    exact ⟨L, a, cap, rfl, .refl _, hr, h.grown m, fun A e => .inl ⟨Nat.le_refl _, A, e, rfl⟩, m⟩
  by_cases h1 : num < next ∨ 1099511627776 < num
  · exact ⟨17, L, by decide, by decide, hlen, fun y hy => .inr hy, fun w a len cap h => (rput_order next num a len cap (itmOf num 2 k).m w (itmOf num 2 k).hm h1).mono (hno 17 w a len cap h), fun B w p lb g h => qput_order B p lb g next num (itmOf num 2 k).m L w h h1⟩
  · have h2 : next ≤ num := by omega
    have h3 : num ≤ 1099511627776 := by omega
    by_cases hin : num ∈ L.map Itm.num
    · exact ⟨15, L, by decide, by decide, hlen, fun y hy => .inr hy, fun w a len cap h => (rput_twice next num a len cap L (itmOf num 2 k).m w h (itmOf num 2 k).hm h2 h3 hin).mono (hno 15 w a len cap h), fun B w p lb g h => put_twice_itm B p lb g next num 2 k L w h h2 h3 hin⟩
    · by_cases h64 : L.length = 64
      · refine ⟨6, L, by decide, by decide, hlen, fun y hy => .inr hy, fun w a len cap h => ?_, fun B w p lb g h => put_busy_itm B p lb g next num 2 k L w h h2 h3 hin h64⟩
        have hn := h.n
        obtain rfl : len = 64 := by omega
        exact (rput_busy next num a cap L (itmOf num 2 k).m w h (itmOf num 2 k).hm h2 h3 hin).mono (hno 6 w a 64 cap h)
      · refine ⟨0, itmOf num 2 k :: L, by decide, by decide, by rw [List.length_cons]; omega, fun y hy => List.mem_cons.1 hy, fun w a len cap h => ?_, fun B w p lb g h => put_itm B p lb g next num 2 k L w h h2 h3 hin (by omega)⟩
        have hn := h.n
        refine (rput_ok next a len cap L (itmOf num 2 k) w h h2 h3 hin (by omega)).mono ?_
        rintro e w' ⟨M, a', cap', rfl, hi, hrr, hA, m⟩
        exact ⟨M, a', cap', rfl, hi.perm, hi.rising hr hin, hrr, fun A e => .inr (hA A e), m⟩

theorem drop_both (next num : Int) (L : List Itm) (hr : Rising L) (hlen : L.length ≤ 64) : ∀ w a len cap, RRow w a len cap L →
    Calls Try.prog 28 #[.agg #[.int .i64 next, .slice a len cap], .int .i64 num] w (RAct next L.length a (dropL L num) (fun v => .tuple #[v, .bool (decide ((dropL L num).length < L.length))]) w) := by
  intro w a len cap h
  refine (rdrop_any next num a len cap L w h (by have := h.n; omega)).mono ?_
  rintro e w' ⟨a', cap', rfl, hrr, hA, m⟩
  exact ⟨dropL L num, a', cap', rfl, .refl _, hr.drop num, hrr, fun A e => .inr (hA A e), m⟩
theorem pass_both (next : Int) (L : List Itm) (hr : Rising L) (hlen : L.length ≤ 64) (hb : 1 ≤ next ∧ next ≤ 2199023255552) : ∀ w a len cap, RRow w a len cap L →
    Calls Try.prog 26 #[.agg #[.int .i64 next, .slice a len cap]] w (RAct (next + 1) L.length a (dropL L next) (fun v => v) w) := by
  intro w a len cap h
  refine (rpass_any next a len cap L w h (by have := h.n; omega) hb).mono ?_
  rintro e w' ⟨a', cap', rfl, hrr, hA, m⟩
  exact ⟨dropL L next, a', cap', rfl, .refl _, hr.drop next, hrr, fun A e => .inr (hA A e), m⟩

theorem take_both (next : Int) (L : List Itm) (hr : Rising L) (hform : ∀ x ∈ L, ∃ k, -9223372036854775808 ≤ k ∧ k ≤ 9223372036854775807 ∧ x = itmOf x.num 2 k) (hge : ∀ x ∈ L, next ≤ x.num ∧ x.num ≤ 1099511627776) (hb : 1 ≤ next) :
    ∃ (d k : Int) (b : Bool) (next' : Int) (M0 : List Itm), (0 ≤ d ∧ d ≤ 2) ∧ (-9223372036854775808 ≤ k ∧ k ≤ 9223372036854775807) ∧ next ≤ next' ∧ next' ≤ next + 1 ∧ M0.length ≤ L.length ∧ (∀ y ∈ M0, y ∈ L) ∧
    (∀ w a len cap, RRow w a len cap L → Calls Try.prog 25 #[.agg #[.int .i64 next, .slice a len cap]] w (RAct next' L.length a M0 (fun v => .tuple #[v, mcell d k, .bool b]) w)) ∧
    (∀ B w p lb g, QIs B w p lb g next L → Calls Try.prog 24 #[.pointer (some ⟨p, 0, none⟩)] w fun e w' => e = .returned (.tuple #[mcell d k, .bool b]) ∧ Mod none_ w w') ∧
    (∀ B w p lb g, QIs B w p lb g next L → Calls Try.prog 22 #[.pointer (some ⟨p, 0, none⟩)] w (QPost B p lb g next' M0 (.tuple #[mcell d k, .bool b]) w)) := by
  by_cases hh : ∃ x r, L = x :: r ∧ x.num = next
  · obtain ⟨x, r, rfl, hn⟩ := hh
    obtain ⟨k, hk1, hk2, hx⟩ := hform x (List.mem_cons_self ..)
    have hnx := (hge x (List.mem_cons_self ..)).2
    have hrr := (List.pairwise_cons.1 hr).2
    refine ⟨2, k, true, next + 1, r, by omega, ⟨hk1, hk2⟩, by omega, by omega, by rw [List.length_cons]; omega, fun y hy => List.mem_cons_of_mem _ hy, fun w a len cap h => ?_, fun B w p lb g h => ?_, fun B w p lb g h => ?_⟩
    · have := rtake_some next a len cap x r w h hn (by omega)
      rw [hx] at this
      refine this.mono ?_
      rintro e w' ⟨a', len', cap', rfl, hR, hN, m⟩
      have hn' := hR.n
      subst hn'
      exact ⟨r, a', cap', rfl, .refl _, hrr, hR, fun A e => (hN A e).imp (fun q => ⟨by rw [List.length_cons]; omega, q⟩) id, m⟩
    · obtain ⟨cap, xs, more, h, hperm⟩ := h
      have hroot := h.root (hperm.mem_iff.2 (List.mem_cons_self ..)) hn
      have := qlook_some B p lb g cap next xs more x w h hroot hn
      rw [hx] at this
      exact this
    · have := qtake_some B p lb g next x r w h hn
      rw [hx] at this
      exact this
  · have hno : ∀ x ∈ L, x.num ≠ next := by
      intro x hx e
      cases L with
      | nil => simp at hx
      | cons y r =>
        refine hh ⟨y, r, rfl, ?_⟩
        rcases List.mem_cons.1 hx with q | q
        · rw [← q]; exact e
        · have h1 := (List.pairwise_cons.1 hr).1 x q
          have h2 := (hge y (List.mem_cons_self ..)).1
          omega
    refine ⟨0, 0, false, next, L, by omega, by omega, by omega, by omega, Nat.le_refl _, fun y hy => hy, fun w a len cap h => ?_, fun B w p lb g h => ?_, fun B w p lb g h => ?_⟩
    · have hn := h.n
      refine (rtake_none next a len cap L w h (fun x hx => hno x (List.mem_of_getElem? hx))).mono ?_
      rintro e w' ⟨rfl, m⟩
      subst hn
      exact ⟨L, a, cap, rfl, .refl _, hr, h.grown m, fun A e => .inl ⟨Nat.le_refl _, A, e, rfl⟩, m⟩
    · obtain ⟨cap, xs, more, h, hperm⟩ := h
      exact qlook_none B p lb g cap next xs more w h (h.noroot (fun x hx => hno x (hperm.mem_iff.1 hx)))
    · exact qtake_none B p lb g next L w h hno

structure PS (w : World) (p lb rb B g : Nat) (nq : Int) (Lq : List Itm) (nr : Int) (a : Option Addr) (len cap : Nat) (Lr : List Itm) (W : World) : Prop where
  q : QIs B W p lb g nq Lq
  hB : w.heap.size ≤ B
  hrb : w.heap.size ≤ rb
  bel : Below w.heap.size w W
  k : Blk W rb [.int .i64 nr, .slice a len cap] 58
  r : RRow W a len cap Lr
  nf : ¬ qf p lb g rb
  na : 0 < len → ∀ A, a = some A → ¬ qf p lb g A.block ∧ A.block ≠ rb

theorem RRow.lt {w : World} {a : Option Addr} {len cap : Nat} {L : List Itm} (h : RRow w a len cap L) (h0 : 0 < len) {A : Addr} (hA : a = some A) : A.block < w.heap.size := by
  obtain ⟨g, off, x, e, hx, hr, _⟩ := h.at_ 0 h0
  rw [e] at hA
  cases hA
  exact block_lt_of_cell (hr 0 (.int .i64 x.num) rfl)
theorem RRow.mod' {S : Nat → Prop} {w w' : World} {a : Option Addr} {len cap : Nat} {L : List Itm} (h : RRow w a len cap L) (m : Mod S w w') (hs : 0 < len → ∀ A, a = some A → ¬ S A.block) : RRow w' a len cap L := by
  by_cases h0 : 0 < len
  · exact h.mod m (hs h0)
  · exact ⟨h.n, h.le, h.big, fun q => absurd q h0⟩

theorem PS.grown {w : World} {p lb rb B g : Nat} {nq nr : Int} {Lq Lr : List Itm} {a : Option Addr} {len cap : Nat} {W W' : World} (h : PS w p lb rb B g nq Lq nr a len cap Lr W) (m : Mod none_ W W') : PS w p lb rb B g nq Lq nr a len cap Lr W' :=
  ⟨h.q.grown m, h.hB, h.hrb, h.bel.trans (m.toBelow h.bel.size (fun _ _ e => e)), h.k.mod m (fun e => e), h.r.grown m, h.nf, h.na⟩
theorem PS.qstep {w : World} {p lb rb B g : Nat} {nq nq' nr : Int} {Lq M Lr : List Itm} {a : Option Addr} {len cap : Nat} {W W' : World} {r : Value} {e : Ending} (h : PS w p lb rb B g nq Lq nr a len cap Lr W) (hp : QPost B p lb g nq' M r W e W') : ∃ g', PS w p lb rb B g' nq' M nr a len cap Lr W' := by
  obtain ⟨_, g', q', m, eg⟩ := hp
  exact ⟨g', q', h.hB, h.hrb, h.bel.trans ((h.q.below m).mono h.hB), h.k.mod m h.nf, h.r.mod' m (fun h0 A e => (h.na h0 A e).1), qf_new h.nf eg h.k.lt, fun h0 A e => ⟨qf_new (h.na h0 A e).1 eg (h.r.lt h0 e), (h.na h0 A e).2⟩⟩
/-- The document's answer is stored into the variable. -/
theorem PS.rset {w : World} {p lb rb B g : Nat} {nq nr nr' : Int} {Lq Lr M : List Itm} {a a' : Option Addr} {len cap cap' : Nat} {W W1 : World} (h : PS w p lb rb B g nq Lq nr a len cap Lr W) (m : Mod none_ W W1) (hr : RRow W1 a' M.length cap' M)
    (hn : ∀ A, a' = some A → (M.length ≤ len ∧ ∃ A0, a = some A0 ∧ A0.block = A.block) ∨ W.heap.size ≤ A.block) : PS w p lb rb B g nq Lq nr' a' M.length cap' M (W1.setCells rb 0 [.int .i64 nr', .slice a' M.length cap']) := by
  have h1 := h.grown m
  obtain ⟨k2, m2⟩ := blk_over h1.k (mc := [.int .i64 nr', .slice a' M.length cap']) rfl
  have hna : 0 < M.length → ∀ A, a' = some A → ¬ qf p lb g A.block ∧ A.block ≠ rb := by
    intro h0 A e
    rcases hn A e with ⟨hl, A0, e0, eb⟩ | hnew
    · rw [← eb]; exact h.na (by omega) A0 e0
    · have hk := h.k.lt
      exact ⟨fun q => by have := (h.q.foot q).2; omega, by omega⟩
  refine ⟨h1.q.far m2 (fun b hb q => ?_), h.hB, h.hrb, h1.bel.trans (m2.toBelow h1.bel.size (fun b hb q => ?_)), k2, hr.mod' m2 (fun h0 A e q => ?_), h.nf, hna⟩
  · have : b = rb := hb
    subst this; exact h.nf q
  · have : b = rb := q
    have := h.hrb
    omega
  · have : A.block = rb := q
    exact (hna h0 A e).2 this

theorem PS.lperm {w : World} {p lb rb B g : Nat} {nq nr : Int} {Lq M Lr : List Itm} {a : Option Addr} {len cap : Nat} {W : World} (h : PS w p lb rb B g nq Lq nr a len cap Lr W) (hp : Lq.Perm M) : PS w p lb rb B g nq M nr a len cap Lr W :=
  ⟨h.q.perm hp, h.hB, h.hrb, h.bel, h.k, h.r, h.nf, h.na⟩

end Go.Proofs.Ytpdfakfokegcnaa
