/-
  NetCounts answers true, whatever acts are handed in; its argument reads behind the call as it did.
  Conditions: none.
-/
import Derived.Test.YtpdfakfokegcnaaNet13
import Derived.Test.YtpdfakfokegcnaaOpen
namespace Go.Proofs.Ytpdfakfokegcnaa
open Go.ChangeShapes Go.WideShapes Go.ChangeAt Go.RowKit Go.Mine Go.Deep

theorem Try.own : ownKnob Try.prog.godebug = none := by kernel_rfl
theorem Try.laidOut : laidOutB Try.prog = true := by kernel_rfl

theorem byte_of {w : World} {a : Addr} {n : Int} (h : (Lit.int .u8 n).wf = true) (hc : w.cell? a = some (.int .u8 n)) : ∃ m : Nat, m < 256 ∧ w.cell? a = some (.int .u8 (m : Int)) := by
  have := bounds_u8 h
  exact ⟨n.toNat, by omega, by rw [hc, Int.toNat_of_nonneg this.1]⟩

theorem acts_of {H : Type} {enc : TypeId × Value → H} {w : World} {base : Nat} {spare : Nat → Bool} {held : Bool} {fuel : Nat} {a : Option Addr} {len cap : Nat} {x : DataW H × List MemPlace}
    (h : DataW.trod enc Try.prog w base spare held fuel 22 [.slice a len cap] = some x) : ∃ l, IsActs w a len cap l := by
  rcases slice_of_structs Try.underlying22 Try.underlying30 (by kernel_rfl) (by kernel_rfl) h with h0 | ⟨ad, len', cap', hcs, hl, hm, hf⟩
  · simp at h0
    obtain ⟨rfl, rfl, rfl⟩ := h0
    exact ⟨[], rfl, by omega, by unfold maxLen; omega, by simp, by simp⟩
  simp at hcs
  obtain ⟨rfl, rfl, rfl⟩ := hcs
  have key : ∀ i, i < len → ∃ y : NAct, y.ok ∧ ∃ b off, ad = ⟨b, off, none⟩ ∧ y.at_ w b (off + i * 6) := by
    intro i hi
    obtain ⟨v0, y0, n0, h0, t0⟩ := hf i hi 0 _ rfl
    obtain ⟨v1, y1, n1, h1, t1⟩ := hf i hi 1 _ rfl
    obtain ⟨v2, y2, n2, h2, t2⟩ := hf i hi 2 _ rfl
    obtain ⟨v3, y3, n3, h3, t3⟩ := hf i hi 3 _ rfl
    obtain ⟨v4, y4, n4, h4, t4⟩ := hf i hi 4 _ rfl
    obtain ⟨v5, y5, n5, h5, t5⟩ := hf i hi 5 _ rfl
    obtain ⟨m0, e0, _, w0⟩ := DataW.trod_int Try.underlying5 t0
    obtain ⟨m1, e1, _, w1⟩ := DataW.trod_int Try.underlying3 t1
    obtain ⟨m2, e2, _, w2⟩ := DataW.trod_int Try.underlying3 t2
    obtain ⟨m3, e3, _, w3⟩ := DataW.trod_int Try.underlying3 t3
    obtain ⟨m4, e4, _, w4⟩ := DataW.trod_int Try.underlying3 t4
    obtain ⟨s, e5, _, w5⟩ := DataW.trod_string Try.underlying9 t5
    simp only [List.cons.injEq, and_true] at e0 e1 e2 e3 e4 e5
    subst e0 e1 e2 e3 e4 e5
    obtain ⟨b, off, spot⟩ := ad
    have hspot : spot = none := by
      obtain ⟨v, _, _, hc, _⟩ := hf 0 (by omega) 0 _ rfl
      have := World.cell?_spot hc
      simpa [Addr.add] using this
    subst hspot
    simp only [Addr.add_lit] at h0 h1 h2 h3 h4 h5
    have b0 := bounds_u8 w0
    have b1 := bounds_i64 w1
    have b2 := bounds_i64 w2
    have b3 := bounds_i64 w3
    have b4 := bounds_i64 w4
    refine ⟨⟨m0.toNat, m1, m2, m3, m4, s⟩, ⟨by show m0.toNat < 256; omega, by show _ ∧ _; omega, by show _ ∧ _; omega, by show _ ∧ _; omega, by show _ ∧ _; omega, w5⟩, b, off, rfl, ⟨?_, ?_, ?_, ?_, ?_, ?_⟩⟩
    · show w.cell? _ = some (.int .u8 ((m0.toNat : Nat) : Int))
      rw [Int.toNat_of_nonneg b0.1]; exact h0
    · exact h1
    · exact h2
    · exact h3
    · exact h4
    · exact h5
  obtain ⟨f, hfk⟩ := Classical.axiomOfChoice (fun i : Fin len => key i.1 i.2)
  refine ⟨List.ofFn f, by simp, hl, hm, ?_, ?_⟩
  · intro y hy
    obtain ⟨i, rfl⟩ := List.mem_ofFn.1 hy
    exact (hfk i).1
  · intro i y hy
    have hi : i < len := by have := (List.getElem?_eq_some_iff.1 hy).1; simpa using this
    obtain ⟨_, b, off, e, hat⟩ := hfk ⟨i, hi⟩
    have : y = f ⟨i, hi⟩ := by
      rw [List.getElem?_eq_getElem (by simpa using hi)] at hy
      simp at hy; exact hy.symm
    subst this
    exact ⟨b, off, by rw [e], hat⟩

set_option maxRecDepth 100000 in
theorem counts_lifted (os : Os) (started : os.Started) (H : Type) (enc : TypeId × Value → H) :
    ReturnsInHanded {} Try.checked os 3 .any (Rows.netCountsSpec.pre6 enc Try.prog Try.f3 Rows.netCountsRow.domain false) (Rows.netCountsSpec.post enc Try.prog Try.f3 false true false false) := by
  refine returnsInHanded_of_change (C := Try.checked) Try.own started (by kernel_rfl) Try.func3
    (ChangeSpec.witness6 (enc := enc) (C := Try.checked) false ⟨#[], #[.slice none 0 0], []⟩ 8 (by kernel_rfl) (by kernel_rfl) (by kernel_rfl) (by kernel_rfl)) ?_
  intro W base args ds gs before hval0 hW hcnd _
  have hval : ∀ (j : Nat) t v, Try.f3.params[j]? = some t → args[j]? = some v → Value.okWide Try.prog W .any base t v := hval0
  have hW' := hW
  obtain ⟨p, q, hA0, hV, rfl, hfz, hnd⟩ := hW
  have hA : DataW.TrodAll enc Try.prog W 0 (fun _ => true) true Try.f3.params.toList args.toList ds p := hA0
  rw [Try.params3] at hA hval
  obtain ⟨v0, vs0, d0, ds0, p0, q0, hargs, rfl, rfl, h0, r0⟩ := trodAll_cons hA
  obtain ⟨rfl, rfl, rfl⟩ := trodAll_nil r0
  obtain rfl : args = #[v0] := by cases args; simp_all
  obtain ⟨rfl, rfl⟩ := trodVars_none hV
  obtain ⟨a0, len0, cap0, rfl⟩ := okWide_slice Try.underlying22 (hval 0 22 v0 rfl rfl)
  have k0 := h0
  have lt0 : ∀ x ∈ p0, x.block < W.heap.size := by obtain ⟨m, hm⟩ := k0; exact DataW.trod_lt m _ _ _ hm
  obtain ⟨l, w0⟩ : ∃ l, IsActs W a0 len0 cap0 l := by
    obtain ⟨fuel, hf⟩ := h0
    exact acts_of hf
  clear hA0 hval0
  refine (counts_walk a0 len0 cap0 l W w0).mono fun e W' ⟨he, bel⟩ => ?_
  subst he
  exact ⟨_, rfl, _, _, _, [], _, [], hW', trodAll_mk1 (shut_bool Try.underlying4 _), (trodAll_cons_mk (Below.trod Try.laidOut (by kernel_rfl) (of_decide_eq_true (by kernel_rfl)) k0 bel lt0) trodAll_mk0), rfl, bel.frame _, fun h => by cases h⟩

theorem NetCounts_holds : Rows.NetCountsSaid :=
  OpenClaim.holds_of_wide 3 Try.f3 rfl rfl rfl rfl rfl rfl rfl ⟨rfl, rfl, rfl, rfl, rfl⟩ rfl rfl rfl rfl rfl (by kernel_rfl) Try.func3 (by kernel_rfl)
    (of_decide_eq_true (by kernel_rfl)) (by unfold Func.isWrapper; first | (rw [if_pos (by decide +kernel)]; kernel_rfl) | (rw [if_neg (by decide +kernel)]; exact ⟨rfl, rfl⟩))
    (fun os started H enc _ => counts_lifted os started H enc)

end Go.Proofs.Ytpdfakfokegcnaa
