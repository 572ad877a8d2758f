/-
  Layer 22 (net): how a net lies in memory, and what each method does to it.
-/
import Derived.Test.YtpdfakfokegcnaaBase
import Derived.Test.YtpdfakfokegcnaaRows
namespace Go.Proofs.Ytpdfakfokegcnaa
open Go.RowKit Go.Mine

theorem Try.infoStr : (Try.prog.info? 9).map (fun i => (i.zero, i.size, i.bytes)) = some (some (.string ByteArray.empty), 1, 16) := by kernel_rfl

structure NetRep (B : Nat) (w : World) (p bw : Nat) (vs : List Value) (L : List (List ByteArray)) (lost : Int) : Prop where
  hp : Blk w p [.slice (some ⟨bw, 0, none⟩) L.length L.length, .int .i64 lost] 77
  hw : Blk w bw vs 79
  len : vs.length = L.length
  few : L.length ≤ 64
  each : ∀ l ∈ L, l.length ≤ 200
  own : ∀ (i : Nat) v l, vs[i]? = some v → L[i]? = some l → w.ownsRow B 9 1 v l.length (l.map Value.string)
  ne : p ≠ bw
  bp : B ≤ p
  bb : B ≤ bw
  dp : ∀ (i : Nat) v k, vs[i]? = some v → v.ownBlock = some k → k ≠ p ∧ k ≠ bw
  dd : ∀ (i j : Nat) v u k, i ≠ j → vs[i]? = some v → vs[j]? = some u → v.ownBlock = some k → u.ownBlock ≠ some k

/-- A way's own value, and its texts. -/
theorem NetRep.at_ {B : Nat} {w : World} {p bw : Nat} {vs : List Value} {L : List (List ByteArray)} {lost : Int} (h : NetRep B w p bw vs L lost) (k : Nat) (l : List ByteArray) (hl : L[k]? = some l) :
    ∃ v, vs[k]? = some v ∧ w.ownsRow B 9 1 v l.length (l.map Value.string) ∧ w.cell? ⟨bw, k, none⟩ = some v ∧ l.length ≤ 200 ∧ k < L.length := by
  have hk : k < L.length := (List.getElem?_eq_some_iff.1 hl).1
  have hk' : k < vs.length := by rw [h.len]; exact hk
  refine ⟨vs[k], by simp [hk'], h.own k _ _ (by simp [hk']) hl, ?_, h.each _ (List.mem_of_getElem? hl), hk⟩
  rw [h.hw.cell]; simp [hk']

theorem NetRep.c0 {B : Nat} {w : World} {p bw : Nat} {vs : List Value} {L : List (List ByteArray)} {lost : Int} (h : NetRep B w p bw vs L lost) : w.cell? ⟨p, 0, none⟩ = some (.slice (some ⟨bw, 0, none⟩) L.length L.length) := by
  rw [h.hp.cell]; rfl
theorem NetRep.c1 {B : Nat} {w : World} {p bw : Nat} {vs : List Value} {L : List (List ByteArray)} {lost : Int} (h : NetRep B w p bw vs L lost) : w.cell? ⟨p, 1, none⟩ = some (.int .i64 lost) := by
  rw [h.hp.cell]; rfl

/-- Steps that leave the net's own blocks alone. -/
theorem NetRep.mod {B : Nat} {w w' : World} {p bw : Nat} {vs : List Value} {L : List (List ByteArray)} {lost : Int} (h : NetRep B w p bw vs L lost) {S : Nat → Prop} (m : Mod S w w') (hs : ∀ k, S k → w.heap.size ≤ k) : NetRep B w' p bw vs L lost :=
  { hp := h.hp.mod m (fun s => by have := hs _ s; have := h.hp.lt; omega)
    hw := h.hw.mod m (fun s => by have := hs _ s; have := h.hw.lt; omega)
    len := h.len, few := h.few, each := h.each
    own := fun i v l hv hl => ownsRow_mod (h.own i v l hv hl) m (fun k hk s => by have := hs _ s; have := ((h.own i v l hv hl).lt k hk).2; omega)
    ne := h.ne, bp := h.bp, bb := h.bb, dp := h.dp, dd := h.dd }

/-- A way's row gets another content, in its old block or in a new one. -/
theorem NetRep.turn {B : Nat} {w w' : World} {p bw : Nat} {vs : List Value} {L : List (List ByteArray)} {lost : Int} (h : NetRep B w p bw vs L lost) (k : Nat) (v v' : Value) (l' : List ByteArray)
    (hv : vs[k]? = some v) (m : Mod (fun b => v.ownBlock = some b ∨ w.heap.size ≤ b) w w') (hown : w'.ownsRow B 9 1 v' l'.length (l'.map Value.string)) (hl : l'.length ≤ 200)
    (hat : ∀ b, v'.ownBlock = some b → v.ownBlock = some b ∨ w.heap.size ≤ b) : NetRep B (w'.setCell ⟨bw, k, none⟩ v') p bw (vs.set k v') (L.set k l') lost := by
  have hbp : ¬ (v.ownBlock = some p ∨ w.heap.size ≤ p) := fun s => by
    rcases s with s | s
    · exact (h.dp k v p hv s).1 rfl
    · have := h.hp.lt; omega
  have hbb : ¬ (v.ownBlock = some bw ∨ w.heap.size ≤ bw) := fun s => by
    rcases s with s | s
    · exact (h.dp k v bw hv s).2 rfl
    · have := h.hw.lt; omega
  have m2 : Mod (fun b => b = bw) w' (w'.setCell ⟨bw, k, none⟩ v') := (Mod.refl (fun b => b = bw) w').setCell ⟨bw, k, none⟩ (fun _ => rfl) v'
  have hpn : ∀ b, v'.ownBlock = some b → b ≠ p ∧ b ≠ bw := fun b hb => by
    rcases hat b hb with s | s
    · exact h.dp k v b hv s
    · have := h.hp.lt; have := h.hw.lt; exact ⟨by omega, by omega⟩
  refine ⟨by rw [List.length_set]; exact (h.hp.mod m hbp).mod m2 h.ne, (h.hw.mod m hbb).set k v', by simp [h.len], by simpa using h.few, fun l hl' => ?_, fun i u l hu hll => ?_, h.ne, h.bp, h.bb, fun i u b hu hb => ?_, fun i j u u' b hij hu hu' hb => ?_⟩
  · rcases List.mem_or_eq_of_mem_set hl' with s | rfl
    · exact h.each l s
    · exact hl
  · by_cases e : i = k
    · subst e
      have hi : i < vs.length := by have := (List.getElem?_eq_some_iff.1 hv).1; exact this
      have hiL : i < L.length := by rw [← h.len]; exact hi
      rw [List.getElem?_set_self hi] at hu
      rw [List.getElem?_set_self hiL] at hll
      cases hu; cases hll
      exact ownsRow_mod hown m2 (fun b hb s => (hpn b hb).2 s)
    · rw [List.getElem?_set_ne (fun s => e s.symm)] at hu hll
      refine ownsRow_mod (ownsRow_mod (h.own i u l hu hll) m (fun b hb s => ?_)) m2 (fun b hb s => (h.dp i u b hu hb).2 s)
      rcases s with s | s
      · exact h.dd i k u v b e hu hv hb s
      · have := ((h.own i u l hu hll).lt b hb).2; omega
  · by_cases e : i = k
    · subst e
      rw [List.getElem?_set_self (List.getElem?_eq_some_iff.1 hv).1] at hu
      cases hu; exact hpn b hb
    · rw [List.getElem?_set_ne (fun s => e s.symm)] at hu
      exact h.dp i u b hu hb
  · have hk : k < vs.length := (List.getElem?_eq_some_iff.1 hv).1
    by_cases e : i = k
    · subst e
      rw [List.getElem?_set_self hk] at hu
      rw [List.getElem?_set_ne hij] at hu'
      cases hu
      intro s
      have hjl : j < L.length := by rw [← h.len]; exact (List.getElem?_eq_some_iff.1 hu').1
      rcases hat b hb with t | t
      · exact h.dd i j v u' b hij hv hu' t s
      · have := ((h.own j u' L[j] hu' (by simp [hjl])).lt b s).2; omega
    · rw [List.getElem?_set_ne (fun s => e s.symm)] at hu
      by_cases e' : j = k
      · subst e'
        rw [List.getElem?_set_self hk] at hu'
        cases hu'
        intro s
        have hil : i < L.length := by rw [← h.len]; exact (List.getElem?_eq_some_iff.1 hu).1
        rcases hat b s with t | t
        · exact h.dd i j u v b hij hu hv hb t
        · have := ((h.own i u L[i] hu (by simp [hil])).lt b hb).2; omega
      · rw [List.getElem?_set_ne (fun s => e' s.symm)] at hu'
        exact h.dd i j u u' b hij hu hu' hb

end Go.Proofs.Ytpdfakfokegcnaa
