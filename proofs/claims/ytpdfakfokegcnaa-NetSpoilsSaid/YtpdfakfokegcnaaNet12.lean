/-
  Layer 22 (net): the counts, in plain lists.
-/
import Derived.Test.YtpdfakfokegcnaaNet11
namespace Go.Proofs.Ytpdfakfokegcnaa
open Go.RowKit Go.Mine

def Sz (L : Ways) : Prop := ∀ l ∈ L, ∀ x ∈ l, x.size ≤ 1000

theorem onWays_set (L : Ways) (j : Nat) (l l' : List ByteArray) (h : L[j]? = some l) : onWays (L.set j l') = onWays L - l.length + l'.length := by
  unfold onWays
  induction L generalizing j with
  | nil => simp at h
  | cons a r ih =>
    cases j with
    | zero => simp at h; subst h; simp only [List.set_cons_zero, List.map_cons, List.sum_cons]; omega
    | succ j =>
      have := ih j (by simpa using h)
      simp only [List.set_cons_succ, List.map_cons, List.sum_cons] at this ⊢
      omega
theorem sz_set {L : Ways} (h : Sz L) (j : Nat) {l' : List ByteArray} (hl : ∀ x ∈ l', x.size ≤ 1000) : Sz (L.set j l') := by
  intro m hm x hx
  rcases List.mem_or_eq_of_mem_set hm with s | rfl
  · exact h m s x hx
  · exact hl x hx
theorem sz_way {L : Ways} (h : Sz L) (i : Int) : ∀ x ∈ wayOf L i, x.size ≤ 1000 := by
  unfold wayOf
  by_cases hi : i.toNat < L.length
  · rw [List.getD_eq_getElem?_getD, List.getElem?_eq_getElem hi]; exact h _ (List.getElem_mem hi)
  · rw [List.getD_eq_getElem?_getD, List.getElem?_eq_none (by omega)]; simp

theorem isWay.at_ {L : Ways} {i : Int} (h : isWay L i) : L[i.toNat]? = some (wayOf L i) := by
  obtain ⟨k, rfl, _, h⟩ := h.nat; simpa using h

theorem askE_way {L : Ways} {i k : Int} (h : askE L i k = 0) : isWay L i ∧ askK L i k < (wayOf L i).length := by
  unfold askE at h
  by_cases hw : isWay L i ∧ 0 ≤ k
  · rw [if_pos hw] at h
    by_cases hn : wayOf L i = []
    · rw [if_pos hn] at h; omega
    · exact ⟨hw.1, Nat.mod_lt _ (List.length_pos_iff.2 hn)⟩
  · rw [if_neg hw] at h; omega

theorem gone_0 {L : Ways} {i k : Int} (h : askE L i k = 0) : onWays (goneL L i k) = onWays L - 1 := by
  obtain ⟨hw, hk⟩ := askE_way h
  unfold goneL
  rw [if_pos h, onWays_set L _ _ _ hw.at_, List.length_eraseIdx, if_pos hk]; omega
theorem gone_1 {L : Ways} {i k : Int} (h : ¬ askE L i k = 0) : goneL L i k = L := by unfold goneL; rw [if_neg h]
theorem gone_len (L : Ways) (i k : Int) : (goneL L i k).length = L.length := by unfold goneL; split <;> simp
theorem gone_sz {L : Ways} (h : Sz L) (i k : Int) : Sz (goneL L i k) := by
  unfold goneL; split
  · exact sz_set h _ (fun x hx => sz_way h i x (List.mem_of_mem_eraseIdx hx))
  · exact h

theorem spoil_0 (L : Ways) (i k a b : Int) : onWays (spoilL L i k a b) = onWays L := by
  unfold spoilL; split
  · rename_i h
    unfold spoilE at h
    split at h
    · omega
    · obtain ⟨hw, hk⟩ := askE_way h
      rw [onWays_set L _ _ _ hw.at_]; simp
  · rfl
theorem spoil_len (L : Ways) (i k a b : Int) : (spoilL L i k a b).length = L.length := by unfold spoilL; split <;> simp
theorem turned_size (x : ByteArray) (a b : Nat) : (turned x a b).size = x.size := by
  unfold turned
  show (List.toArray _).size = x.size
  simp
theorem spoil_sz {L : Ways} (h : Sz L) (i k a b : Int) : Sz (spoilL L i k a b) := by
  unfold spoilL; split
  · refine sz_set h _ (fun x hx => ?_)
    rcases List.mem_or_eq_of_mem_set hx with s | rfl
    · exact sz_way h i x s
    · have ht : (textOf L i k).size ≤ 1000 := by
        unfold textOf; split
        · rename_i h0
          obtain ⟨hw, hk⟩ := askE_way h0
          rw [List.getD_eq_getElem?_getD, List.getElem?_eq_getElem hk]
          exact sz_way h i _ (List.getElem_mem hk)
        · decide
      unfold turnedI; split
      · exact ht
      · rw [turned_size]; exact ht
  · exact h

theorem clear_0 (L : Ways) (i : Int) : onWays (clearL L i) = onWays L - countN L i := by
  unfold clearL countN
  by_cases hw : isWay L i
  · rw [if_pos hw, if_pos hw, onWays_set L _ _ _ hw.at_]; simp
  · rw [if_neg hw, if_neg hw]; omega
theorem clear_len (L : Ways) (i : Int) : (clearL L i).length = L.length := by unfold clearL; split <;> simp
theorem clear_sz {L : Ways} (h : Sz L) (i : Int) : Sz (clearL L i) := by
  unfold clearL; split
  · exact sz_set h _ (by simp)
  · exact h
theorem count_bound {L : Ways} (h : ∀ l ∈ L, l.length ≤ 200) (i : Int) : 0 ≤ countN L i ∧ countN L i ≤ 200 := by
  unfold countN; split
  · rename_i hw
    have := h _ (List.mem_of_getElem? hw.at_)
    omega
  · omega

theorem put_cases (L : Ways) (i : Int) (s : ByteArray) : (putE L i = 1 ∧ putL L i s = L) ∨ (putE L i = 4 ∧ putL L i s = L) ∨ (putE L i = 0 ∧ onWays (putL L i s) = onWays L + 1) := by
  unfold putL
  by_cases hw : isWay L i
  · by_cases h2 : (wayOf L i).length = 200
    · have e : putE L i = 4 := by unfold putE; rw [if_pos hw, if_pos h2]
      right; left; rw [e]; exact ⟨rfl, if_neg (by decide)⟩
    · have e : putE L i = 0 := by unfold putE; rw [if_pos hw, if_neg h2]
      right; right; rw [e, if_pos rfl, onWays_set L _ _ _ hw.at_]; refine ⟨rfl, ?_⟩; simp; omega
  · have e : putE L i = 1 := by unfold putE; rw [if_neg hw]
    left; rw [e]; exact ⟨rfl, if_neg (by decide)⟩
theorem put_len (L : Ways) (i : Int) (s : ByteArray) : (putL L i s).length = L.length := by unfold putL; split <;> simp
theorem put_sz {L : Ways} (h : Sz L) (i : Int) {s : ByteArray} (hs : s.size ≤ 1000) : Sz (putL L i s) := by
  unfold putL; split
  · refine sz_set h _ (fun x hx => ?_)
    rcases List.mem_append.1 hx with m | m
    · exact sz_way h i x m
    · simp at m; subst m; exact hs
  · exact h

end Go.Proofs.Ytpdfakfokegcnaa
