/-
  Layer 22 (net): slices.Delete of one text; the methods that only read.
-/
import Derived.Test.YtpdfakfokegcnaaNet1
namespace Go.Proofs.Ytpdfakfokegcnaa
open Go.RowKit Go.Mine

theorem del_list (cs news rep : List Value) (n i : Nat) (hi : i < n) (hn : n ≤ cs.length) (hnews : news = (cs.drop (i + 1)).take (n - (i + 1))) :
    (((cs.take (0 + i * 1) ++ news ++ cs.drop (0 + i * 1 + news.length)).take (i + (n - (i + 1)))) ++ rep ++ (cs.take (0 + i * 1) ++ news ++ cs.drop (0 + i * 1 + news.length)).drop (i + (n - (i + 1)) + rep.length)).take (n - 1) = (cs.take n).eraseIdx i := by
  have hl : news.length = n - (i + 1) := by rw [hnews]; simp; omega
  have hL : (cs.take (0 + i * 1) ++ news ++ cs.drop (0 + i * 1 + news.length)).length = cs.length := by simp [hl]; omega
  rw [List.append_assoc, List.take_append_of_le_length (by rw [List.length_take, hL]; omega), List.take_take]
  apply List.ext_getElem?
  intro j
  rw [List.getElem?_take, List.getElem?_eraseIdx]
  subst hnews
  by_cases hj : j < n - 1
  · rw [if_pos (by omega)]
    by_cases hji : j < i
    · simp [List.getElem?_append, List.getElem?_take, hji, show min i cs.length = i by omega, show j < n by omega]
    · simp [List.getElem?_append, List.getElem?_take, hji, show min i cs.length = i by omega, show j - i < min (n - (i + 1)) (cs.length - (i + 1)) by omega, show j - i < n - (i+1) by omega, show j + 1 < n by omega]
      rw [List.getElem?_eq_getElem (by omega)]
      congr 2; omega
  · rw [if_neg (by omega)]
    split <;> simp [List.getElem?_take] <;> omega

set_option maxHeartbeats 1000000 in
set_option maxRecDepth 1000000 in
theorem del_any (b cap n i : Nat) (cs : List Value) (e : TypeId) (w : World) (hi : i < n) (hn : n ≤ cap) (hcap : cap ≤ 9223372036854775807) (hs : cs.length = cap) (hone : ∀ u ∈ cs.take n, u.oneCell' = true)
   (hb : Blk w b cs e) :
    Calls Try.prog 45 #[.slice (some ⟨b, 0, none⟩) n cap, .int .i64 i, .int .i64 (i+1)] w fun en w' => en = .returned (.slice (some ⟨b, 0, none⟩) (n-1) cap) ∧
      ∃ cs', Blk w' b cs' e ∧ cs'.length = cap ∧ cs'.take (n - 1) = (cs.take n).eraseIdx i ∧ Mod (one b) w w' := by
  obtain ⟨i0, hi0, hz0, hz1, hz2⟩ := info_parts Try.infoStr
  have zs : ∀ w, (zeroValue 9).run Try.prog w = .ok (.string ByteArray.empty) w := fun w => by kernel_rfl
  -- what is moved
  obtain ⟨news, hnews⟩ : ∃ news, news = (cs.drop (i + 1)).take (n - (i + 1)) := ⟨_, rfl⟩
  have hlen : news.length = n - (i + 1) := by rw [hnews]; simp; omega
  have hget : ∀ t, t < n - (i + 1) → news[t]? = cs[i + 1 + t]? := by
    intro t ht; rw [hnews, List.getElem?_take, if_pos ht, List.getElem?_drop]
  obtain ⟨A, hA, hsrc⟩ : ∃ A : Addr, (if cap = i + 1 then some (⟨b, 0, none⟩ : Addr) else some ⟨b, i + 1, none⟩) = some A ∧ Hid (∀ t u, news[t]? = some u → w.drew.cell? (A.add t) = some u) := by
    by_cases h : cap = i + 1
    · refine ⟨⟨b, 0, none⟩, by simp [h], fun t u hu => ?_⟩
      have h0 : news.length = 0 := by rw [hlen]; omega
      rw [List.length_eq_zero_iff.1 h0] at hu
      simp at hu
    · refine ⟨⟨b, i + 1, none⟩, by simp [h], fun t u hu => ?_⟩
      have ht : t < n - (i + 1) := by
        have := (List.getElem?_eq_some_iff.1 hu).1
        rwa [hlen] at this
      rw [hget t ht] at hu
      rw [Addr.add_lit]
      exact (hb.drew.cell _).trans hu
  have s1 : Hid (news.length = (n - (i + 1)) * 1) := by rw [Nat.mul_one]; exact hlen
  have s2 : Hid (∀ u ∈ news, u.oneCell' = true) := by
    intro u hu
    rw [hnews] at hu
    rw [← List.drop_take] at hu
    exact hone u (List.mem_of_mem_drop hu)
  have s3 : Hid (∀ t, t < news.length → (w.drew.cell? ⟨b, 0 + i * 1 + t, none⟩).isSome = true ∧ w.drew.frozen? ⟨b, 0 + i * 1 + t, none⟩ = false) := by
    intro t ht
    rw [hlen] at ht
    refine ⟨?_, hb.drew.frozen _⟩
    rw [hb.drew.cell, List.getElem?_eq_getElem (by omega)]; rfl
  obtain ⟨W1, hW1⟩ : ∃ W1, W1 = w.drew.setCells b (0 + i * 1) news := ⟨_, rfl⟩
  obtain ⟨B1, M1⟩ := Blk.setCells news (0 + i * 1) w.drew cs hb.drew (by rw [hlen]; omega)
  rw [← hW1] at B1 M1
  have l1 : (cs.take (0 + i * 1) ++ news ++ cs.drop (0 + i * 1 + news.length)).length = cap := by simp [hlen]; omega
  have hcl : ∀ ty, (Builtin.clear_ #[79] ty #[.slice (some ⟨b, i + (n - (i + 1)), none⟩) (n - (i + (n - (i + 1)))) (cap - (i + (n - (i + 1))))]).run Try.prog W1 = .ok (.tuple #[]) (W1.setCells b (i + (n - (i + 1))) (List.replicate (n - (i + (n - (i + 1)))) (.string ByteArray.empty))) :=
    fun ty => Lib.run_clear_slice W1 _ _ ty _ Try.underlying79 zs rfl rfl b _ _ _ (by omega) (fun t ht => by rw [B1.cell, List.getElem?_eq_getElem (by rw [l1]; omega)]; rfl) (fun t ht => B1.frozen _)
  obtain ⟨B2, M2⟩ := Blk.setCells (List.replicate (n - (i + (n - (i + 1)))) (.string ByteArray.empty)) (i + (n - (i + 1))) W1 _ B1 (by rw [l1]; simp; omega)
  have X : Aside (Mod (one b) w.drew W1 ∧ Mod (one b) W1 (W1.setCells b (i + (n - (i + 1))) (List.replicate (n - (i + (n - (i + 1)))) (.string ByteArray.empty)))) := ⟨M1, M2⟩
  have Y : Aside (Blk (W1.setCells b (i + (n - (i + 1))) (List.replicate (n - (i + (n - (i + 1)))) (.string ByteArray.empty))) b _ e) := B2
  have Z : Aside (news = (cs.drop (i + 1)).take (n - (i + 1)) ∧ news.length = n - (i + 1)) := ⟨hnews, hlen⟩
  have hW : Hid (W1 = w.drew.setCells b (0 + i * 1) news) := hW1
  have hic : i ≤ cap := by omega
  have hjc : i + 1 ≤ cap := by omega
  have hp0 : (0 : Int) ≤ (i : Int) + 1 := by omega
  have hp1 : (i : Int) + 1 ≤ (n : Int) := by omega
  have hp2 : ((i : Int) + 1).toNat = i + 1 := by omega
  clear hW1 B1 M1 B2 M2 hget hnews hlen hone hb l1
  go_enter Try.func45, Try.ntmps45
  go_wp2_with fail
  go_region_law (refine step_append_room rfl (.tmp 22) (.tmp 25) 79 rfl 9 i0 1 Try.underlying79 hi0 hz1 b 0 i cap (by simp [Act.eval, Act.put]) A (n - (i + 1)) (cap - (i + 1)) news (by simp [Act.eval, Act.put]) s1.out hsrc.out s2.out (by omega) s3.out ?_; rw [← hW.out])
  go_wp2
  go_ret
  refine ⟨by rw [show n - 1 = i + (n - (i + 1)) by omega]; rfl, _, Y.out, ?_, del_list cs news _ n i hi (by omega) Z.out.1, (Mod.refl _ w).drew.trans (X.out.1.trans X.out.2)⟩
  have := Z.out.2
  simp [this]; omega
end Go.Proofs.Ytpdfakfokegcnaa
