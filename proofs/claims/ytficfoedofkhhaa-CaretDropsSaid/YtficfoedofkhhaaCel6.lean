/-
  Layer 12 (cells): slices.Chunk at cells, as an iterator.
-/
import Derived.Test.YtficfoedofkhhaaCel5
import Derived.Test.YtficfoedofkhhaaTxt1
namespace Go.Proofs.Ytficfoedofkhhaa
open Go.RowKit Go.Shelf Go.Mine
attribute [local go_sem] Oper.semAt_some

theorem chunk_any (a : Option Addr) (len cap : Nat) (w : World) : Calls Try.prog 23 #[.slice a len cap, .int .i64 64] w fun e w' =>
    e = .returned (.func (.func 35) #[] #[.pointer (some ⟨w.heap.size, 0, none⟩), .pointer (some ⟨w.heap.size + 1, 0, none⟩)]) ∧ w' = (w.alloc (.cells #[.slice a len cap] 36)).alloc (.cells #[.int .i64 64] 3) := by
  go_enter Try.func23, Try.ntmps23
  go_wp2
  go_ret
  exact ⟨rfl, rfl⟩

/-- A chunk: where it begins; as long as min 64 of what is left. -/
def chunkV (b off len i : Nat) : Value := .slice (some ⟨b, off + i * 5, none⟩) (((i : Int) + min 64 ((len - i : Nat) : Int)).toNat - i) (((i : Int) + min 64 ((len - i : Nat) : Int)).toNat - i)
theorem chunkV_eq (b off len i : Nat) : chunkV b off len i = .slice (some ⟨b, off + i * 5, none⟩) (min 64 (len - i)) (min 64 (len - i)) := by
  unfold chunkV
  rw [show ((i : Int) + min 64 ((len - i : Nat) : Int)).toNat - i = min 64 (len - i) by omega]

set_option maxHeartbeats 2000000 in
set_option maxRecDepth 1000000 in
theorem chunk1_any (F : Fence) (hF : F = Fence.wide) (n : Nat) (a : Option Addr) (b off len cap bs bn : Nat) (hab : 0 < len → a = some ⟨b, off, none⟩) (hle : len ≤ cap) (hcap : cap ≤ 9223372036854775807) (hlen : len ≤ 1099511627776) (I : Nat → World → Prop)
    (hIs : ∀ i W, I i W → Blk W bs [.slice a len cap] 36 ∧ Blk W bn [.int .i64 64] 3) (hId : ∀ i W, I i W → I i W.drew)
    (l : Nat) (J : Nat → World → Prop) (Jx : Code → Nat → World → Prop) (W : World) (hJI : ∀ s W, J s W → I s W) (hJ : ∀ s s' W W', J s W → I s' W' → KeepsOthers W W' → J s' W')
    (hY : ∀ st (x : Nat) W1, J st W1 → (x = st ∧ x < len) → YieldAt F (n - 1) Try.prog l #[chunkV b off len x] W1 fun e W' => (e = .returned (.bool true) ∧ J (st + 64) W') ∨ (e = .returned (.bool false) ∧ ∃ c, Jx c (st + 64) W'))
    (h0 : J 0 W) :
    CallsIn F n Try.prog 35 (#[.func (.yield l) #[] #[]] ++ #[.pointer (some ⟨bs, 0, none⟩), .pointer (some ⟨bn, 0, none⟩)]) W fun e W' => (∃ v, e = .returned v) ∧ ((∃ st, (len ≤ st ∧ st % 64 = 0 ∧ st < len + 64) ∧ J st W') ∨ (∃ c st, Jx c st W')) := by
  subst hF
  refine callsIn_of_wp Try.func35 rfl trivial ?_ rfl
  simp only [Try.ntmps35, List.size_toArray, List.length_cons, List.length_nil, Nat.reduceAdd, Nat.reduceSub, Array.replicate_succ, Array.replicate_zero, List.push_toArray, List.append_toArray, List.nil_append, List.cons_append]
  gi_wp2
  gi_loopw [4] (fun s4 wr => ∃ i : Nat, s4 = .int .i64 i ∧ i % 64 = 0 ∧ i < len + 64 ∧ J i wr) (fun s4 wr => len + 64 - (intOf s4).toNat)
  case atStart => exact ⟨0, rfl, rfl, by omega, h0⟩
  case round =>
    obtain ⟨i, rfl, hi, hil, hJ0⟩ := hrel
    obtain ⟨ks, kn⟩ := hIs _ _ (hJI _ _ hJ0)
    have c0 : wr.cell? ⟨bs, 0, none⟩ = some (.slice a len cap) := by rw [ks.cell]; rfl
    have c1 : wr.cell? ⟨bn, 0, none⟩ = some (.int .i64 64) := by rw [kn.cell]; rfl
    by_cases hlt : i < len
    · obtain rfl := hab (by omega)
      have hJd := hJ _ _ _ _ hJ0 (hId _ _ (hJI _ _ hJ0)) (KeepsOthers.drew wr)
      have d0 : wr.drew.cell? ⟨bs, 0, none⟩ = some (.slice (some ⟨b, off, none⟩) len cap) := c0
      have d1 : wr.drew.cell? ⟨bn, 0, none⟩ = some (.int .i64 64) := c1
      gi_wp2_with fail
      obtain ⟨fn, tmps, assign, body, hy, hR⟩ := hY i i wr.drew hJd ⟨rfl, hlt⟩
      unfold chunkV at hy
      gi_region
      all_goals gi_wp2_with fail
      all_goals refine ⟨fun h => (by cases h), ?_⟩
      all_goals refine hR.mono ?_
      all_goals
        rintro e W' (⟨rfl, hj⟩ | ⟨rfl, cc, hj⟩)
        · obtain ⟨ks', kn'⟩ := hIs _ _ (hJI _ _ hj)
          have x0 : W'.cell? ⟨bs, 0, none⟩ = some (.slice (some ⟨b, off, none⟩) len cap) := by rw [ks'.cell]; rfl
          have x1 : W'.cell? ⟨bn, 0, none⟩ = some (.int .i64 64) := by rw [kn'.cell]; rfl
          have hw : wrap64 ((i : Int) + 64) = (i : Int) + 64 := by unfold wrap64; omega
          gi_wp2
          refine ⟨⟨i + 64, by rw [Int.natCast_add]; rfl, by omega, by omega, hj⟩, by simp [intOf]; omega⟩
        · gi_wp2
          refine bodyPost_ret (results_none rfl _ _ _) rfl ?_
          exact ⟨⟨_, rfl⟩, .inr ⟨cc, _, hj⟩⟩
    · gi_wp2
      go_end0
      exact ⟨⟨_, rfl⟩, .inl ⟨i, ⟨by omega, hi, hil⟩, hJ0⟩⟩

end Go.Proofs.Ytficfoedofkhhaa
