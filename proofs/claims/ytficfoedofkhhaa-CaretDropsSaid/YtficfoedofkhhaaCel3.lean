/-
  Layer 12 (cells): New: the cells one by one, and whether two are the same (its first loop).
-/
import Derived.Test.YtficfoedofkhhaaCel2
namespace Go.Proofs.Ytficfoedofkhhaa
open Go.RowKit Go.Mine
open Classical

/-- Cells in memory. -/
structure IsCells (w : World) (a : Option Addr) (len cap : Nat) (l : List CellV) : Prop where
  n : l.length = len
  le : len ≤ cap
  big : cap ≤ maxLen
  ok : ∀ c ∈ l, c.ok
  cells : ∀ (i : Nat) (c : CellV), l[i]? = some c → ∃ b off, a = some ⟨b, off, none⟩ ∧ w.rangeAt b (off + i * 5) c.cs
theorem IsCells.grown {w w' : World} {a : Option Addr} {len cap : Nat} {l : List CellV} (h : IsCells w a len cap l) (m : Mod none_ w w') : IsCells w' a len cap l :=
  ⟨h.n, h.le, h.big, h.ok, fun i c hc => by
    obtain ⟨b, off, e, hr⟩ := h.cells i c hc
    exact ⟨b, off, e, fun j v hv => m.cell (fun e => e) (hr j v hv)⟩⟩

abbrev CellV.id (c : CellV) : Value := .agg #[.int .i64 c.site, .int .i64 c.seq, .int .i64 c.off]
abbrev CellV.name (c : CellV) : Value := .agg #[.int .i64 c.site, .int .i64 c.seq]

/-- A map that counts keys: those of ks, as many as n of them differ. -/
structure Counts (P : Program) (k : TypeId) (w : World) (b : Nat) (ks : List Value) (n : Nat) : Prop where
  ex : ∃ m, IMap P k w b m n ∧ (∀ x, m x ≠ none ↔ x ∈ ks) ∧ ∀ x v, m x = some v → ∃ q : Nat, v = .int .i64 (q : Int) ∧ q ≤ ks.length
  le : n ≤ ks.length
  all : n = ks.length ↔ ks.Nodup
theorem Counts.made (P : Program) (k : TypeId) (w : World) : Counts P k (w.alloc (.map #[] 0)) w.heap.size [] 0 :=
  ⟨⟨_, IMap.made w, fun x => by simp, fun x v h => by cases h⟩, Nat.le_refl _, by simp⟩
theorem Counts.mod {P : Program} {k : TypeId} {S : Nat → Prop} {w w' : World} {b n : Nat} {ks : List Value} (h : Counts P k w b ks n) (M : Mod S w w') (hs : ¬ S b) : Counts P k w' b ks n := by
  obtain ⟨⟨m, hm, r⟩, l, a⟩ := h
  exact ⟨⟨m, hm.mod M hs, r⟩, l, a⟩
theorem Counts.step {ks : List Value} {x : Value} {n : Nat} (hx : x ∈ ks → n ≤ ks.length) (hle : n ≤ ks.length) (hall : n = ks.length ↔ ks.Nodup) :
    (if x ∈ ks then n else n + 1) ≤ (ks ++ [x]).length ∧ ((if x ∈ ks then n else n + 1) = (ks ++ [x]).length ↔ (ks ++ [x]).Nodup) := by
  rw [List.length_append, List.length_singleton]
  by_cases h : x ∈ ks
  · rw [if_pos h]
    refine ⟨by omega, ⟨fun e => by omega, fun e => ?_⟩⟩
    rw [List.nodup_append] at e
    exact absurd rfl (e.2.2 x h x (by simp))
  · rw [if_neg h]
    refine ⟨by omega, ⟨fun e => ?_, fun e => ?_⟩⟩
    · rw [List.nodup_append]
      refine ⟨hall.1 (by omega), by simp, fun a ha b hb => ?_⟩
      rw [List.mem_singleton.1 hb]
      intro e2; rw [e2] at ha; exact h ha
    · rw [List.nodup_append] at e
      rw [hall.2 e.1]

/-- 'm[k]++', as the region that draws asks: what each operation answers, in either order. -/
theorem Counts.incr {P : Program} {k t e : TypeId} {w : World} {b n : Nat} {ks : List Value} (h : Counts P k w b ks n) (K : Maps.Keyed P k) (ht : P.underlying t = some (.map k e)) (hz : ∀ w, (zeroValue e).run P w = .ok (.int .i64 0) w) {x : Value} (hx : isKey P k x) :
    ∃ (q s : Nat) (w1 w2 : World), q ≤ ks.length ∧ (Instr.lookup t (.map (some b)) x false).run P w = .ok (.int .i64 (q : Int)) w ∧ (Instr.mapEntry t (.map (some b)) x).run P w = .ok (.tuple #[.int .i64 (q : Int), .int .i64 (s : Int)]) w1 ∧
      (Instr.lookup t (.map (some b)) x false).run P w1 = .ok (.int .i64 (q : Int)) w1 ∧ (Instr.entryStore t (.map (some b)) (.int .i64 (s : Int)) (.int .i64 ((q : Int) + 1))).run P w1 = .ok () w2 ∧
      Mod (one b) w w1 ∧ Mod (one b) w w2 ∧ Counts P k w2 b (ks ++ [x]) (if x ∈ ks then n else n + 1) := by
  obtain ⟨⟨m, hm, hmem, hval⟩, hle, hall⟩ := h
  obtain ⟨q, hq, hql⟩ : ∃ q : Nat, (m x).getD (.int .i64 0) = .int .i64 (q : Int) ∧ q ≤ ks.length := by
    cases hmx : m x with
    | none => exact ⟨0, rfl, Nat.zero_le _⟩
    | some v =>
      obtain ⟨q, rfl, hql⟩ := hval x v hmx
      exact ⟨q, rfl, hql⟩
  have h1 := hm.lookup K ht (hz w) hx false
  obtain ⟨s, w1, h2, hm1, M1, E1⟩ := hm.entry K ht (hz w) hx
  have h3 := hm1.lookup K ht (hz w1) hx false
  obtain ⟨w2, h4, hm2, M2⟩ := hm1.store (t := t) E1 (.int .i64 ((q : Int) + 1))
  rw [hq] at h1 h2
  have hp : (putM m x ((m x).getD (.int .i64 0))) x = some (.int .i64 (q : Int)) := by rw [putM_same, hq]
  rw [hp] at h3
  have hne : (m x = none) ↔ ¬ x ∈ ks := by
    rw [← hmem x]; exact ⟨fun e h => h e, fun h => Classical.byContradiction h⟩
  have hn : (if m x = none then n + 1 else n) = (if x ∈ ks then n else n + 1) := by
    by_cases hk : x ∈ ks
    · rw [if_pos hk, if_neg (fun e => hne.1 e hk)]
    · rw [if_neg hk, if_pos (hne.2 hk)]
  rw [hn] at hm2
  obtain ⟨l2, a2⟩ := Counts.step (x := x) (fun _ => hle) hle hall
  refine ⟨q, s, w1, w2, hql, h1, h2, h3, h4, M1, M1.trans M2, ⟨⟨_, hm2, fun y => ?_, fun y v hy => ?_⟩, l2, a2⟩⟩
  · by_cases hyx : y = x
    · subst hyx
      rw [putM_same]
      simp
    · rw [putM_other hyx, putM_other hyx, hmem y, List.mem_append, List.mem_singleton]
      exact ⟨.inl, fun h => h.elim id (fun e => absurd e hyx)⟩
  · rw [List.length_append, List.length_singleton]
    by_cases hyx : y = x
    · subst hyx
      rw [putM_same] at hy
      cases hy
      exact ⟨q + 1, by simp, by omega⟩
    · rw [putM_other hyx, putM_other hyx] at hy
      obtain ⟨q2, e, hq2⟩ := hval y v hy
      exact ⟨q2, e, by omega⟩

end Go.Proofs.Ytficfoedofkhhaa
