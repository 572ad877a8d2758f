/-
  A map that the program has made (no program here), seen as a function: which value each key has, and how many keys there are.
-/
import Derived.Test.YtficfoedofkhhaaBase
import Derived.Maps.Own
import Derived.DeepKeys4
namespace Go.Mine
open Go.MapKept Go.Maps
open Go.ChangeMaps (setBlock heap_setBlock_same heap_setBlock_other modify_eq_set)
open Classical

def isKey (P : Program) (k : TypeId) (v : Value) : Prop := ∃ q, keyOf P k v = some q

/-- Block b is a map: m tells the value of each key; n keys have one. -/
def IMap (P : Program) (k : TypeId) (w : World) (b : Nat) (m : Value → Option Value) (n : Nat) : Prop :=
  ∃ es clock, w.heap[b]? = some (.map es clock) ∧ Stamped es clock ∧ es.size = n ∧ (∀ e ∈ es.toList, isKey P k e.key ∧ m e.key = some e.val) ∧ ∀ x, m x ≠ none → ∃ e ∈ es.toList, e.key = x

noncomputable def putM (m : Value → Option Value) (x v : Value) : Value → Option Value := fun y => if y = x then some v else m y
noncomputable def delM (m : Value → Option Value) (x : Value) : Value → Option Value := fun y => if y = x then none else m y
theorem putM_same (m : Value → Option Value) (x v : Value) : putM m x v x = some v := if_pos rfl
theorem putM_other {m : Value → Option Value} {x v y : Value} (h : y ≠ x) : putM m x v y = m y := if_neg h

variable {P : Program} {k t e : TypeId} {w w' : World} {b n : Nat} {m : Value → Option Value}

theorem IMap.made (w : World) : IMap P k (w.alloc (.map #[] 0)) w.heap.size (fun _ => none) 0 :=
  ⟨#[], 0, (MapKept.heap_alloc w _).1, stamped_empty 0, rfl, by simp, fun x h => absurd rfl h⟩
theorem IMap.lt (h : IMap P k w b m n) : b < w.heap.size := by
  obtain ⟨es, clock, hb, _⟩ := h; exact lt_of_block hb
theorem IMap.mod {S : Nat → Prop} (h : IMap P k w b m n) (M : Mod S w w') (hs : ¬ S b) : IMap P k w' b m n := by
  obtain ⟨es, clock, hb, r⟩ := h; exact ⟨es, clock, M.blk hs hb, r⟩
theorem IMap.drew (h : IMap P k w b m n) : IMap P k w.drew b m n := h
theorem IMap.key (h : IMap P k w b m n) {x : Value} (hx : m x ≠ none) : isKey P k x := by
  obtain ⟨es, clock, hb, _, _, h1, h2⟩ := h
  obtain ⟨e, he, rfl⟩ := h2 x hx
  exact (h1 e he).1

/-- What the search finds. -/
theorem IMap.find (K : Keyed P k) {es : Array MapEntry} (h1 : ∀ e ∈ es.toList, isKey P k e.key ∧ m e.key = some e.val) (h2 : ∀ x, m x ≠ none → ∃ e ∈ es.toList, e.key = x) {x : Value} (hx : isKey P k x) (w : World) :
    ((Instr.findKey k x es.toList).run P w = .ok none w ∧ (∀ e ∈ es.toList, e.key ≠ x) ∧ m x = none) ∨ ∃ j e0, (Instr.findKey k x es.toList).run P w = .ok (some (j, e0.val)) w ∧ es.toList[j]? = some e0 ∧ e0.key = x ∧ m x = some e0.val := by
  obtain ⟨q, hq⟩ := hx
  rcases K.find w hq es.toList (fun e he => (h1 e he).1) with ⟨a, c⟩ | ⟨j, e0, a, c, d⟩
  · refine .inl ⟨a, c, ?_⟩
    by_cases hm : m x = none
    · exact hm
    · obtain ⟨e, he, hk⟩ := h2 x hm
      exact absurd hk (c e he)
  · exact .inr ⟨j, e0, a, c, d, by rw [← d]; exact (h1 e0 (List.mem_of_getElem? c)).2⟩

theorem IMap.lookup (h : IMap P k w b m n) (K : Keyed P k) (ht : P.underlying t = some (.map k e)) {z : Value} (hz : (zeroValue e).run P w = .ok z w) {x : Value} (hx : isKey P k x) (c : Bool) :
    (Instr.lookup t (.map (some b)) x c).run P w = .ok (if c then .tuple #[(m x).getD z, .bool (m x).isSome] else (m x).getD z) w := by
  obtain ⟨es, clock, hb, _, _, h1, h2⟩ := h
  obtain ⟨q, hq⟩ := hx
  rcases IMap.find K h1 h2 ⟨q, hq⟩ w with ⟨a, _, d⟩ | ⟨j, e0, a, _, _, d⟩
  · simp [Instr.lookup, run_underlying ht, MapKept.run_getObj_map hb, K.check w _ hq, a, hz, Result.andThen, d]
  · simp [Instr.lookup, run_underlying ht, MapKept.run_getObj_map hb, K.check w _ hq, a, Result.andThen, d]

theorem setBlock_mod {es : Array MapEntry} {clock : Nat} (hb : w.heap[b]? = some (.map es clock)) (o : Obj) : Mod (one b) w (setBlock w b o) :=
  ⟨rfl, rfl, rfl, by simp [setBlock], fun k _ hk => heap_setBlock_other hb _ (fun e => hk e)⟩

/-- One entry turned, its key kept. -/
theorem IMap.turn {es : Array MapEntry} {clock : Nat} (hb : w.heap[b]? = some (.map es clock)) (hst : Stamped es clock) (h1 : ∀ e ∈ es.toList, isKey P k e.key ∧ m e.key = some e.val) (h2 : ∀ x, m x ≠ none → ∃ e ∈ es.toList, e.key = x)
    {j : Nat} {e0 : MapEntry} {x v : Value} (hj : es.toList[j]? = some e0) (hk : e0.key = x) (f : MapEntry → MapEntry) (hf : ∀ e, (f e).born = e.born) (hfk : (f e0).key = x) (hfv : (f e0).val = v) :
    IMap P k (setBlock w b (.map (es.modify j f) clock)) b (putM m x v) es.size := by
  have hj' : es[j]? = some e0 := by simpa using hj
  have hjl : j < es.toList.length := (List.getElem?_eq_some_iff.1 hj).1
  have hlist : (es.modify j f).toList = es.toList.set j (f e0) := by rw [Array.toList_modify, modify_eq_set _ _ _ _ hj]
  have hx : isKey P k x := by rw [← hk]; exact (h1 e0 (List.mem_of_getElem? hj)).1
  refine ⟨_, clock, heap_setBlock_same hb _, stamped_modify hst j _ (fun _ _ => hf _) (fun e' _ he' => by rw [hj'] at he'; cases he'; rw [hfk, hk]), Array.size_modify, ?_, ?_⟩
  · intro y hy
    rw [hlist] at hy
    obtain ⟨i, hi, rfl⟩ := List.getElem_of_mem hy
    rw [List.getElem_set]
    split
    · exact ⟨by rw [hfk]; exact hx, by rw [hfk, hfv]; exact putM_same ..⟩
    · rename_i hne
      rw [List.length_set] at hi
      have hin : es.toList[i] ∈ es.toList := List.getElem_mem _
      refine ⟨(h1 _ hin).1, ?_⟩
      rw [putM_other ?_]
      · exact (h1 _ hin).2
      · intro heq
        have hnd := hst.2.2
        rw [List.nodup_iff_pairwise_ne, List.pairwise_iff_getElem] at hnd
        have hkj : es.toList[j].key = x := by have := (List.getElem?_eq_some_iff.1 hj).2; rw [this]; exact hk
        rcases Nat.lt_or_gt_of_ne hne with hlt | hgt
        · exact hnd j i (by simpa using hjl) (by simpa using hi) hlt (by simp; simp at hkj heq; rw [hkj, heq])
        · exact hnd i j (by simpa using hi) (by simpa using hjl) hgt (by simp; simp at hkj heq; rw [hkj, heq])
  · intro y hy
    by_cases hyx : y = x
    · exact ⟨f e0, by rw [hlist]; exact List.mem_set hjl _, by rw [hfk, hyx]⟩
    · rw [putM_other hyx] at hy
      obtain ⟨e, he, hke⟩ := h2 y hy
      refine ⟨e, ?_, hke⟩
      rw [hlist]
      obtain ⟨i, hi, rfl⟩ := List.getElem_of_mem he
      have hne : j ≠ i := by
        intro e1
        subst e1
        have := (List.getElem?_eq_some_iff.1 hj).2
        rw [this, hk] at hke
        exact hyx hke.symm
      rw [List.mem_iff_getElem]
      exact ⟨i, by rw [List.length_set]; exact hi, by rw [List.getElem_set_ne hne]⟩
/-- A new entry. -/
theorem IMap.push {es : Array MapEntry} {clock : Nat} (hb : w.heap[b]? = some (.map es clock)) (hst : Stamped es clock) (h1 : ∀ e ∈ es.toList, isKey P k e.key ∧ m e.key = some e.val) (h2 : ∀ x, m x ≠ none → ∃ e ∈ es.toList, e.key = x)
    {x : Value} (v : Value) (hx : isKey P k x) (hc : ∀ e ∈ es.toList, e.key ≠ x) :
    IMap P k (setBlock w b (.map (es.push ⟨x, v, clock⟩) (clock + 1))) b (putM m x v) (es.size + 1) := by
  refine ⟨es.push ⟨x, v, clock⟩, clock + 1, heap_setBlock_same hb _, stamped_push hst hc, by simp, ?_, ?_⟩
  · intro y hy
    simp only [Array.toList_push, List.mem_append, List.mem_singleton] at hy
    rcases hy with hy | rfl
    · exact ⟨(h1 y hy).1, by rw [putM_other (hc y hy)]; exact (h1 y hy).2⟩
    · exact ⟨hx, putM_same ..⟩
  · intro y hy
    by_cases hyx : y = x
    · exact ⟨⟨x, v, clock⟩, by simp, hyx.symm⟩
    · rw [putM_other hyx] at hy
      obtain ⟨e, he, hk⟩ := h2 y hy
      exact ⟨e, by simp [he], hk⟩

theorem IMap.update (h : IMap P k w b m n) (K : Keyed P k) (ht : P.underlying t = some (.map k e)) {x v : Value} (hx : isKey P k x) :
    ∃ w', (Instr.mapUpdate t (.map (some b)) x v).run P w = .ok () w' ∧ IMap P k w' b (putM m x v) (if m x = none then n + 1 else n) ∧ Mod (one b) w w' := by
  obtain ⟨es, clock, hb, hst, rfl, h1, h2⟩ := h
  obtain ⟨q, hq⟩ := hx
  rcases IMap.find K h1 h2 ⟨q, hq⟩ w with ⟨a, c, d⟩ | ⟨j, e0, a, hj, hk, d⟩
  · refine ⟨setBlock w b (.map (es.push ⟨x, v, clock⟩) (clock + 1)), ?_, by rw [if_pos d]; exact IMap.push hb hst h1 h2 v ⟨q, hq⟩ c, setBlock_mod hb _⟩
    simp [Instr.mapUpdate, run_underlying ht, MapKept.run_getObj_map hb, K.check w false hq, a, MapKept.run_setObj_map _ hb, Result.andThen, setBlock]
  · have hj' : es[j]? = some e0 := by simpa using hj
    refine ⟨setBlock w b (.map (es.modify j (fun e' => { e' with key := x, val := v })) clock), ?_, by rw [if_neg (by rw [d]; simp)]; exact IMap.turn hb hst h1 h2 hj hk _ (fun _ => rfl) rfl rfl, setBlock_mod hb _⟩
    simp [Instr.mapUpdate, run_underlying ht, MapKept.run_getObj_map hb, K.check w false hq, a, MapKept.run_setObj_map _ hb, Result.andThen, setBlock, hj', hk, K.stays w hq]

/-- The entry born at s has the key x. -/
def IEnt (w : World) (b : Nat) (s : Nat) (x : Value) : Prop := ∃ es clock, w.heap[b]? = some (.map es clock) ∧ ∃ e ∈ es.toList, e.key = x ∧ e.born = s

theorem IMap.entry (h : IMap P k w b m n) (K : Keyed P k) (ht : P.underlying t = some (.map k e)) {z : Value} (hz : (zeroValue e).run P w = .ok z w) {x : Value} (hx : isKey P k x) :
    ∃ (s : Nat) (w' : World), (Instr.mapEntry t (.map (some b)) x).run P w = .ok (.tuple #[(m x).getD z, goInt s]) w' ∧ IMap P k w' b (putM m x ((m x).getD z)) (if m x = none then n + 1 else n) ∧ Mod (one b) w w' ∧ IEnt w' b s x := by
  obtain ⟨es, clock, hb, hst, rfl, h1, h2⟩ := h
  obtain ⟨q, hq⟩ := hx
  rcases IMap.find K h1 h2 ⟨q, hq⟩ w with ⟨a, c, d⟩ | ⟨j, e0, a, hj, hk, d⟩
  · refine ⟨clock, setBlock w b (.map (es.push ⟨x, z, clock⟩) (clock + 1)), ?_, by rw [if_pos d, d]; exact IMap.push hb hst h1 h2 z ⟨q, hq⟩ c, setBlock_mod hb _, _, _, heap_setBlock_same hb _, ⟨x, z, clock⟩, by simp, rfl, rfl⟩
    simp [Instr.mapEntry, run_underlying ht, MapKept.run_getObj_map hb, K.check w false hq, a, MapKept.run_setObj_map _ hb, Result.andThen, setBlock, hz, d]
  · have hj' : es[j]? = some e0 := by simpa using hj
    have hjl : j < es.toList.length := (List.getElem?_eq_some_iff.1 hj).1
    refine ⟨e0.born, setBlock w b (.map (es.modify j (fun e' => { e' with key := x })) clock), ?_, by rw [if_neg (by rw [d]; simp), d]; exact IMap.turn hb hst h1 h2 hj hk _ (fun _ => rfl) rfl rfl, setBlock_mod hb _, _, _, heap_setBlock_same hb _, { e0 with key := x }, ?_, rfl, rfl⟩
    · simp [Instr.mapEntry, run_underlying ht, MapKept.run_getObj_map hb, K.check w false hq, a, MapKept.run_setObj_map _ hb, Result.andThen, setBlock, hj', hk, K.stays w hq, d]
    · rw [Array.toList_modify, modify_eq_set _ _ _ _ hj]; exact List.mem_set hjl _

theorem IMap.store {s : Nat} (h : IMap P k w b m n) {x : Value} (hs : IEnt w b s x) (v : Value) :
    ∃ w', (Instr.entryStore t (.map (some b)) (goInt s) v).run P w = .ok () w' ∧ IMap P k w' b (putM m x v) n ∧ Mod (one b) w w' := by
  obtain ⟨es, clock, hb, hst, rfl, h1, h2⟩ := h
  obtain ⟨es', clock', hb', e1, he1, hk1, hs1⟩ := hs
  rw [hb] at hb'
  cases hb'
  have hfind : ∃ i, es.findIdx? (fun e => (e.born : Int) == (s : Int)) = some i := by
    rw [← Option.isSome_iff_exists, Array.findIdx?_isSome]
    rw [Array.any_eq_true']
    exact ⟨e1, by simpa using he1, by simp [hs1]⟩
  obtain ⟨i, hi⟩ := hfind
  obtain ⟨hil, hp⟩ := Array.findIdx?_eq_some_iff_getElem.1 hi
  have hbi : es[i].born = s := by have h := hp.1; simp at h; omega
  have hj : es.toList[i]? = some es[i] := by simp [hil]
  have hk : es[i].key = x := by
    obtain ⟨q, hq, hqe⟩ := List.getElem_of_mem he1
    have hnd := hst.2.1
    rw [List.nodup_iff_pairwise_ne, List.pairwise_iff_getElem] at hnd
    have hqs : q < es.size := by simpa using hq
    have hqb : es[q].born = s := by have : es.toList[q] = es[q] := by simp
                                    rw [← this, hqe]; exact hs1
    have : q = i := by
      rcases Nat.lt_trichotomy q i with hlt | rfl | hgt
      · have := hnd q i (by simpa using hqs) (by simpa using hil) hlt; simp [hqb, hbi] at this
      · rfl
      · have := hnd i q (by simpa using hil) (by simpa using hqs) hgt; simp [hqb, hbi] at this
    subst this
    rw [← hk1, ← hqe]
    simp
  refine ⟨setBlock w b (.map (es.modify i (fun e' => { e' with val := v })) clock), ?_, IMap.turn hb hst h1 h2 hj hk _ (fun _ => rfl) hk rfl, setBlock_mod hb _⟩
  simp [Instr.entryStore, MapKept.run_getObj_map hb, MapKept.run_setObj_map _ hb, Result.andThen, setBlock, goInt, asInt, asIntOf, hi]
theorem IEnt.mod {S : Nat → Prop} {s : Nat} {x : Value} (h : IEnt w b s x) (M : Mod S w w') (hs : ¬ S b) : IEnt w' b s x := by
  obtain ⟨es, clock, hb, r⟩ := h; exact ⟨es, clock, M.blk hs hb, r⟩

theorem IMap.len (h : IMap P k w b m n) (ht : P.underlying t = some (.map k e)) (ty : TypeId) : (Builtin.len_ #[t] ty #[.map (some b)]).run P w = .ok (goInt n) w := by
  obtain ⟨es, clock, hb, _, rfl, _⟩ := h
  simp [Builtin.len_, run_underlying ht, MapKept.run_getObj_map hb]

end Go.Mine
