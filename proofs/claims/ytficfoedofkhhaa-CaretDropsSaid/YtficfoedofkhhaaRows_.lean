/-
  Rows of elements of k cells each, as lists: over no program.
-/
import Derived.Test.YtficfoedofkhhaaBase
import Derived.Deep.MidRow
namespace Go.Mine
open Go.RowKit

/-- What may change behind the second step is of the first's, or new. -/
theorem Mod.transIn {S T : Nat → Prop} {a b c : World} (h : Mod S a b) (k : Mod T b c) (hT : ∀ x, x < a.heap.size → T x → S x) : Mod S a c :=
  ⟨k.os.trans h.os, k.tape.trans h.tape, k.output.trans h.output, Nat.le_trans h.size k.size, fun i hi hs => (k.block i (Nat.lt_of_lt_of_le hi h.size) (fun t => hs (hT i hi t))).trans (h.block i hi hs)⟩

section
variable {α : Type} {f : α → List Value} {k : Nat}

/-- The cells of the elements, one behind the other. -/
def flat (f : α → List Value) (xs : List α) : List Value := xs.flatMap f

@[simp] theorem flat_nil : flat f [] = [] := rfl
@[simp] theorem flat_cons (x : α) (xs : List α) : flat f (x :: xs) = f x ++ flat f xs := by simp [flat]
@[simp] theorem flat_append (xs ys : List α) : flat f (xs ++ ys) = flat f xs ++ flat f ys := by simp [flat]

theorem flat_length (hk : ∀ x, (f x).length = k) (xs : List α) : (flat f xs).length = xs.length * k := by
  induction xs with
  | nil => simp
  | cons x r ih => simp [ih, hk, Nat.succ_mul]; omega

theorem flat_get (hk : ∀ x, (f x).length = k) : ∀ (xs : List α) (i j : Nat) (x : α), xs[i]? = some x → j < k → (flat f xs)[i * k + j]? = (f x)[j]?
  | [], i, j, x, h, _ => by simp at h
  | y :: r, 0, j, x, h, hj => by
    simp at h; subst h
    rw [flat_cons, Nat.zero_mul, Nat.zero_add, List.getElem?_append_left (by rw [hk]; exact hj)]
  | y :: r, i + 1, j, x, h, hj => by
    rw [flat_cons, List.getElem?_append_right (by rw [hk, Nat.succ_mul]; omega), hk, show (i + 1) * k + j - k = i * k + j from by rw [Nat.succ_mul]; omega]
    exact flat_get hk r i j x (by simpa using h) hj

theorem flat_take (hk : ∀ x, (f x).length = k) (xs : List α) (i : Nat) : (flat f xs).take (i * k) = flat f (xs.take i) := by
  induction xs generalizing i with
  | nil => simp
  | cons x r ih =>
    cases i with
    | zero => simp
    | succ i =>
      rw [flat_cons, List.take_succ_cons, flat_cons, List.take_append, hk, List.take_of_length_le (by rw [hk, Nat.succ_mul]; omega), show (i + 1) * k - k = i * k from by rw [Nat.succ_mul]; omega, ih]

theorem flat_drop (hk : ∀ x, (f x).length = k) (xs : List α) (i : Nat) : (flat f xs).drop (i * k) = flat f (xs.drop i) := by
  induction xs generalizing i with
  | nil => simp
  | cons x r ih =>
    cases i with
    | zero => simp
    | succ i =>
      rw [flat_cons, List.drop_succ_cons, List.drop_append, hk, List.drop_eq_nil_of_le (by rw [hk, Nat.succ_mul]; omega), show (i + 1) * k - k = i * k from by rw [Nat.succ_mul]; omega, ih, List.nil_append]

theorem flat_set (hk : ∀ x, (f x).length = k) (xs : List α) (more : List Value) (i : Nat) (y : α) (hi : i < xs.length) :
    (flat f xs ++ more).take (i * k) ++ f y ++ (flat f xs ++ more).drop (i * k + k) = flat f (xs.set i y) ++ more := by
  have hl := flat_length hk xs
  have h1 : i * k + k ≤ xs.length * k := by rw [← Nat.succ_mul]; exact Nat.mul_le_mul_right k hi
  rw [List.take_append_of_le_length (by omega), List.drop_append_of_le_length (by omega), flat_take hk, ← Nat.succ_mul, flat_drop hk]
  rw [List.set_eq_take_append_cons_drop, if_pos hi]
  simp [Nat.succ_eq_add_one]

/-- The i-th element, read out of a block that holds the row from its head on. -/
theorem Blk.elem {w : World} {g : Nat} {t : TypeId} {xs : List α} {more : List Value} (hk : ∀ x, (f x).length = k) (h : Blk w g (flat f xs ++ more) t) (i j : Nat) (x : α) (hx : xs[i]? = some x) (hj : j < k) :
    w.cell? ⟨g, i * k + j, none⟩ = (f x)[j]? := by
  have hi := (List.getElem?_eq_some_iff.1 hx).1
  have h1 : i * k + k ≤ xs.length * k := by rw [← Nat.succ_mul]; exact Nat.mul_le_mul_right k hi
  rw [h.cell, List.getElem?_append_left (by rw [flat_length hk]; omega), flat_get hk xs i j x hx hj]

theorem Blk.range {w : World} {g : Nat} {t : TypeId} {xs : List α} {more : List Value} (hk : ∀ x, (f x).length = k) (h : Blk w g (flat f xs ++ more) t) (i : Nat) (x : α) (hx : xs[i]? = some x) : w.rangeAt g (i * k) (f x) := by
  intro j v hv
  have hj : j < k := by have := (List.getElem?_eq_some_iff.1 hv).1; rw [hk] at this; exact this
  rw [Blk.elem hk h i j x hx hj, hv]

theorem Blk.there {w : World} {g : Nat} {t : TypeId} {cs : List Value} (h : Blk w g cs t) (o n : Nat) (hn : o + n ≤ cs.length) : w.there g o n := fun j hj => by
  refine ⟨?_, h.frozen _⟩
  rw [h.cell, List.getElem?_eq_getElem (by omega)]; rfl

/-- The i-th element written over. -/
theorem Blk.put {w : World} {g : Nat} {t : TypeId} {xs : List α} {more : List Value} (hk : ∀ x, (f x).length = k) (h : Blk w g (flat f xs ++ more) t) (i : Nat) (hi : i < xs.length) (y : α) :
    Blk (w.setCells g (i * k) (f y)) g (flat f (xs.set i y) ++ more) t ∧ Mod (one g) w (w.setCells g (i * k) (f y)) := by
  have h1 : i * k + k ≤ xs.length * k := by rw [← Nat.succ_mul]; exact Nat.mul_le_mul_right k hi
  obtain ⟨a, b⟩ := Blk.setCells (f y) (i * k) w _ h (by rw [hk, List.length_append, flat_length hk]; omega)
  rw [hk, flat_set hk xs more i y hi] at a
  exact ⟨a, b⟩

end

/-- The k cells of block g from o on, whatever they are. -/
def cut (w : World) (g o k : Nat) : List Value := (List.range k).map fun j => (w.cell? ⟨g, o + j, none⟩).getD undef

theorem cut_of_range {w : World} {g o k : Nat} {cs : List Value} (h : w.rangeAt g o cs) (hk : cs.length = k) : cut w g o k = cs := by
  subst hk
  apply List.ext_getElem?
  intro j
  unfold cut
  by_cases hj : j < cs.length
  · rw [List.getElem?_map, List.getElem?_range hj, Option.map_some, h j cs[j] (by simp [hj]), List.getElem?_eq_getElem hj]; rfl
  · rw [List.getElem?_eq_none (by simpa using hj), List.getElem?_eq_none (by omega)]

theorem cut_drew (w : World) (g o k : Nat) : cut w.drew g o k = cut w g o k := rfl
theorem setCells_drew (w : World) (g o : Nat) (cs : List Value) : w.drew.setCells g o cs = (w.setCells g o cs).drew := by
  induction cs generalizing w o with
  | nil => rfl
  | cons v r ih => simp only [World.setCells]; rw [show w.drew.setCell ⟨g, o, none⟩ v = (w.setCell ⟨g, o, none⟩ v).drew from rfl]; exact ih _ _

theorem rangeAt_cut {w : World} {g o k : Nat} (h : w.there g o k) : w.rangeAt g o (cut w g o k) := by
  intro j v hv
  unfold cut at hv
  have hj : j < k := by have := (List.getElem?_eq_some_iff.1 hv).1; simpa using this
  rw [List.getElem?_map, List.getElem?_range hj, Option.map_some] at hv
  obtain ⟨u, hu⟩ := Option.isSome_iff_exists.1 (h j hj).1
  rw [hu] at hv ⊢
  exact hv

/-- The load and the store of a whole struct, behind names that the walk does not open. -/
def ldRow (T : TypeId) (v : Value) : Sem Value := Instr.loadAt T v
def stRow (T : TypeId) (p v : Value) : Sem Unit := Instr.storeAt T p v

theorem execOp_ldRow (T : TypeId) (ρ : Operand → Value) (dst : Option Tmp) (x : Operand) (ty : TypeId) (pos : String) (after : Array Edge) (guard : Option (Nat × Bool)) :
    execOp ρ { dst, op := .load T x, type := ty, pos, after, guard } = (do pure (.value (← ldRow T (ρ x)))) := rfl
theorem execOp_stRow (T : TypeId) (ρ : Operand → Value) (dst : Option Tmp) (x y : Operand) (ty : TypeId) (pos : String) (after : Array Edge) (guard : Option (Nat × Bool)) :
    execOp ρ { dst, op := .store T x y, type := ty, pos, after, guard } = (do stRow T (ρ x) (ρ y); pure .skip) := rfl

theorem run_ldRow {P : Program} {T : TypeId} {k : Nat} {fs : Array Field} (hu : P.underlying T = some (.struct fs)) (hi : (P.info? T).map (·.size) = some k) (w : World) (g o : Nat) (h : w.there g o k) :
    (ldRow T (.pointer (some ⟨g, o, none⟩))).run P w = .ok (.agg (cut w g o k).toArray) w :=
  run_loadAt_mid w g o _ (cut w g o k) _ (rangeAt_cut h) hu rfl (by simpa [cut] using hi)
theorem run_stRow {P : Program} {T : TypeId} {k : Nat} (hi : (P.info? T).map (·.size) = some k) (w : World) (g o : Nat) (cs : List Value) (hk : cs.length = k) (h1 : ∀ v ∈ cs, v.oneCell' = true) (h : w.there g o k) :
    (stRow T (.pointer (some ⟨g, o, none⟩)) (.agg cs.toArray)).run P w = .ok () (w.setCells g o cs) := by
  subst hk
  have := run_storeAt_mid (P := P) w g o T cs.toArray (by simpa using h) (by simpa using hi) (all_oneCell_toArray h1)
  simpa [stRow] using this

/-- A struct that was just made, written whole, read whole. -/
theorem setCells_alloc_new (w : World) (zs : Array Value) (T : TypeId) (cs : List Value) (h : zs.size = cs.length) : (w.alloc (.cells zs T)).setCells w.heap.size 0 cs = w.alloc (.cells cs.toArray T) := by
  have hb : Blk (w.alloc (.cells zs T)) w.heap.size zs.toList T := heap_alloc_new w _
  obtain ⟨h1, h2⟩ := Blk.setCells cs 0 _ _ hb (by simp [h])
  have e1 : zs.toList.take 0 ++ cs ++ zs.toList.drop (0 + cs.length) = cs := by
    rw [List.take_zero, List.nil_append, List.drop_eq_nil_of_le (by simp [h]), List.append_nil]
  rw [e1] at h1
  have hsz : ∀ (vs : List Value) (o : Nat) (w : World) (g : Nat), (w.setCells g o vs).heap.size = w.heap.size := by
    intro vs
    induction vs with
    | nil => intro o w g; rfl
    | cons v r ih => intro o w g; simp only [World.setCells]; rw [ih]; simp [World.setCell]
  have hother : ∀ (vs : List Value) (o : Nat) (w : World) (g : Nat), (w.setCells g o vs).drawn = w.drawn ∧ (w.setCells g o vs).tape = w.tape ∧ (w.setCells g o vs).os = w.os ∧ (w.setCells g o vs).output = w.output := by
    intro vs
    induction vs with
    | nil => intro o w g; exact ⟨rfl, rfl, rfl, rfl⟩
    | cons v r ih => intro o w g; simp only [World.setCells]; exact ih _ _ _
  obtain ⟨d1, d2, d3, d4⟩ := hother cs 0 (w.alloc (.cells zs T)) w.heap.size
  have hheap : ((w.alloc (.cells zs T)).setCells w.heap.size 0 cs).heap = (w.alloc (.cells cs.toArray T)).heap := by
    apply Array.ext_getElem?
    intro i
    by_cases hi : i = w.heap.size
    · subst hi
      have : (w.alloc (.cells cs.toArray T)).heap[w.heap.size]? = some (.cells cs.toArray T) := heap_alloc_new w _
      rw [this]; exact h1
    · by_cases hlt : i < w.heap.size
      · rw [h2.block i (by simp; omega) hi, Below.heap_alloc w _ i hlt, Below.heap_alloc w _ i hlt]
      · rw [Array.getElem?_eq_none (by rw [hsz]; simp; omega), Array.getElem?_eq_none (by simp; omega)]
  have hx : ∀ A C : World, A.heap = C.heap → A.drawn = C.drawn → A.tape = C.tape → A.os = C.os → A.output = C.output → A = C := by
    intro A C e1 e2 e3 e4 e5
    cases A; cases C
    simp only at e1 e2 e3 e4 e5
    subst e1 e2 e3 e4 e5; rfl
  exact hx _ _ hheap d1 d2 d3 d4

theorem there_alloc_new (w : World) (cs : Array Value) (T : TypeId) (k : Nat) (h : k ≤ cs.size) : (w.alloc (.cells cs T)).there w.heap.size 0 k :=
  Blk.there (t := T) (cs := cs.toList) (heap_alloc_new w _) 0 k (by simpa using h)
theorem cut_alloc_new (w : World) (cs : List Value) (T : TypeId) (k : Nat) (h : cs.length = k) : cut (w.alloc (.cells cs.toArray T)) w.heap.size 0 k = cs := by
  refine cut_of_range (fun j v hv => ?_) h
  have hb : Blk (w.alloc (.cells cs.toArray T)) w.heap.size cs T := heap_alloc_new w _
  rw [Nat.zero_add, hb.cell]; exact hv
theorem there_alloc_old (w : World) (o : Obj) (g off k : Nat) (h : w.there g off k) : (w.alloc o).there g off k := World.there_alloc h o
theorem cut_alloc_old (w : World) (o : Obj) (g off k : Nat) (h : g < w.heap.size) : cut (w.alloc o) g off k = cut w g off k := by
  unfold cut
  apply List.map_congr_left
  intro j _
  rw [World.cell?_alloc_lt w o _ h]

/-- A struct's cells laid into a row: as the walk leaves it. -/
theorem fold_set_from (cs : List Value) : ∀ (k off : Nat) (zs : List Value), off + k + cs.length ≤ zs.length →
    (cs.zipIdx k).foldl (fun (a : Array Value) x => a.setIfInBounds (off + x.2) x.1) zs.toArray = (zs.take (off + k) ++ cs ++ zs.drop (off + k + cs.length)).toArray := by
  induction cs with
  | nil => intro k off zs _; simp
  | cons v r ih =>
    intro k off zs h
    simp only [List.length_cons] at h
    simp only [List.zipIdx_cons, List.foldl_cons, List.setIfInBounds_toArray]
    rw [ih (k + 1) off _ (by simp; omega)]
    congr 1
    rw [List.take_set, List.drop_set, if_pos (by omega)]
    rw [show off + (k + 1) = off + k + 1 by omega, List.take_succ_eq_append_getElem (by omega), List.set_append_right _ _ (by simp; omega)]
    simp [show min (off + k) zs.length = off + k by omega]
    congr 1; omega
theorem fold_set_whole (zs : List Value) (cs : List Value) (h : zs.length = cs.length) :
    cs.zipIdx.foldl (fun (a : Array Value) x => a.setIfInBounds x.2 x.1) zs.toArray = cs.toArray := by
  have := fold_set_from cs 0 0 zs (by omega)
  simp only [Nat.zero_add, List.take_zero, List.nil_append] at this
  rw [this, List.drop_eq_nil_of_le (by omega), List.append_nil]
theorem fold_set_at (off : Nat) (zs : List Value) (cs : List Value) (h : off + cs.length ≤ zs.length) :
    cs.zipIdx.foldl (fun (a : Array Value) x => a.setIfInBounds (off + x.2) x.1) zs.toArray = (zs.take off ++ cs ++ zs.drop (off + cs.length)).toArray := by
  have := fold_set_from cs 0 off zs (by omega)
  simpa using this

theorem setCells_alloc_at (w : World) (zs : Array Value) (T : TypeId) (cs : List Value) (n : Nat) (hn : n = w.heap.size) (h : zs.size = cs.length) : (w.alloc (.cells zs T)).setCells n 0 cs = w.alloc (.cells cs.toArray T) := by
  subst hn; exact setCells_alloc_new w zs T cs h
theorem there_alloc_at (w : World) (cs : Array Value) (T : TypeId) (k n : Nat) (hn : n = w.heap.size) (h : k ≤ cs.size) : (w.alloc (.cells cs T)).there n 0 k := by
  subst hn; exact there_alloc_new w cs T k h
theorem cut_alloc_at (w : World) (cs : List Value) (T : TypeId) (k n : Nat) (hn : n = w.heap.size) (h : cs.length = k) : cut (w.alloc (.cells cs.toArray T)) n 0 k = cs := by
  subst hn; exact cut_alloc_new w cs T k h

end Go.Mine
