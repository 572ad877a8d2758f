/-
  The heap of Go's library, as lists: over no program. sw: two elements change places; HeapTo n: the first n elements are a heap.
-/
import Derived.Test.YtpdfakfokegcnaaBase
namespace Go.Mine

section
variable {α : Type} [Inhabited α] (kf : α → Int)

def key (xs : List α) (i : Nat) : Int := kf (xs.getD i default)
def sw (xs : List α) (i j : Nat) : List α := (xs.set i (xs.getD j default)).set j (xs.getD i default)
def par (c : Nat) : Nat := (c - 1) / 2

variable {kf}
omit [Inhabited α] in
theorem getD_of_lt [Inhabited α] {xs : List α} {i : Nat} (h : i < xs.length) : xs[i]? = some (xs.getD i default) := by
  rw [List.getD_eq_getElem?_getD, List.getElem?_eq_getElem h]; rfl
@[simp] theorem sw_length (xs : List α) (i j : Nat) : (sw xs i j).length = xs.length := by simp [sw]
theorem sw_getD (xs : List α) (i j k : Nat) (hi : i < xs.length) (hj : j < xs.length) :
    (sw xs i j).getD k default = if k = j then xs.getD i default else if k = i then xs.getD j default else xs.getD k default := by
  unfold sw
  simp only [List.getD_eq_getElem?_getD, List.getElem?_set, List.length_set]
  by_cases h1 : k = j
  · subst h1; simp [hj]
  · by_cases h2 : k = i
    · subst h2; simp [h1, Ne.symm h1, hi]
    · simp [h1, h2, Ne.symm h1, Ne.symm h2]
theorem sw_key (xs : List α) (i j k : Nat) (hi : i < xs.length) (hj : j < xs.length) :
    key kf (sw xs i j) k = if k = j then key kf xs i else if k = i then key kf xs j else key kf xs k := by
  unfold key
  rw [sw_getD xs i j k hi hj]
  split
  · rfl
  · split <;> rfl
theorem sw_eq (xs : List α) (i j : Nat) (x y : α) (hx : xs[i]? = some x) (hy : xs[j]? = some y) : (xs.set i y).set j x = sw xs i j := by
  unfold sw
  rw [List.getD_eq_getElem?_getD, List.getD_eq_getElem?_getD, hx, hy]; rfl

theorem set_perm_cons (xs : List α) (i : Nat) (y : α) (hi : i < xs.length) : (xs.getD i default :: xs.set i y).Perm (y :: xs) := by
  induction xs generalizing i with
  | nil => simp at hi
  | cons a r ih =>
    cases i with
    | zero => simp; exact List.Perm.swap _ _ _
    | succ i =>
      have := ih i (by simpa using hi)
      simp only [List.getD_cons_succ, List.set_cons_succ]
      refine (List.Perm.swap _ _ _).trans ?_
      refine (List.Perm.cons a this).trans ?_
      exact List.Perm.swap _ _ _

theorem sw_perm (xs : List α) (i j : Nat) (hi : i < xs.length) (hj : j < xs.length) : (sw xs i j).Perm xs := by
  have h1 := set_perm_cons xs i (xs.getD j default) hi
  have h2 := set_perm_cons (xs.set i (xs.getD j default)) j (xs.getD i default) (by simpa using hj)
  have e : (xs.set i (xs.getD j default)).getD j default = xs.getD j default := by
    simp only [List.getD_eq_getElem?_getD, List.getElem?_set]
    by_cases h : i = j
    · subst h; simp [hi]
    · simp [h]
  rw [e] at h2
  have h3 : (xs.getD j default :: sw xs i j).Perm (xs.getD j default :: xs) := h2.trans h1
  exact (List.perm_cons _).1 h3

variable (kf)
def HeapTo (n : Nat) (xs : List α) : Prop := ∀ c, 0 < c → c < n → key kf xs (par c) ≤ key kf xs c
/-- All in order but for c = j; what is below j is not below j's parent. -/
def Up (n : Nat) (xs : List α) (j : Nat) : Prop :=
  (∀ c, 0 < c → c < n → c ≠ j → key kf xs (par c) ≤ key kf xs c) ∧ (∀ c, 0 < c → c < n → par c = j → 0 < j → key kf xs (par j) ≤ key kf xs c)
/-- All in order but for what is below i (and, if nothing moved, but for i itself). -/
def Dn (n : Nat) (xs : List α) (i : Nat) (b : Bool) : Prop :=
  (∀ c, 0 < c → c < n → par c ≠ i → (b = true ∨ c ≠ i) → key kf xs (par c) ≤ key kf xs c) ∧ (∀ c, 0 < c → c < n → par c = i → 0 < i → key kf xs (par i) ≤ key kf xs c)
variable {kf}

theorem par_lt {c : Nat} (h : 0 < c) : par c < c := by unfold par; omega

theorem Up.step {n j : Nat} {xs : List α} (h : Up kf n xs j) (hj : 0 < j) (hjn : j < n) (hn : n ≤ xs.length) (hlt : key kf xs j < key kf xs (par j)) : Up kf n (sw xs (par j) j) (par j) := by
  have hp := par_lt hj
  have K := fun k => sw_key (kf := kf) xs (par j) j k (by omega) (by omega)
  refine ⟨fun c hc hcn hne => ?_, fun c hc hcn hpc hp0 => ?_⟩
  · rw [K, K]
    have hpc := par_lt hc
    by_cases e : c = j
    · subst e
      rw [if_neg (by omega), if_pos rfl, if_pos rfl]; omega
    · rw [if_neg e, if_neg hne]
      by_cases e2 : par c = j
      · rw [if_pos e2]; exact h.2 c hc hcn e2 hj
      · rw [if_neg e2]
        by_cases e3 : par c = par j
        · rw [if_pos e3]
          have := h.1 c hc hcn e
          rw [e3] at this; omega
        · rw [if_neg e3]; exact h.1 c hc hcn e
  · have hpp := par_lt hp0
    have h1 := h.1 (par j) hp0 (by omega) (by omega)
    rw [K, K, if_neg (by omega), if_neg (by omega)]
    by_cases e : c = j
    · rw [if_pos e]; exact h1
    · rw [if_neg e, if_neg (by intro e2; have := par_lt hc; omega)]
      have := h.1 c hc hcn e
      rw [hpc] at this; omega
theorem Up.stop {n j : Nat} {xs : List α} (h : Up kf n xs j) (hs : j = 0 ∨ ¬ key kf xs j < key kf xs (par j)) : HeapTo kf n xs := by
  intro c hc hcn
  by_cases e : c = j
  · subst e
    rcases hs with hs | hs
    · omega
    · omega
  · exact h.1 c hc hcn e

theorem Dn.step {n i j : Nat} {b : Bool} {xs : List α} (h : Dn kf n xs i b) (hj : 0 < j) (hjn : j < n) (hpj : par j = i) (hn : n ≤ xs.length) (hlt : key kf xs j < key kf xs i) (hmin : ∀ c, 0 < c → c < n → par c = i → key kf xs j ≤ key kf xs c) :
    Dn kf n (sw xs i j) j true := by
  have hij : i < j := by have := par_lt hj; omega
  have K := fun k => sw_key (kf := kf) xs i j k (by omega) (by omega)
  refine ⟨fun c hc hcn hne _ => ?_, fun c hc hcn hpc _ => ?_⟩
  · rw [K, K, if_neg hne]
    have hpl := par_lt hc
    by_cases e : c = j
    · subst e
      rw [if_pos hpj, if_pos rfl]; omega
    · rw [if_neg e]
      by_cases e2 : c = i
      · subst e2
        rw [if_neg (by omega), if_pos rfl]
        exact h.2 j hj hjn hpj hc
      · rw [if_neg e2]
        by_cases e3 : par c = i
        · rw [if_pos e3]; exact hmin c hc hcn e3
        · rw [if_neg e3]; exact h.1 c hc hcn e3 (.inr e2)
  · have hpl := par_lt hc
    rw [K, K, hpj, if_neg (by omega), if_pos rfl, if_neg (by omega), if_neg (by omega)]
    have := h.1 c hc hcn (by omega) (.inr (by omega))
    rw [hpc] at this; exact this
theorem Dn.stop {n i : Nat} {xs : List α} (h : Dn kf n xs i true) (hmin : ∀ c, 0 < c → c < n → par c = i → key kf xs i ≤ key kf xs c) : HeapTo kf n xs := by
  intro c hc hcn
  by_cases e : par c = i
  · rw [e]; exact hmin c hc hcn e
  · exact h.1 c hc hcn e (.inl rfl)
theorem Dn.stay {n i : Nat} {xs : List α} (h : Dn kf n xs i false) (hmin : ∀ c, 0 < c → c < n → par c = i → key kf xs i ≤ key kf xs c) : Up kf n xs i := by
  refine ⟨fun c hc hcn hne => ?_, h.2⟩
  by_cases e : par c = i
  · rw [e]; exact hmin c hc hcn e
  · exact h.1 c hc hcn e (.inr hne)

theorem HeapTo.mono {n m : Nat} {xs : List α} (h : HeapTo kf n xs) (hm : m ≤ n) : HeapTo kf m xs := fun c hc hcm => h c hc (by omega)
theorem HeapTo.root {n : Nat} {xs : List α} (h : HeapTo kf n xs) : ∀ c, c < n → key kf xs 0 ≤ key kf xs c := by
  intro c
  induction c using Nat.strongRecOn with
  | _ c ih =>
    intro hc
    by_cases h0 : c = 0
    · subst h0; exact Int.le_refl _
    · have := ih (par c) (par_lt (by omega)) (by have := par_lt (c := c) (by omega); omega)
      have := h c (by omega) hc
      omega
/-- One more at the end. -/
theorem HeapTo.push {xs : List α} (h : HeapTo kf xs.length xs) (x : α) : Up kf (xs.length + 1) (xs ++ [x]) xs.length := by
  have K : ∀ k, k < xs.length → key kf (xs ++ [x]) k = key kf xs k := fun k hk => by
    unfold key; simp only [List.getD_eq_getElem?_getD, List.getElem?_append_left hk]
  refine ⟨fun c hc hcn hne => ?_, fun c hc hcn hpc _ => ?_⟩
  · have := par_lt hc
    rw [K _ (by omega), K _ (by omega)]; exact h c hc (by omega)
  · have := par_lt hc; omega
/-- The i-th and the last have changed places. -/
theorem HeapTo.cut {n i : Nat} {xs : List α} (h : HeapTo kf (n + 1) xs) (hn : n < xs.length) (hi : i < n) : Dn kf n (sw xs i n) i false := by
  have K := fun k => sw_key (kf := kf) xs i n k (by omega) (by omega)
  refine ⟨fun c hc hcn hne hci => ?_, fun c hc hcn hpc h0 => ?_⟩
  · have := par_lt hc
    have hci' : c ≠ i := by rcases hci with h | h; exact absurd h (by decide); exact h
    rw [K, K, if_neg (by omega), if_neg hne, if_neg (by omega), if_neg hci']
    exact h c hc (by omega)
  · have := par_lt hc
    have h1 := par_lt h0
    rw [K, K, if_neg (by omega), if_neg (by omega), if_neg (by omega), if_neg (by omega)]
    have a := h i h0 (by omega)
    have b := h c hc (by omega)
    rw [hpc] at b; omega
theorem HeapTo.take {n : Nat} {xs : List α} (h : HeapTo kf n xs) : HeapTo kf (xs.take n).length (xs.take n) := by
  intro c hc hcn
  simp at hcn
  have := par_lt hc
  unfold key
  simp only [List.getD_eq_getElem?_getD, List.getElem?_take]
  rw [if_pos (by omega), if_pos (by omega)]
  have := h c hc (by omega)
  unfold key at this
  simpa [List.getD_eq_getElem?_getD] using this
end
end Go.Mine
