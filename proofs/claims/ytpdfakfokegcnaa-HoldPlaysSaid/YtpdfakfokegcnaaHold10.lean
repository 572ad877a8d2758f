/-
  Layer 21 (hold): New, Next, Look.
-/
import Derived.Test.YtpdfakfokegcnaaHold9
import Derived.Laws.ResultCell
namespace Go.Proofs.Ytpdfakfokegcnaa
open Go.RowKit Go.Mine
attribute [local go_sem] m_push m_pop m_has m_first m_len m_less m_swap ta_item
attribute [local go_sem ↓] ld_msg st_msg
attribute [local go_sem] run_ld_msg cut_drew setCells_drew World.there_drew setCells_alloc_at there_alloc_at cut_alloc_at there_alloc_old cut_alloc_old fold_set_whole fold_set_at

theorem there_drewN (w : World) (n g o k : Nat) : (w.drewN n).there g o k ↔ w.there g o k := by
  induction n with
  | zero => exact Iff.rfl
  | succ n ih => exact ih
theorem cut_drewN (w : World) (n g o k : Nat) : cut (w.drewN n) g o k = cut w g o k := by
  induction n with
  | zero => rfl
  | succ n ih => exact ih
theorem setCells_drewN (w : World) (n g o : Nat) (cs : List Value) : (w.drewN n).setCells g o cs = (w.setCells g o cs).drewN n := by
  induction n with
  | zero => rfl
  | succ n ih => show (w.drewN n).drew.setCells g o cs = _; rw [setCells_drew, ih]; rfl
attribute [local go_sem] there_drewN cut_drewN setCells_drewN

theorem range_new (w : World) (cs : List Value) (T : TypeId) (n : Nat) : ((w.alloc (.cells cs.toArray T)).drewN n).rangeAt w.heap.size 0 cs := by
  have hb : Blk (w.alloc (.cells cs.toArray T)) w.heap.size cs T := heap_alloc_new w _
  have hb' := hb.mod ((Mod.refl none_ _).drewN n) (fun e => e)
  intro j v hv
  rw [Nat.zero_add, hb'.cell]; exact hv

def Ones (cs : List Value) : Prop := ∀ v ∈ cs, v.oneCell' = true
theorem run_st_msg (w : World) (g o : Nat) (cs : List Value) (hk : cs.length = 11) (h1 : Ones cs) (h : w.there g o 11) : (stRow 51 (.pointer (some ⟨g, o, none⟩)) (.agg cs.toArray)).run Try.prog w = .ok () (w.setCells g o cs) :=
  run_stRow Try.msgSize w g o cs hk h1 h
attribute [local go_sem] run_st_msg

/-- The message that is none. -/
def zm : List Value := [.int .i64 0, .int .i64 0, .int .i64 0, .int .i64 0, .int .i64 0, .int .i64 0, .int .i64 0, .int .i64 0, .int .i64 0, .string ByteArray.empty, .string ByteArray.empty]
theorem zm_ones : Ones [.int .i64 0, .int .i64 0, .int .i64 0, .int .i64 0, .int .i64 0, .int .i64 0, .int .i64 0, .int .i64 0, .int .i64 0, .string ⟨#[]⟩, .string ⟨#[]⟩] := by
  intro v hv
  simp at hv
  rcases hv with rfl | rfl | rfl <;> rfl

theorem results_msg {fn : Func} {p u : Tmp} (h : fn.results = #[.cell p 51, .tmp u]) (tmps : Array Value) (w : World) (g : Nat) (cs : List Value) (hp : tmps.getD p undef = .pointer (some ⟨g, 0, none⟩)) (hl : cs.length = 11) (hr : w.rangeAt g 0 cs) :
    (results fn tmps).run Try.prog w = .ok (.tuple #[.agg cs.toArray, tmps.getD u undef]) w := by
  rw [results_cell_tmp h, hp]
  have := run_loadVar_mid (P := Try.prog) w g 0 51 cs _ hr Try.underlying51 rfl (by rw [hl]; exact Try.msgSize)
  simp [asAddr, this, Result.andThen]

set_option maxHeartbeats 400000 in
theorem qnew_bad (n : Int) (hn : n < 1 ∨ 1099511627776 < n) (w : World) :
    Calls Try.prog 20 #[.int .i64 n] w fun e w' => e = .returned (.tuple #[.pointer none, .int .i64 1]) ∧ w = w' := by
  by_cases h1 : n < 1
  · clear hn
    go_enter Try.func20, Try.ntmps20
    go_wp2
    go_ret2
    exact ⟨rfl, rfl⟩
  · have h2 : 1099511627776 < n := by omega
    have hd : decide (n < 1) = false := decide_eq_false h1
    clear hn h1
    go_enter Try.func20, Try.ntmps20
    go_wp2
    go_ret2
    exact ⟨rfl, rfl⟩

def QNewPost (n : Int) (w : World) (e : Ending) (w' : World) : Prop :=
  ∃ p lb g, e = .returned (.tuple #[.pointer (some ⟨p, 0, none⟩), .int .i64 0]) ∧ QIs w.heap.size w' p lb g n [] ∧ Mod none_ w w'

set_option maxHeartbeats 400000 in
theorem qnew_ok (n : Int) (h1 : 1 ≤ n) (h2 : n ≤ 1099511627776) (w : World) :
    Calls Try.prog 20 #[.int .i64 n] w (QNewPost n w) := by
  have hd1 : decide (n < 1) = false := decide_eq_false (by omega)
  have hd2 : decide (1099511627776 < n) = false := decide_eq_false (by omega)
  have H := Lib.hid (And.intro h1 h2)
  clear h1 h2
  go_enter Try.func20, Try.ntmps20
  go_wp2
  go_ret2
  refine ⟨w.heap.size + 2, w.heap.size + 1, w.heap.size, rfl, ⟨0, [], [], ⟨?_, ⟨?_, ?_, by omega, by omega, Nat.le_refl _, by simp, by unfold maxLen; omega, by simp, by simp⟩, fun c h1 h2 => by simp at h2, by omega, by omega, by omega, by simp, by simp, by simp, by have := H.out; omega⟩, List.Perm.refl _⟩, ?_⟩
  · have := heap_alloc_new ((w.alloc (.cells #[] 94)).alloc (.cells #[.slice (some ⟨w.heap.size, 0, none⟩) 0 0] 87)) (.cells #[.int .i64 n, .iface 85 (.pointer (some ⟨w.heap.size + 1, 0, none⟩)), .pointer (some ⟨w.heap.size + 1, 0, none⟩)] 91)
    simpa [Blk] using this
  · have := (Mod.refl none_ ((w.alloc (.cells #[] 94)).alloc (.cells #[.slice (some ⟨w.heap.size, 0, none⟩) 0 0] 87))).alloc (.cells #[.int .i64 n, .iface 85 (.pointer (some ⟨w.heap.size + 1, 0, none⟩)), .pointer (some ⟨w.heap.size + 1, 0, none⟩)] 91)
    refine this.blk (fun e => e) ?_
    have := heap_alloc2_new w (.cells #[] 94) (.cells #[.slice (some ⟨w.heap.size, 0, none⟩) 0 0] 87)
    simpa using this
  · have := (Mod.refl none_ ((w.alloc (.cells #[] 94)).alloc (.cells #[.slice (some ⟨w.heap.size, 0, none⟩) 0 0] 87))).alloc (.cells #[.int .i64 n, .iface 85 (.pointer (some ⟨w.heap.size + 1, 0, none⟩)), .pointer (some ⟨w.heap.size + 1, 0, none⟩)] 91)
    refine this.blk (fun e => e) ?_
    have := heap_alloc2_old w (.cells #[] 94) (.cells #[.slice (some ⟨w.heap.size, 0, none⟩) 0 0] 87)
    simpa using this
  · exact (((Mod.refl none_ w).alloc _).alloc _).alloc _

set_option maxHeartbeats 400000 in
theorem qnext_any (B p lb g : Nat) (next : Int) (L : List Itm) (w : World) (h : QIs B w p lb g next L) :
    Calls Try.prog 23 #[.pointer (some ⟨p, 0, none⟩)] w fun e w' => e = .returned (.int .i64 next) ∧ w = w' := by
  obtain ⟨cap, xs, more, h, hperm⟩ := h
  have c0 := h.c0
  clear h hperm
  go_enter Try.func23, Try.ntmps23
  go_wp2
  go_ret
  exact ⟨rfl, rfl⟩

set_option maxHeartbeats 400000 in
theorem qnext_nil (w : World) : Calls Try.prog 23 #[.pointer none] w fun e w' => e = .returned (.int .i64 0) ∧ w = w' := by
  go_enter Try.func23, Try.ntmps23
  go_wp2
  go_ret
  exact ⟨rfl, rfl⟩

set_option maxHeartbeats 400000 in
set_option maxRecDepth 1000000 in
theorem qlook_nil (w : World) : Calls Try.prog 24 #[.pointer none] w fun e w' => e = .returned (.tuple #[.agg zm.toArray, .bool false]) ∧ Mod none_ w w' := by
  have z1 := zm_ones
  go_enter Try.func24, Try.ntmps24
  go_wp2
  go_quiet (fail)
  go_wp2
  refine bodyPost_ret (results_msg rfl _ _ w.heap.size zm rfl rfl ?_) rfl ⟨rfl, ?_⟩
  · exact range_new w zm _ _
  · exact ((Mod.refl none_ w).alloc _).drewN _

set_option maxHeartbeats 400000 in
set_option maxRecDepth 1000000 in
theorem qlook_none (B p lb g cap : Nat) (next : Int) (xs : List Itm) (more : List Value) (w : World) (h : QRep B w p lb g cap next xs more) (hno : (if xs.length = 0 then 0 else key kI xs 0) ≠ next) :
    Calls Try.prog 24 #[.pointer (some ⟨p, 0, none⟩)] w fun e w' => e = .returned (.tuple #[.agg zm.toArray, .bool false]) ∧ Mod none_ w w' := by
  have z1 := zm_ones
  have c0 := h.c0
  have c1 := h.c1
  have hpl := h.hp.lt
  have H := Lib.hid h
  obtain ⟨q, hq⟩ : ∃ q, q = (if xs.length = 0 then 0 else key kI xs 0) := ⟨_, rfl⟩
  have hf := fun w (h : IRep B w lb g cap xs more) => items_first B lb g cap xs more w h
  rw [← hq] at hf hno
  have hd : (q != next) = true := by rw [bne_iff_ne]; exact hno
  have HF := Lib.hid hf
  clear h hf hq hno
  go_enter Try.func24, Try.ntmps24
  go_wp2_with fail
  go_quiet ((go_at_call 89; exact Calls.quiet_of_same ((HF.out _ (by exact (H.out.it.grown ((Mod.refl none_ w).alloc _)).grown ((Mod.refl none_ _).drewN _))).mono fun _ _ h => ⟨h.1, h.2.symm⟩)))
  go_wp2
  refine bodyPost_ret (results_msg rfl _ _ w.heap.size zm rfl rfl ?_) rfl ⟨rfl, ?_⟩
  · exact range_new w zm _ _
  · exact ((Mod.refl none_ w).alloc _).drewN _

set_option maxHeartbeats 400000 in
set_option maxRecDepth 1000000 in
theorem qlook_some (B p lb g cap : Nat) (next : Int) (xs : List Itm) (more : List Value) (x : Itm) (w : World) (h : QRep B w p lb g cap next xs more) (hx : xs[0]? = some x) (hn : x.num = next) :
    Calls Try.prog 24 #[.pointer (some ⟨p, 0, none⟩)] w fun e w' => e = .returned (.tuple #[.agg x.m.toArray, .bool true]) ∧ Mod none_ w w' := by
  have hlen : 0 < xs.length := (List.getElem?_eq_some_iff.1 hx).1
  have c0 := h.c0
  have c1 := h.c1
  have c2 := h.c2
  have c3 := h.it.c0
  have hpl := h.hp.lt
  have hll := h.it.hl.lt
  have hgl := h.it.hg.lt
  have hcm := h.it.cm
  have hnc := h.it.nc
  unfold maxLen at hcm
  have H := Lib.hid h
  have hk : (if xs.length = 0 then 0 else key kI xs 0) = next := by
    rw [if_neg (by omega)]; unfold key; rw [List.getD_eq_getElem?_getD, hx]; exact hn
  have hf := fun w (h : IRep B w lb g cap xs more) => items_first B lb g cap xs more w h
  rw [hk] at hf
  have HF := Lib.hid hf
  have hr : w.rangeAt g 1 x.m := by
    intro j v hv
    have hj : j < 11 := by have := (List.getElem?_eq_some_iff.1 hv).1; rw [x.hm] at this; exact this
    have := Blk.elem Itm.len h.it.hg 0 (1 + j) x hx (by omega)
    rw [Nat.zero_mul, Nat.zero_add] at this
    rw [this]
    show (Value.int .i64 x.num :: x.m)[1 + j]? = _
    rw [Nat.add_comm 1 j, List.getElem?_cons_succ]; exact hv
  have t1 : w.there g 1 11 := fun j hj => by
    have e : x.m[j]? = some (x.m[j]'(by rw [x.hm]; exact hj)) := List.getElem?_eq_getElem _
    rw [hr j _ e]; exact ⟨rfl, h.it.hg.frozen _⟩
  have u1 := cut_of_range hr x.hm
  have o1 : Ones x.m := x.one
  have hm11 := x.hm
  clear h hf hk hx hr hn
  go_enter Try.func24, Try.ntmps24
  go_wp2_with fail
  go_quiet ((go_at_call 89; exact Calls.quiet_of_same ((HF.out _ (by exact (H.out.it.grown ((Mod.refl none_ w).alloc _)).grown ((Mod.refl none_ _).drewN _))).mono fun _ _ h => ⟨h.1, h.2.symm⟩)))
  go_wp2
  refine bodyPost_ret (results_msg rfl _ _ w.heap.size x.m rfl hm11 ?_) rfl ⟨rfl, ?_⟩
  · exact range_new w x.m _ _
  · exact ((Mod.refl none_ w).alloc _).drewN _

end Go.Proofs.Ytpdfakfokegcnaa
