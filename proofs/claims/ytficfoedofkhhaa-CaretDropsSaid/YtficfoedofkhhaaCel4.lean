/-
  Layer 12 (cells): New.
-/
import Derived.Test.YtficfoedofkhhaaCel7
namespace Go.Proofs.Ytficfoedofkhhaa
open Go.RowKit Go.Shelf Go.Mine
open Classical
attribute [local go_sem] Oper.semAt_some
attribute [local go_sem ↓] app_fold

set_option maxHeartbeats 4000000 in
set_option maxRecDepth 1000000 in
theorem new_any (w : World) (a : Option Addr) (len cap : Nat) (l : List CellV) (h : IsCells w a len cap l) (hlen : len ≤ 1099511627776) :
    Calls Try.prog 11 #[.slice a len cap] w fun e w' => Mod none_ w w' ∧ (newE l ≠ 0 → e = .returned (.tuple #[.pointer none, .int .i64 (newE l)])) ∧ (newE l = 0 → ∃ D, e = .returned (.tuple #[.pointer (some ⟨D, 0, none⟩), .int .i64 0]) ∧ DocIs w' w.heap.size D l) := by
  have hle := h.le
  have hbig := h.big
  unfold maxLen at hbig
  have hN := h.n
  have H := Lib.hid h
  obtain ⟨R, hR⟩ : ∃ R, R = newE l := ⟨_, rfl⟩
  rw [← hR]
  have HR := Lib.hid hR
  have hmm := @run_makeMap Try.prog
  have C0 := Lib.hid (Counts.made Try.prog 58 w)
  have m0 := Lib.hid ((Mod.refl none_ w).alloc (.map #[] 0))
  clear h hR
  refine (callsIn_wide (n := 5)).1 ?_
  refine callsIn_of_wp_marks Try.func11 rfl trivial ?_ rfl
  refine wpIn_wide.2 (Code.wp_mono (Q := calmPost _) calmPost.out ?_)
  simp only [Try.ntmps11, List.size_toArray, List.length_cons, List.length_nil, Nat.reduceAdd, Nat.reduceSub, Array.replicate_succ, Array.replicate_zero, List.push_toArray, List.append_toArray, List.nil_append, List.cons_append]
  go_wp2_with fail
  generalize w.alloc (.map #[] 0) = w0 at C0 m0 ⊢
  obtain ⟨G, hG⟩ : ∃ G, G = w.heap.size := ⟨_, rfl⟩
  rw [← hG] at C0 ⊢
  have hGw : w.heap.size ≤ G := by omega
  clear hG
  go_loopg [14] len (fun g s14 wx => ∃ k n : Nat, g = len - k ∧ s14 = .int .i64 k ∧ k ≤ len ∧ Mod none_ w wx ∧ Counts Try.prog 58 wx G ((l.take k).map CellV.id) n ∧ RowKit.Hid ((l.take k).all cellOk = true))
  case atStart => exact ⟨0, 0, rfl, rfl, Nat.zero_le _, m0.out, C0.out, Lib.hid rfl⟩
  case round =>
    obtain ⟨k, n, rfl, rfl, hk, m1, hc, hall⟩ := hrel
    have M1 := Lib.hid m1
    have CC := Lib.hid hc
    by_cases hlk : k < len
    · obtain ⟨c, hx⟩ : ∃ x, l[k]? = some x := ⟨l[k]'(by omega), by simp⟩
      obtain ⟨b, off, rfl, hr⟩ := H.out.cells k _ hx
      have hcok := H.out.ok _ (List.mem_of_getElem? hx)
      have c0 := m1.cell (fun e => e) (hr 0 _ rfl)
      have c1 := m1.cell (fun e => e) (hr 1 _ rfl)
      have c2 := m1.cell (fun e => e) (hr 2 _ rfl)
      have c3 := m1.cell (fun e => e) (hr 3 _ rfl)
      have c4 := m1.cell (fun e => e) (hr 4 _ rfl)
      rw [Nat.add_zero] at c0
      have hlb := block_lt_of_cell c0
      have htk : l.take (k + 1) = l.take k ++ [c] := by
        obtain ⟨hk', e⟩ := List.getElem?_eq_some_iff.1 hx
        rw [List.take_succ_eq_append_getElem hk', e]
      have HT := Lib.hid htk
      have HX := Lib.hid hx
      have OK := Lib.hid hcok
      clear hx hr hcok htk m1 hc
      have mA := (Mod.refl none_ wr).alloc (.cells #[.int .i64 c.site, .int .i64 c.seq, .int .i64 c.off, .int .i32 c.r, .bool c.gone] 41)
      have kA := Blk.new (w := wr) (cs := [.int .i64 c.site, .int .i64 c.seq, .int .i64 c.off, .int .i32 c.r, .bool c.gone]) (t := 41)
      have MA := Lib.hid (M1.out.trans mA)
      have CA := Lib.hid (CC.out.mod mA (fun e => e))
      have KA := Lib.hid kA
      clear mA kA
      go_upto_region 5 with fail
      generalize wr.alloc (.cells #[.int .i64 c.site, .int .i64 c.seq, .int .i64 c.off, .int .i32 c.r, .bool c.gone] 41) = wA at MA CA KA ⊢
      clear c0 c1 c2 c3 c4
      have e0 : wA.cell? ⟨wr.heap.size, 0, none⟩ = some (.int .i64 c.site) := by rw [KA.out.cell]; rfl
      have e1 : wA.cell? ⟨wr.heap.size, 1, none⟩ = some (.int .i64 c.seq) := by rw [KA.out.cell]; rfl
      have e2 : wA.cell? ⟨wr.heap.size, 2, none⟩ = some (.int .i64 c.off) := by rw [KA.out.cell]; rfl
      have e3 : wA.cell? ⟨wr.heap.size, 3, none⟩ = some (.int .i32 c.r) := by rw [KA.out.cell]; rfl
      have e4 : wA.cell? ⟨wr.heap.size, 4, none⟩ = some (.bool c.gone) := by rw [KA.out.cell]; rfl
      obtain ⟨S, hS⟩ : ∃ S, S = wr.heap.size := ⟨_, rfl⟩
      rw [← hS] at KA e0 e1 e2 e3 e4 ⊢
      clear hS
      go_wp2_with fail
      refine (mayCell_any c _ OK.out).mono ?_
      rintro e w2 ⟨rfl, m2⟩
      have M2 := Lib.hid (MA.out.trans m2)
      have C2 := Lib.hid (CA.out.mod m2 (fun e => e))
      have k2 := KA.out.mod m2 (fun e => e)
      have f0 : w2.cell? ⟨S, 0, none⟩ = some (.int .i64 c.site) := by rw [k2.cell]; rfl
      have f1 : w2.cell? ⟨S, 1, none⟩ = some (.int .i64 c.seq) := by rw [k2.cell]; rfl
      have f2 : w2.cell? ⟨S, 2, none⟩ = some (.int .i64 c.off) := by rw [k2.cell]; rfl
      clear m2 k2 e0 e1 e2 e3 e4
      cases hv : cellOk c
      · have HE := Lib.hid (show R = 1 by
          rw [HR.out]; unfold newE
          rw [if_neg]
          intro h
          rw [List.all_eq_true] at h
          have := h c (List.mem_of_getElem? HX.out)
          rw [hv] at this; cases this)
        clear hv
        go_wp2_with fail
        exact ⟨_, results_tmp2 rfl _ _ _, M2.out, fun _ => by rw [HE.out]; rfl, fun h => by rw [HE.out] at h; cases h⟩
      · have CD : Counts Try.prog 58 w2.drew G ((l.take k).map CellV.id) n := C2.out.mod (Mod.drew (Mod.refl none_ w2)) (fun e => e)
        obtain ⟨q, s, w3, w4, hq, h1, h2, h3, h4, M3, M4, C4⟩ := CD.incr kId Try.underlying55 zInt (okId OK.out)
        rw [List.length_map, List.length_take] at hq
        have hwq : IntKind.i64.wrap ((q : Int) + 1) = (q : Int) + 1 := by rw [IntKind.wrap_i64]; omega
        have HALL := Lib.hid (show (l.take (k + 1)).all cellOk = true by rw [HT.out, List.all_append, hall.out]; simp [hv])
        have C5 := Lib.hid (show Counts Try.prog 58 w4 G ((l.take (k + 1)).map CellV.id) (if c.id ∈ (l.take k).map CellV.id then n else n + 1) by rw [HT.out, List.map_append]; exact C4)
        have M5 := Lib.hid ((Mod.drew M2.out).transIn M4 (fun b hb e => by have e' : b = G := e; omega))
        clear C4 M3 M4 CD hall hv
        go_wp2_with fail
        go_region_law (fail)
        all_goals go_wp2_with fail
        all_goals go_roundg (len - (k + 1))
        all_goals first
          | omega
          | exact ⟨k + 1, _, rfl, by go_num, by omega, M5.out, C5.out, HALL⟩
    · obtain rfl : k = len := by omega
      have e : l.take k = l := List.take_of_length_le (by omega)
      rw [e] at hc hall
      have hnl := hc.le
      have hnall := hc.all
      rw [List.length_map, hN] at hnl hnall
      obtain ⟨m, hm, _⟩ := hc.ex
      have hlen2 := fun ty => hm.len Try.underlying55 ty
      simp only [goInt] at hlen2
      clear CC hc hm m1 e
      by_cases hd : n < k
      · have HE := Lib.hid (show R = 15 by
          rw [HR.out]; unfold newE
          rw [if_pos hall.out, if_neg (fun h => by have := hnall.2 h; omega)])
        have hdd : decide ((n : Int) < (k : Int)) = true := by simp; omega
        clear hnall
        go_wp2_with fail
        exact ⟨_, results_tmp2 rfl _ _ _, M1.out, fun _ => by rw [HE.out]; rfl, fun h => by rw [HE.out] at h; cases h⟩
      have hdd : decide ((n : Int) < (k : Int)) = false := by simp; omega
      have HND := Lib.hid (hnall.1 (by omega))
      clear hnall
      by_cases hbg : 20000 < k
      · have HE := Lib.hid (show R = 4 by
          rw [HR.out]; unfold newE
          rw [if_pos hall.out, if_pos HND.out, if_neg (by omega)])
        have hdg : decide (20000 < (k : Int)) = true := by simp; omega
        go_wp2_with fail
        exact ⟨_, results_tmp2 rfl _ _ _, M1.out, fun _ => by rw [HE.out]; rfl, fun h => by rw [HE.out] at h; cases h⟩
      have hdg : decide (20000 < (k : Int)) = false := by simp; omega
      have HE := Lib.hid (show R = 0 by
        rw [HR.out]; unfold newE
        rw [if_pos hall.out, if_pos HND.out, if_pos (by omega)])
      have hMe := Lib.hid (IMap.made (P := Try.prog) (k := 39) wr)
      go_wp2_with fail
      refine (chunk_any a k cap _).mono ?_
      rintro e w5 ⟨rfl, rfl⟩
      go_wp2_with fail
      obtain ⟨W0, hW0⟩ : ∃ W0, (((((wr.alloc (.map #[] 0)).alloc (.cells #[.slice none 0 0, .map (some wr.heap.size)] 62)).alloc (.cells #[.pointer (some ⟨wr.heap.size + 1, 0, none⟩)] 42)).alloc (.cells #[.slice a k cap] 36)).alloc (.cells #[.int .i64 64] 3)) = W0 := ⟨_, rfl⟩
      have hz : W0.heap.size = wr.heap.size + 5 := by rw [← hW0]; simp
      have kW := M1.out.size
      have hI0 : NewI w a k cap l wr.heap.size (wr.heap.size + 1) (wr.heap.size + 3) (wr.heap.size + 4) 0 W0 := by
        have b0 := Blk.new (w := wr.alloc (.map #[] 0)) (cs := [.slice none 0 0, .map (some wr.heap.size)]) (t := 62)
        have b1 := Blk.new (w := (wr.alloc (.map #[] 0)).alloc (.cells #[.slice none 0 0, .map (some wr.heap.size)] 62)) (cs := [.pointer (some ⟨wr.heap.size + 1, 0, none⟩)]) (t := 42)
        have b2 := Blk.new (w := ((wr.alloc (.map #[] 0)).alloc (.cells #[.slice none 0 0, .map (some wr.heap.size)] 62)).alloc (.cells #[.pointer (some ⟨wr.heap.size + 1, 0, none⟩)] 42)) (cs := [.slice a k cap]) (t := 36)
        have b3 := Blk.new (w := (((wr.alloc (.map #[] 0)).alloc (.cells #[.slice none 0 0, .map (some wr.heap.size)] 62)).alloc (.cells #[.pointer (some ⟨wr.heap.size + 1, 0, none⟩)] 42)).alloc (.cells #[.slice a k cap] 36)) (cs := [.int .i64 64]) (t := 3)
        simp only [World.size_alloc] at b0 b1 b2 b3
        rw [← hW0]
        have g := fun (v : World) (o : Obj) => (Mod.refl none_ v).alloc o
        refine ⟨((((M1.out.alloc _).alloc _).alloc _).alloc _).alloc _, (b1.mod (g _ _) (fun e => e)).mod (g _ _) (fun e => e), b2.mod (g _ _) (fun e => e), b3, (((hMe.out.mod (g _ _) (fun e => e)).mod (g _ _) (fun e => e)).mod (g _ _) (fun e => e)).mod (g _ _) (fun e => e), .slice none 0 0, [], ((b0.mod (g _ _) (fun e => e)).mod (g _ _) (fun e => e)).mod (g _ _) (fun e => e), ⟨World.ownsRow_nil _ _ _ _, fun x hx => by simp at hx⟩, by simp, rfl⟩
      rw [hW0]
      clear hW0 hMe
      refine wpIn_wide.1 (?_ : Code.wpIn Fence.wide 5 _ _ _ _ _)
      obtain ⟨b, off, hab⟩ : ∃ b off, 0 < k → a = some ⟨b, off, none⟩ := by
        by_cases h0 : 0 < k
        · obtain ⟨b, off, e, _⟩ := H.out.cells 0 (l[0]'(by omega)) (by simp)
          exact ⟨b, off, fun _ => e⟩
        · exact ⟨0, 0, fun h => absurd h h0⟩
      refine rangeFunc_upd (fun t x => (t.setIfInBounds 45 (chunkV b off k x)).setIfInBounds 8 (chunkV b off k x)) rfl (by decide) (gf := 35) (lb := #[.pointer (some ⟨wr.heap.size + 1 + 1 + 1, 0, none⟩), .pointer (some ⟨wr.heap.size + 1 + 1 + 1 + 1, 0, none⟩)]) rfl trivial (enters_of Try.func35 (by kernel_rfl) rfl)
        (fun x : Nat => #[chunkV b off k x]) (fun _ => rfl) (NewI w a k cap l wr.heap.size (wr.heap.size + 1) (wr.heap.size + 3) (wr.heap.size + 4)) (fun _ _ _ => False) (fun st _ => st + 64) (fun st x => x = st ∧ x < k) (fun st => k ≤ st ∧ st % 64 = 0 ∧ st < k + 64) 0 ?hI ?hIx hI0 ?hiter ?assign ?body ?done ?stop
      case hI => exact NewI.stable (by omega) (by omega)
      case hIx => intro _ _ _ _ h _; exact h.elim
      case hiter =>
        intro l' J Jx W hJI hJ hY h0
        exact chunk1_any Fence.wide rfl (5 - 1) a b off k cap _ _ hab hle (by omega) hlen _ (fun i W h => ⟨h.2.2.1, h.2.2.2.1⟩) (fun i W h => by
          obtain ⟨m0, k1, k2, k3, im, v, bl, kd, ⟨ho, hb⟩, e, e2⟩ := h
          exact ⟨m0.drew, k1, k2, k3, im, v, bl, kd, ⟨ho, fun x hx => (hb x hx).grown (Mod.drew (Mod.refl none_ W))⟩, e, e2⟩) l' J Jx W hJI hJ hY h0
      case assign =>
        intro l' x W K hK
        gi_wp2
        exact hK
      case stop =>
        rintro D c s W h
        exact h.elim
      case body =>
        rintro l' st x W hI ⟨rfl, hx⟩
        obtain ⟨m0, kb, ks, kn, im, v, bl, kd, ⟨ho, hbl⟩, hfl, hbn⟩ := hI
        obtain rfl := hab (by omega)
        rw [chunkV_eq]
        obtain ⟨m, hm⟩ : ∃ m, m = min 64 (k - x) := ⟨_, rfl⟩
        rw [← hm]
        have hm1 : 1 ≤ m ∧ m ≤ 64 ∧ x + m ≤ k := by omega
        have HM := Lib.hid hm
        obtain ⟨va, vc, rfl⟩ : ∃ va vc, v = .slice va bl.length vc := by
          rcases ownsRow_blk ho with ⟨rfl, h0, _⟩ | ⟨g, c', _, rfl, _⟩
          · exact ⟨none, 0, by rw [h0]⟩
          · exact ⟨_, c', rfl⟩
        have c0 : W.drew.cell? ⟨wr.heap.size + 1 + 1, 0, none⟩ = some (.pointer (some ⟨wr.heap.size + 1, 0, none⟩)) := by
          have := kb.cell 0
          exact this
        have c1 : W.drew.cell? ⟨wr.heap.size + 1, 0, none⟩ = some (.slice va bl.length vc) := by
          have := kd.cell 0
          exact this
        have f1 : W.drew.frozen? ⟨wr.heap.size + 1, 0, none⟩ = false := kd.frozen 0
        have HC := Lib.hid ((H.out.grown m0).sub x m hm1.2.2)
        obtain ⟨i0, hi0, hz0, hz1, hz2⟩ := info_parts infoPtr
        have hnb : bl.length ≤ 1099511627776 := by omega
        have KB := Lib.hid kb
        have KD := Lib.hid kd
        have HO := Lib.hid ho
        have WM := Lib.hid m0
        have KS := Lib.hid ks
        have KN := Lib.hid kn
        have IM := Lib.hid im
        have HBL := Lib.hid hbl
        have HFL := Lib.hid hfl
        clear hm kb kd ho m0 hab ks kn im hbl hfl hi0 hz0 hz1 hz2 i0
        simp only [List.setIfInBounds_toArray, List.set_cons_zero, List.set_cons_succ]
        gi_wp2_with fail
        refine round_held (S := fun w' => w'.cell? ⟨wr.heap.size + 1 + 1, 0, none⟩ = some (.pointer (some ⟨wr.heap.size + 1, 0, none⟩))) (by kernel_rfl) (by kernel_rfl) (fun ⟨_, _, h⟩ => h) c0 (fun hS => ?_)
        refine wpAnyH_take (i := 0) (v := .pointer (some ⟨wr.heap.size + 1, 0, none⟩)) rfl (by kernel_rfl) (by kernel_rfl) (by kernel_rfl) (fun _ _ _ h => h) (Or.inl ⟨by rfl, ?_⟩) hS ?_
        · intro w' hw'; go_simp
        simp only [Act.put, List.setIfInBounds_toArray, List.set_cons_zero, List.set_cons_succ]
        refine wpAnyH_take (i := 1) (v := .pointer (some ⟨wr.heap.size + 1, 0, none⟩)) rfl (by kernel_rfl) (by kernel_rfl) (by kernel_rfl) (fun _ _ _ h => h) (Or.inl ⟨by rfl, ?_⟩) hS ?_
        · intro w' hw'; go_simp
        simp only [Act.put, List.setIfInBounds_toArray, List.set_cons_zero, List.set_cons_succ]
        refine wpAnyH_take (i := 2) (v := .pointer (some ⟨wr.heap.size + 1, 0, none⟩)) rfl (by kernel_rfl) (by kernel_rfl) (by kernel_rfl) (fun _ _ _ h => h) (Or.inl ⟨by rfl, ?_⟩) hS ?_
        · intro w' hw'; go_simp
        simp only [Act.put, List.setIfInBounds_toArray, List.set_cons_zero, List.set_cons_succ]
        refine wpAnyH_take (i := 3) (v := .pointer (some ⟨wr.heap.size + 1, 0, none⟩)) rfl (by kernel_rfl) (by kernel_rfl) (by kernel_rfl) (fun _ _ _ h => h) (Or.inl ⟨by rfl, ?_⟩) hS ?_
        · intro w' hw'; go_simp
        simp only [Act.put, List.setIfInBounds_toArray, List.set_cons_zero, List.set_cons_succ]
        refine wpAnyH_take (i := 5) (v := .slice (some ⟨b, off + x * 5, none⟩) m m) rfl (by kernel_rfl) (by kernel_rfl) (by kernel_rfl) (fun _ _ _ h => h) (Or.inl ⟨by rfl, ?_⟩) hS ?_
        · intro w' hw'; go_simp
        simp only [Act.put, List.setIfInBounds_toArray, List.set_cons_zero, List.set_cons_succ]
        refine wpAnyH_ready (rs := [4, 6]) (by kernel_rfl) (by simp) (AllReadyH.cons rfl (fun K hK => ?_) <| AllReadyH.cons rfl (fun K hK => ?_) <| AllReadyH.nil)
        · go_simp
          refine hK.out _ _ hS (fun hS => ?_)
          clear hK K
          try simp only [Act.put, List.setIfInBounds_toArray, List.set_cons_zero, List.set_cons_succ]
          refine wpAnyH_ready (rs := [6]) (by kernel_rfl) (by simp) (AllReadyH.cons rfl (fun K hK => ?_) <| AllReadyH.nil)
          go_simp
          refine (newBlock_any _ b (off + x * 5) m m _ (HC.out.grown (Mod.drew (Mod.refl none_ W))) (by omega)).mono ?_
          rintro e w3 ⟨p, rfl, hB, m3⟩
          obtain ⟨va', vc', w4, hrun, hown, hmg, hd4, hb4⟩ := bodyArm (p := p) HO.out hnb WM.out.size m3 KD.out KB.out
          have d0 := m3.cell (p := ⟨wr.heap.size + 1 + 1, 0, none⟩) (fun e => e) c0
          have e1 := m3.cell (p := ⟨wr.heap.size + 1, 0, none⟩) (fun e => e) c1
          have s1 := block_lt_of_cell e1
          have d0a := ((Mod.refl none_ w3).alloc (.cells #[.pointer (some ⟨p, 0, none⟩)] 66)).cell (p := ⟨wr.heap.size + 1 + 1, 0, none⟩) (fun e => e) d0
          have d1 : w4.cell? ⟨wr.heap.size + 1, 0, none⟩ = some (.slice va bl.length vc) := hd4.cell 0
          have d2 := hd4.frozen 0
          have d4 : w4.cell? ⟨wr.heap.size + 1 + 1, 0, none⟩ = some (.pointer (some ⟨wr.heap.size + 1, 0, none⟩)) := hb4.cell 0
          have d5 : (w4.setCell ⟨wr.heap.size + 1, 0, none⟩ (.slice va' (bl.length + 1) vc')).cell? ⟨wr.heap.size + 1 + 1, 0, none⟩ = some (.pointer (some ⟨wr.heap.size + 1, 0, none⟩)) := ((Mod.refl (one (wr.heap.size + 1)) w4).setCell ⟨wr.heap.size + 1, 0, none⟩ (fun _ => rfl) _).cell (p := ⟨wr.heap.size + 1 + 1, 0, none⟩) (fun e => by have e' : wr.heap.size + 1 + 1 = wr.heap.size + 1 := e; omega) d4
          have END := Lib.hid (bodyEnd (by omega) H.out.n WM.out KB.out KS.out KN.out IM.out HO.out HBL.out HFL.out hbn rfl m3 (by rw [← HM.out]; exact hB) hown hmg hd4)
          clear hB m3 hown hmg hd4 hb4
          dsimp only
          refine hK.out _ _ d0 (fun hS => ?_)
          clear hK K
          try simp only [Act.put, List.setIfInBounds_toArray, List.set_cons_zero, List.set_cons_succ]
          refine wpAnyH_ready (rs := [7]) (by kernel_rfl) (by simp) (AllReadyH.cons rfl (fun K hK => ?_) <| AllReadyH.nil)
          go_simp
          refine hK.out _ _ d0a (fun hS => ?_)
          clear hK K
          try simp only [Act.put, List.setIfInBounds_toArray, List.set_cons_zero, List.set_cons_succ]
          refine wpAnyH_ready (rs := [8]) (by kernel_rfl) (by simp) (AllReadyH.cons rfl (fun K hK => ?_) <| AllReadyH.nil)
          go_simp
          refine hK.out _ _ d4 (fun hS => ?_)
          clear hK K
          try simp only [Act.put, List.setIfInBounds_toArray, List.set_cons_zero, List.set_cons_succ]
          refine wpAnyH_take (i := 9) (v := .pointer (some ⟨wr.heap.size + 1, 0, none⟩)) rfl (by kernel_rfl) (by kernel_rfl) (by kernel_rfl) (fun _ _ _ h => h) (Or.inl ⟨by rfl, ?_⟩) hS ?_
          · intro w' hw'; go_simp
          simp only [Act.put, List.setIfInBounds_toArray, List.set_cons_zero, List.set_cons_succ]
          refine wpAnyH_take (i := 10) (v := .pointer (some ⟨wr.heap.size + 1, 0, none⟩)) rfl (by kernel_rfl) (by kernel_rfl) (by kernel_rfl) (fun _ _ _ h => h) (Or.inl ⟨by rfl, ?_⟩) hS ?_
          · intro w' hw'; go_simp
          simp only [Act.put, List.setIfInBounds_toArray, List.set_cons_zero, List.set_cons_succ]
          refine wpAnyH_ready (rs := [11]) (by kernel_rfl) (by simp) (AllReadyH.cons rfl (fun K hK => ?_) <| AllReadyH.nil)
          go_simp
          refine hK.out _ _ d5 (fun hS => ?_)
          clear hK K
          try simp only [Act.put, List.setIfInBounds_toArray, List.set_cons_zero, List.set_cons_succ]
          refine wpAnyH_done (by kernel_rfl) ?_ _
          exact END.out
        · go_simp
          refine (newBlock_any _ b (off + x * 5) m m _ (HC.out.grown (Mod.drew (Mod.refl none_ W))) (by omega)).mono ?_
          rintro e w3 ⟨p, rfl, hB, m3⟩
          obtain ⟨va', vc', w4, hrun, hown, hmg, hd4, hb4⟩ := bodyArm (p := p) HO.out hnb WM.out.size m3 KD.out KB.out
          have d0 := m3.cell (p := ⟨wr.heap.size + 1 + 1, 0, none⟩) (fun e => e) c0
          have e1 := m3.cell (p := ⟨wr.heap.size + 1, 0, none⟩) (fun e => e) c1
          have s1 := block_lt_of_cell e1
          have d0a := ((Mod.refl none_ w3).alloc (.cells #[.pointer (some ⟨p, 0, none⟩)] 66)).cell (p := ⟨wr.heap.size + 1 + 1, 0, none⟩) (fun e => e) d0
          have d1 : w4.cell? ⟨wr.heap.size + 1, 0, none⟩ = some (.slice va bl.length vc) := hd4.cell 0
          have d2 := hd4.frozen 0
          have d4 : w4.cell? ⟨wr.heap.size + 1 + 1, 0, none⟩ = some (.pointer (some ⟨wr.heap.size + 1, 0, none⟩)) := hb4.cell 0
          have d5 : (w4.setCell ⟨wr.heap.size + 1, 0, none⟩ (.slice va' (bl.length + 1) vc')).cell? ⟨wr.heap.size + 1 + 1, 0, none⟩ = some (.pointer (some ⟨wr.heap.size + 1, 0, none⟩)) := ((Mod.refl (one (wr.heap.size + 1)) w4).setCell ⟨wr.heap.size + 1, 0, none⟩ (fun _ => rfl) _).cell (p := ⟨wr.heap.size + 1 + 1, 0, none⟩) (fun e => by have e' : wr.heap.size + 1 + 1 = wr.heap.size + 1 := e; omega) d4
          have END := Lib.hid (bodyEnd (by omega) H.out.n WM.out KB.out KS.out KN.out IM.out HO.out HBL.out HFL.out hbn rfl m3 (by rw [← HM.out]; exact hB) hown hmg hd4)
          clear hB m3 hown hmg hd4 hb4
          dsimp only
          refine hK.out _ _ d0 (fun hS => ?_)
          clear hK K
          try simp only [Act.put, List.setIfInBounds_toArray, List.set_cons_zero, List.set_cons_succ]
          refine wpAnyH_ready (rs := [4, 7]) (by kernel_rfl) (by simp) (AllReadyH.cons rfl (fun K hK => ?_) <| AllReadyH.cons rfl (fun K hK => ?_) <| AllReadyH.nil)
          · go_simp
            refine hK.out _ _ hS (fun hS => ?_)
            clear hK K
            try simp only [Act.put, List.setIfInBounds_toArray, List.set_cons_zero, List.set_cons_succ]
            refine wpAnyH_ready (rs := [7]) (by kernel_rfl) (by simp) (AllReadyH.cons rfl (fun K hK => ?_) <| AllReadyH.nil)
            go_simp
            refine hK.out _ _ d0a (fun hS => ?_)
            clear hK K
            try simp only [Act.put, List.setIfInBounds_toArray, List.set_cons_zero, List.set_cons_succ]
            refine wpAnyH_ready (rs := [8]) (by kernel_rfl) (by simp) (AllReadyH.cons rfl (fun K hK => ?_) <| AllReadyH.nil)
            go_simp
            refine hK.out _ _ d4 (fun hS => ?_)
            clear hK K
            try simp only [Act.put, List.setIfInBounds_toArray, List.set_cons_zero, List.set_cons_succ]
            refine wpAnyH_take (i := 9) (v := .pointer (some ⟨wr.heap.size + 1, 0, none⟩)) rfl (by kernel_rfl) (by kernel_rfl) (by kernel_rfl) (fun _ _ _ h => h) (Or.inl ⟨by rfl, ?_⟩) hS ?_
            · intro w' hw'; go_simp
            simp only [Act.put, List.setIfInBounds_toArray, List.set_cons_zero, List.set_cons_succ]
            refine wpAnyH_take (i := 10) (v := .pointer (some ⟨wr.heap.size + 1, 0, none⟩)) rfl (by kernel_rfl) (by kernel_rfl) (by kernel_rfl) (fun _ _ _ h => h) (Or.inl ⟨by rfl, ?_⟩) hS ?_
            · intro w' hw'; go_simp
            simp only [Act.put, List.setIfInBounds_toArray, List.set_cons_zero, List.set_cons_succ]
            refine wpAnyH_ready (rs := [11]) (by kernel_rfl) (by simp) (AllReadyH.cons rfl (fun K hK => ?_) <| AllReadyH.nil)
            go_simp
            refine hK.out _ _ d5 (fun hS => ?_)
            clear hK K
            try simp only [Act.put, List.setIfInBounds_toArray, List.set_cons_zero, List.set_cons_succ]
            refine wpAnyH_done (by kernel_rfl) ?_ _
            exact END.out
          · go_simp
            refine hK.out _ _ d0a (fun hS => ?_)
            clear hK K
            try simp only [Act.put, List.setIfInBounds_toArray, List.set_cons_zero, List.set_cons_succ]
            refine wpAnyH_ready (rs := [4]) (by kernel_rfl) (by simp) (AllReadyH.cons rfl (fun K hK => ?_) <| AllReadyH.nil)
            go_simp
            refine hK.out _ _ hS (fun hS => ?_)
            clear hK K
            try simp only [Act.put, List.setIfInBounds_toArray, List.set_cons_zero, List.set_cons_succ]
            refine wpAnyH_ready (rs := [8]) (by kernel_rfl) (by simp) (AllReadyH.cons rfl (fun K hK => ?_) <| AllReadyH.nil)
            go_simp
            refine hK.out _ _ d4 (fun hS => ?_)
            clear hK K
            try simp only [Act.put, List.setIfInBounds_toArray, List.set_cons_zero, List.set_cons_succ]
            refine wpAnyH_take (i := 9) (v := .pointer (some ⟨wr.heap.size + 1, 0, none⟩)) rfl (by kernel_rfl) (by kernel_rfl) (by kernel_rfl) (fun _ _ _ h => h) (Or.inl ⟨by rfl, ?_⟩) hS ?_
            · intro w' hw'; go_simp
            simp only [Act.put, List.setIfInBounds_toArray, List.set_cons_zero, List.set_cons_succ]
            refine wpAnyH_take (i := 10) (v := .pointer (some ⟨wr.heap.size + 1, 0, none⟩)) rfl (by kernel_rfl) (by kernel_rfl) (by kernel_rfl) (fun _ _ _ h => h) (Or.inl ⟨by rfl, ?_⟩) hS ?_
            · intro w' hw'; go_simp
            simp only [Act.put, List.setIfInBounds_toArray, List.set_cons_zero, List.set_cons_succ]
            refine wpAnyH_ready (rs := [11]) (by kernel_rfl) (by simp) (AllReadyH.cons rfl (fun K hK => ?_) <| AllReadyH.nil)
            go_simp
            refine hK.out _ _ d5 (fun hS => ?_)
            clear hK K
            try simp only [Act.put, List.setIfInBounds_toArray, List.set_cons_zero, List.set_cons_succ]
            refine wpAnyH_done (by kernel_rfl) ?_ _
            exact END.out
      case done =>
        rintro Df st W ⟨hs1, hs2, hs3⟩ ⟨m0, kb, ks, kn, im, v, bl, kd, hdb, hfl, hbn⟩ hDf hlt
        have hflk : bl.flatMap Prod.snd = l := by rw [hfl]; exact List.take_of_length_le (by omega)
        obtain ⟨MB, hMB⟩ : ∃ MB, MB = wr.heap.size := ⟨_, rfl⟩
        obtain ⟨DD, hDD⟩ : ∃ DD, DD = wr.heap.size + 1 := ⟨_, rfl⟩
        obtain ⟨DB, hDB⟩ : ∃ DB, DB = wr.heap.size + 1 + 1 := ⟨_, rfl⟩
        rw [← hDB] at kb ⊢
        rw [← hDD] at kb kd ⊢
        rw [← hMB] at im kd
        have hord : MB < DD ∧ DD < DB ∧ DB < W0.heap.size ∧ w.heap.size ≤ MB := by omega
        clear hMB hDD hDB
        have hnm : ∀ cs t, ¬ Blk W MB cs t := fun cs t hb => imap_blk im hb
        have hnf : MB ≠ Df := fun e => by
          subst e
          obtain ⟨es, clock, hh, _⟩ := im
          rw [hh] at hDf; cases hDf
        have CN := Lib.hid (counts_nil im)
        have M0 := Lib.hid m0
        have KB := Lib.hid kb
        have KD := Lib.hid kd
        have HDB := Lib.hid hdb
        have HFL := Lib.hid hflk
        have HDF := Lib.hid hDf
        clear m0 kb ks kn im kd hdb hfl hflk hDf
        have hl2 := H.out.n
        go_wp2_with fail
        go_loopg [59] k (fun g s59 wx => ∃ i n' : Nat, g = k - i ∧ s59 = .int .i64 i ∧ i ≤ k ∧ Mod (one MB) W wx ∧ Counts Try.prog 39 wx MB ((l.take i).map CellV.name) n')
        case atStart => exact ⟨0, 0, rfl, rfl, Nat.zero_le _, Mod.refl _ _, CN.out⟩
        case round =>
          obtain ⟨i, n', rfl, rfl, hi, m1, hc⟩ := hrel
          have M1 := Lib.hid m1
          have CC := Lib.hid hc
          have kbx := KB.out.mod m1 (fun e => by have e' : DB = MB := e; omega)
          have kdx := KD.out.mod m1 (fun e => by have e' : DD = MB := e; omega)
          by_cases hik : i < k
          · obtain ⟨c, hx⟩ : ∃ x, l[i]? = some x := ⟨l[i]'(by omega), by simp⟩
            obtain ⟨b, off, rfl, hr⟩ := H.out.cells i _ hx
            have hcok := H.out.ok _ (List.mem_of_getElem? hx)
            have far : ∀ {p : Addr} {v : Value}, w.cell? p = some v → wr.cell? p = some v := fun h => m1.cell (fun e => by have := block_lt_of_cell h; have e' : _ = MB := e; omega) (M0.out.cell (fun e => e) h)
            have c0 := far (hr 0 _ rfl)
            have c1 := far (hr 1 _ rfl)
            have c2 := far (hr 2 _ rfl)
            have c3 := far (hr 3 _ rfl)
            have c4 := far (hr 4 _ rfl)
            rw [Nat.add_zero] at c0
            have htk : l.take (i + 1) = l.take i ++ [c] := by
              obtain ⟨hk', e⟩ := List.getElem?_eq_some_iff.1 hx
              rw [List.take_succ_eq_append_getElem hk', e]
            have HT := Lib.hid htk
            have OK := Lib.hid hcok
            have hlb := block_lt_of_cell c0
            have mA := (Mod.refl none_ wr).alloc (.cells #[.int .i64 c.site, .int .i64 c.seq, .int .i64 c.off, .int .i32 c.r, .bool c.gone] 41)
            have kA := Blk.new (w := wr) (cs := [.int .i64 c.site, .int .i64 c.seq, .int .i64 c.off, .int .i32 c.r, .bool c.gone]) (t := 41)
            have MA := Lib.hid (m1.trans (mA.mono (T := one MB) (fun _ _ e => e.elim)))
            have CA := Lib.hid (CC.out.mod mA (fun e => e))
            have KA := Lib.hid kA
            have KBA := Lib.hid (kbx.mod mA (fun e => e))
            have KDA := Lib.hid (kdx.mod mA (fun e => e))
            clear mA kA kbx kdx hx hr hcok htk m1 hc far
            go_upto_region 20 with fail
            generalize wr.alloc (.cells #[.int .i64 c.site, .int .i64 c.seq, .int .i64 c.off, .int .i32 c.r, .bool c.gone] 41) = wA at MA CA KA KBA KDA ⊢
            clear c0 c1 c2 c3 c4
            have e0 : wA.cell? ⟨wr.heap.size, 0, none⟩ = some (.int .i64 c.site) := by rw [KA.out.cell]; rfl
            have e1 : wA.cell? ⟨wr.heap.size, 1, none⟩ = some (.int .i64 c.seq) := by rw [KA.out.cell]; rfl
            have q0 : wA.cell? ⟨DB, 0, none⟩ = some (.pointer (some ⟨DD, 0, none⟩)) := KBA.out.cell 0
            have q1 : wA.cell? ⟨DD, 1, none⟩ = some (.map (some MB)) := KDA.out.cell 1
            obtain ⟨S, hS⟩ : ∃ S, S = wr.heap.size := ⟨_, rfl⟩
            rw [← hS] at KA e0 e1 ⊢
            clear hS
            have CD : Counts Try.prog 39 wA.drew MB ((l.take i).map CellV.name) n' := CA.out.mod (Mod.drew (Mod.refl none_ wA)) (fun e => e)
            obtain ⟨q, s, w3, w4, hq, h1, h2, h3, h4, M3, M4, C4⟩ := CD.incr kName Try.underlying59 zInt (okName OK.out)
            rw [List.length_map, List.length_take] at hq
            have hwq : IntKind.i64.wrap ((q : Int) + 1) = (q : Int) + 1 := by rw [IntKind.wrap_i64]; omega
            have C5 := Lib.hid (show Counts Try.prog 39 w4 MB ((l.take (i + 1)).map CellV.name) (if c.name ∈ (l.take i).map CellV.name then n' else n' + 1) by rw [HT.out, List.map_append]; exact C4)
            have M5 := Lib.hid ((Mod.drew MA.out).trans M4)
            clear C4 M3 M4 CD
            go_wp2_with fail
            go_region_law (fail)
            all_goals go_wp2_with fail
            all_goals go_roundg (k - (i + 1))
            all_goals first
              | omega
              | exact ⟨i + 1, _, rfl, by go_num, by omega, M5.out, C5.out⟩
          · obtain rfl : i = k := by omega
            have e : l.take i = l := List.take_of_length_le (by omega)
            rw [e] at hc
            have hdf : wr.heap[Df]? = some (.deferred (some [])) := m1.blk (fun e => hnf e.symm) HDF.out
            have q0 : wr.cell? ⟨DB, 0, none⟩ = some (.pointer (some ⟨DD, 0, none⟩)) := kbx.cell 0
            have mP := loopOwn_put (B := W0.heap.size) (.deferred none) hlt hdf rfl
            have hle2 : w.heap.size ≤ W0.heap.size := by omega
            have FIN : Mod none_ w (wr.putObj Df (.deferred none)) ∧ DocIs (wr.putObj Df (.deferred none)) w.heap.size DD l := by
              refine ⟨(M0.out.transIn m1 (fun b hb e => by have e' : b = MB := e; omega)).transOwn mP hle2, ⟨v, MB, bl, n', kdx.own mP, (HDB.out.map m1 hnm).own mP, HFL.out, hc.mod mP (fun s => by have := s.1; omega)⟩, by omega⟩
            have FIN := Lib.hid FIN
            clear CC hc m1 kbx kdx mP e
            go_wp2_with fail
            refine ⟨by simp, .inl ⟨_, _, rfl, run_takeDeferred hdf, ?_⟩⟩
            refine ⟨_, results_tmp2 rfl _ _ _, FIN.out.1, fun h => absurd HE.out h, fun _ => ⟨DD, rfl, FIN.out.2⟩⟩

end Go.Proofs.Ytficfoedofkhhaa
