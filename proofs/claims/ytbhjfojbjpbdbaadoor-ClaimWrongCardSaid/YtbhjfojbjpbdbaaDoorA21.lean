/-
  The contract of First (package claim). Written by this session; printed by wip/tools/a21.py.
-/
import Derived.Test.YtbhjfojbjpbdbaaDoorA17
namespace Go.Proofs.YtbhjfojbjpbdbaaDoor
open Go.RowKit

theorem find_range {p : Nat → Bool} : ∀ {n q : Nat}, q < n → (∀ k, k < q → p k = false) → p q = true → (List.range n).find? p = some q := by
  intro n q hq h1 h2
  rw [List.find?_range_eq_some]
  exact ⟨h2, by simpa using hq, fun j hj => by simp [h1 j hj]⟩
theorem find_range_none {p : Nat → Bool} {n : Nat} (h : ∀ k, k < n → p k = false) : (List.range n).find? p = none := by
  rw [List.find?_eq_none]
  intro k hk
  simp [h k (List.mem_range.1 hk)]

theorem firstS_some {b : Bk} {q : Nat} (h : askE b true = 0) (hf : ((List.range b.sts.length).find? fun k => decide (0 < toldLo (lateT b k) (truths b))) = some q) : firstS b = ((q : Int), 0) := by
  unfold firstS
  rw [if_pos h, hf]
theorem firstS_none {b : Bk} (h : askE b true = 0) (hf : ((List.range b.sts.length).find? fun k => decide (0 < toldLo (lateT b k) (truths b))) = none) : firstS b = (0, 4) := by
  unfold firstS
  rw [if_pos h, hf]

set_option maxHeartbeats 1000000 in
theorem first1_any (W1 : World) (b : Bk) (sa ka ta : Option Addr) (sl sc kl kc tl tc n : Nat) (mo : Option Nat) (t : Tr) (j P8 P6 : Nat) (ht : TrOk t) (hj : j < b.sts.length) (h3 : b.sts.length ≤ 3) (hn : n ≤ W1.heap.size) (hs : SlOf W1 n 7 (.slice sa sl sc) (stCells b.sts))
    (hd : 0 ≤ b.due j ∧ b.due j ≤ 1000) (h6 : W1.heap[P6]? = some (.cells #[.int .i64 (j : Int)] 3)) (h8 : W1.heap[P8]? = some (.cells (b.cells9 (.slice sa sl sc) (.slice ka kl kc) (.map mo) (.slice ta tl tc)).toArray 79)) :
    Calls Tryd.prog 85 #[.agg t.cells.toArray, .pointer (some ⟨P8, 0, none⟩), .pointer (some ⟨P6, 0, none⟩)] W1 fun e W' => e = .returned (.int .i64 (lateT b j t)) ∧ Below W1.heap.size W1 W' := by
  obtain ⟨V, hV⟩ : ∃ V, W1.alloc (.cells t.cells.toArray 87) = V := ⟨_, rfl⟩
  have hBV : Below W1.heap.size W1 V := by rw [← hV]; exact (Below.refl _ _).alloc (Nat.le_refl _) _
  have hT : V.heap[W1.heap.size]? = some (.cells t.cells.toArray 87) := by rw [← hV]; exact World.alloc_heap_new _ _
  have g6 := (hBV.block P6 (Array.getElem?_eq_some_iff.1 h6).1).trans h6
  have g8 := (hBV.block P8 (Array.getElem?_eq_some_iff.1 h8).1).trans h8
  have HS := Lib.hid (hs.below hn hBV)
  have HN := Lib.hid (Nat.le_trans hn hBV.size)
  have c6 : V.cell? ⟨P6, 0, none⟩ = some (.int .i64 (j : Int)) := blk_cell g6
  have p0 : V.cell? ⟨W1.heap.size, 0, none⟩ = some (.int .i64 t.w) := blk_cell hT
  have p1 : V.cell? ⟨W1.heap.size, 1, none⟩ = some (.int .i64 t.a0) := blk_cell hT
  have p2 : V.cell? ⟨W1.heap.size, 2, none⟩ = some (.int .i64 t.a1) := blk_cell hT
  have p3 : V.cell? ⟨W1.heap.size, 3, none⟩ = some (.int .i64 t.a2) := blk_cell hT
  have p4 : V.cell? ⟨W1.heap.size, 4, none⟩ = some (.int .i64 t.b0) := blk_cell hT
  have p5 : V.cell? ⟨W1.heap.size, 5, none⟩ = some (.int .i64 t.b1) := blk_cell hT
  have p6 : V.cell? ⟨W1.heap.size, 6, none⟩ = some (.int .i64 t.b2) := blk_cell hT
  have q0 : V.cell? ⟨P8, 0, none⟩ = some (.slice sa sl sc) := blk_cell g8
  have q1 : V.cell? ⟨P8, 1, none⟩ = some (.int .i64 b.wth) := blk_cell g8
  have q2 : V.cell? ⟨P8, 2, none⟩ = some (.int .i64 b.c0) := blk_cell g8
  have q3 : V.cell? ⟨P8, 3, none⟩ = some (.int .i64 b.c1) := blk_cell g8
  have q4 : V.cell? ⟨P8, 4, none⟩ = some (.int .i64 b.c2) := blk_cell g8
  have q5 : V.cell? ⟨P8, 5, none⟩ = some (.slice ka kl kc) := blk_cell g8
  have q6 : V.cell? ⟨P8, 6, none⟩ = some (.int .i64 b.rate) := blk_cell g8
  have q7 : V.cell? ⟨P8, 7, none⟩ = some (.map mo) := blk_cell g8
  have q8 : V.cell? ⟨P8, 8, none⟩ = some (.slice ta tl tc) := blk_cell g8
  have l6 := lt_of_cell c6
  have l8 := lt_of_cell q0
  clear hT g6 g8 h6 h8 hs hn
  simp only [Tr.cells]
  simp only [Tr.cells] at hV
  go_enter Tryd.func85, Tryd.ntmps85
  go_upto_region 1 with fail
  try rw [hV]
  clear hV
  go_wp2_with (go_at_call 77; refine (late_any V b (.slice sa sl sc) (.slice ka kl kc) (.map mo) (.slice ta tl tc) n t j HN.out HS.out hj h3 ht hd).mono ?_; rintro e w1 ⟨rfl, hb1⟩; have HB1 := Lib.hid hb1; clear hb1)
  go_ret
  exact ⟨rfl, hBV.trans (HB1.out.mono hBV.size)⟩

set_option maxRecDepth 100000 in
set_option maxHeartbeats 2000000 in
theorem first_ex (W : World) (b : Bk) (n : Nat) (sa ka : Option Addr) (n1 sc n2 kc : Nat) (hv : BookW W n sa ka n1 sc n2 kc b) (hG : Glob W) :
    Calls Tryd.prog 34 #[.agg (b.cells (.slice sa n1 sc) (.slice ka n2 kc)).toArray] W fun e W' => e = .returned (.tuple #[.int .i64 (firstS b).1, .int .i64 (firstS b).2]) ∧ Below W.heap.size W W' := by
  obtain ⟨V, hV⟩ : ∃ V, W.alloc (Obj.cells #[.slice sa n1 sc, .int .i64 b.wth, .int .i64 b.c0, .int .i64 b.c1, .int .i64 b.c2, .slice ka n2 kc, .int .i64 b.rate] 26) = V := ⟨_, rfl⟩
  have hBV : Below W.heap.size W V := by rw [← hV]; exact (Below.refl _ _).alloc (Nat.le_refl _) _
  have hb0 : V.heap[W.heap.size]? = some (Obj.cells #[.slice sa n1 sc, .int .i64 b.wth, .int .i64 b.c0, .int .i64 b.c1, .int .i64 b.c2, .slice ka n2 kc, .int .i64 b.rate] 26) := by rw [← hV]; exact World.alloc_heap_new _ _
  have hVz : W.heap.size < V.heap.size := (Array.getElem?_eq_some_iff.1 hb0).1
  have HGV := Lib.hid (hG.below hG.lt hBV)
  have HVB := Lib.hid (hv.below hv.hn hBV)
  have HN := Lib.hid hv.hn
  have c0 : V.cell? ⟨W.heap.size, 0, none⟩ = some (.slice sa n1 sc) := blk_cell hb0
  have c1 : V.cell? ⟨W.heap.size, 1, none⟩ = some (.int .i64 b.wth) := blk_cell hb0
  have c2 : V.cell? ⟨W.heap.size, 2, none⟩ = some (.int .i64 b.c0) := blk_cell hb0
  have c3 : V.cell? ⟨W.heap.size, 3, none⟩ = some (.int .i64 b.c1) := blk_cell hb0
  have c4 : V.cell? ⟨W.heap.size, 4, none⟩ = some (.int .i64 b.c2) := blk_cell hb0
  have c5 : V.cell? ⟨W.heap.size, 5, none⟩ = some (.slice ka n2 kc) := blk_cell hb0
  have c6 : V.cell? ⟨W.heap.size, 6, none⟩ = some (.int .i64 b.rate) := blk_cell hb0
  have HL1 := Lib.hid hv.l1
  have HB0 := Lib.hid hb0
  clear hv hG hb0
  simp only [Bk.cells]
  go_enter Tryd.func34, Tryd.ntmps34
  go_upto_region 2 with (first
    | (go_at_call 80; refine (asked_any V b true n sa ka n1 sc n2 kc HVB.out HGV.out).mono ?_; rintro e w2 ⟨x, sa', ka', ta, sl', sc', kl', kc', tl, tc, mo, rfl, hb2, hx⟩; have HB2 := Lib.hid hb2; have HX := Lib.hid hx; clear hb2 hx; simp only [Bk.cells9])
    | fail)
  obtain ⟨hBX, _, hC, hX⟩ := asked_new (V := V) (w2 := w2) (ka' := ka') (kl' := kl') (kc' := kc') (mo := mo) (x := x) ⟨HB2.out.os, HB2.out.tape, HB2.out.output, HB2.out.size, HB2.out.block⟩ HX.out
  simp only [Bk.cells9] at hBX hC hX
  obtain ⟨X, hXe⟩ : ∃ X, w2.alloc (.cells #[.slice sa' sl' sc', .int .i64 x.wth, .int .i64 x.c0, .int .i64 x.c1, .int .i64 x.c2, .slice ka' kl' kc', .int .i64 x.rate, .map mo, .slice ta tl tc] 79) = X := ⟨_, rfl⟩
  try rw [hXe]
  rw [hXe] at hBX hC hX
  clear hXe HB2 HX
  obtain ⟨P8, hP8⟩ : ∃ P8, w2.heap.size = P8 := ⟨_, rfl⟩
  rw [hP8] at hC ⊢
  clear hP8
  obtain ⟨E, hE⟩ : ∃ E, askE b true = E := ⟨_, rfl⟩
  rw [hE] at hX ⊢
  have hBW := hBV.trans (hBX.mono hBV.size)
  have HC := Lib.hid hC
  clear c0 c1 c2 c3 c4 c5 c6 hC
  have cx : X.cell? ⟨W.heap.size, 0, none⟩ = some (.slice sa n1 sc) := blk_cell ((hBX.block _ hVz).trans HB0.out)
  by_cases hE0 : E = 0
  · obtain ⟨rfl, rfl, rfl, rfl, hT⟩ := hX hE0
    have hask : askE x true = 0 := by rw [hE, hE0]
    obtain ⟨hok, _, hne⟩ := askE_zero hask
    have HT := Lib.hid hT
    have HNE := Lib.hid hne
    have HOK := Lib.hid (truths_ok (sound_of hok))
    have HSO := Lib.hid (sound_of hok)
    have HS := Lib.hid ((HVB.out.below (by have := HN.out; omega) hBX).hs)
    have HNX := Lib.hid (show n ≤ X.heap.size from Nat.le_trans HN.out hBW.size)
    have e0 : X.cell? ⟨P8, 0, none⟩ = some (.slice sa' sl' sc') := blk_cell HC.out
    have e1 : X.cell? ⟨P8, 1, none⟩ = some (.int .i64 x.wth) := blk_cell HC.out
    have e2 : X.cell? ⟨P8, 2, none⟩ = some (.int .i64 x.c0) := blk_cell HC.out
    have e3 : X.cell? ⟨P8, 3, none⟩ = some (.int .i64 x.c1) := blk_cell HC.out
    have e4 : X.cell? ⟨P8, 4, none⟩ = some (.int .i64 x.c2) := blk_cell HC.out
    have e5 : X.cell? ⟨P8, 5, none⟩ = some (.slice ka' kl' kc') := blk_cell HC.out
    have e6 : X.cell? ⟨P8, 6, none⟩ = some (.int .i64 x.rate) := blk_cell HC.out
    have e7 : X.cell? ⟨P8, 7, none⟩ = some (.map mo) := blk_cell HC.out
    have e8 : X.cell? ⟨P8, 8, none⟩ = some (.slice ta tl tc) := blk_cell HC.out
    have HASK := Lib.hid hask
    have hl3 := (bkOk_head hok).1
    have hsb : sl' ≤ 3 := by have := HL1.out; omega
    have HDU := Lib.hid (show ∀ j, 0 ≤ x.due j ∧ x.due j ≤ 1000 from fun j => by have := due_bd hok j; omega)
    have hlx : W.heap.size < X.heap.size := Nat.lt_of_lt_of_le hVz hBX.size
    have hfld := field32
    clear hX hE hT hne hask hok
    subst hE0
    go_wp2_with fail
    go_loopg [18] sl' (fun n i wx => ∃ (q : Nat), q ≤ sl' ∧ n = sl' - q ∧ i = .int .i64 (q : Int) ∧ (∀ k, k < q → decide (0 < toldLo (lateT x k) (truths x)) = false) ∧ Below X.heap.size X wx)
    case atStart => exact ⟨0, by omega, rfl, rfl, fun k hk => by omega, Below.refl _ _⟩
    case round =>
      obtain ⟨q, hq, hgk, rfl, hnone, hbx⟩ := hrel
      have HG2 := Lib.hid hgk
      have HNO := Lib.hid hnone
      clear hgk hnone
      by_cases hlt : q < sl'
      · go_upto_region 7 with fail
        obtain ⟨Y, hY⟩ : ∃ Y, wr.alloc (.cells #[.int .i64 (q : Int)] 3) = Y := ⟨_, rfl⟩
        have hY0 : Y.heap[wr.heap.size]? = some (.cells #[.int .i64 (q : Int)] 3) := by rw [← hY]; exact World.alloc_heap_new _ _
        have hXY : Below X.heap.size X Y := by rw [← hY]; exact hbx.alloc hbx.size _
        try rw [hY]
        clear hY
        obtain ⟨P6, hP6⟩ : ∃ P6, wr.heap.size = P6 := ⟨_, rfl⟩
        rw [hP6] at hY0 ⊢
        clear hP6
        have hY8 := (hXY.block P8 (Array.getElem?_eq_some_iff.1 HC.out).1).trans HC.out
        have y0 : Y.cell? ⟨P8, 0, none⟩ = some (.slice sa' sl' sc') := blk_cell hY8
        have y1 : Y.cell? ⟨P8, 1, none⟩ = some (.int .i64 x.wth) := blk_cell hY8
        have y2 : Y.cell? ⟨P8, 2, none⟩ = some (.int .i64 x.c0) := blk_cell hY8
        have y3 : Y.cell? ⟨P8, 3, none⟩ = some (.int .i64 x.c1) := blk_cell hY8
        have y4 : Y.cell? ⟨P8, 4, none⟩ = some (.int .i64 x.c2) := blk_cell hY8
        have y5 : Y.cell? ⟨P8, 5, none⟩ = some (.slice ka' kl' kc') := blk_cell hY8
        have y6 : Y.cell? ⟨P8, 6, none⟩ = some (.int .i64 x.rate) := blk_cell hY8
        have y7 : Y.cell? ⟨P8, 7, none⟩ = some (.map mo) := blk_cell hY8
        have y8 : Y.cell? ⟨P8, 8, none⟩ = some (.slice ta tl tc) := blk_cell hY8
        have hfn : FnOf Y 85 #[] #[.pointer (some ⟨P8, 0, none⟩), .pointer (some ⟨P6, 0, none⟩)] (lateT x q) := fun t W1 ht hb1 =>
          first1_any W1 x sa' ka' ta sl' sc' kl' kc' tl tc n mo t q P8 P6 ht (by have := HL1.out; omega) (by omega) (Nat.le_trans HNX.out (Nat.le_trans hXY.size hb1.size)) ((HS.out.below HNX.out hXY).below (Nat.le_trans HNX.out hXY.size) hb1) (HDU.out q) ((hb1.block _ (Array.getElem?_eq_some_iff.1 hY0).1).trans hY0) ((hb1.block _ (Array.getElem?_eq_some_iff.1 hY8).1).trans hY8)
        have HFN := Lib.hid hfn
        have HY0 := Lib.hid hY0
        have HXY := Lib.hid hXY
        have hl6 := (Array.getElem?_eq_some_iff.1 hY0).1
        clear hfn hY0 hXY hY8
        obtain ⟨lo, hlo⟩ : ∃ lo, toldLo (lateT x q) (truths x) = lo := ⟨_, rfl⟩
        have HLO := Lib.hid hlo
        by_cases hp : 0 < lo
        · go_wp2_with fail
          (refine (told_any Y x (.slice sa' sl' sc') (.slice ka' kl' kc') (.map mo) (.slice ta tl tc) (truths x) X.heap.size 85 #[] #[.pointer (some ⟨P8, 0, none⟩), .pointer (some ⟨P6, 0, none⟩)] (lateT x q) HXY.out.size (HT.out.below (Nat.le_refl _) HXY.out) HNE.out HOK.out HFN.out (enters_of Tryd.func85 (by kernel_rfl) rfl)).mono ?_; rintro e w7 ⟨rfl, hb7⟩; rw [hlo]; have k6 : w7.cell? ⟨P6, 0, none⟩ = some (.int .i64 (q : Int)) := (hb7.cell (p := ⟨P6, 0, none⟩) hl6).trans (blk_cell HY0.out); have HB7 := Lib.hid hb7; clear hb7)
          go_wp2_with fail
          refine bodyPost_ret (results_tmp2 rfl _ _ _) rfl ⟨?_, (hBW.trans (HXY.out.mono hBW.size)).trans (HB7.out.mono (Nat.le_trans hBW.size HXY.out.size))⟩
          rw [firstS_some HASK.out (find_range (q := q) (by have := HL1.out; omega) HNO.out (by rw [HLO.out]; simpa using hp))]
          rfl
        · go_wp2_with fail
          (refine (told_any Y x (.slice sa' sl' sc') (.slice ka' kl' kc') (.map mo) (.slice ta tl tc) (truths x) X.heap.size 85 #[] #[.pointer (some ⟨P8, 0, none⟩), .pointer (some ⟨P6, 0, none⟩)] (lateT x q) HXY.out.size (HT.out.below (Nat.le_refl _) HXY.out) HNE.out HOK.out HFN.out (enters_of Tryd.func85 (by kernel_rfl) rfl)).mono ?_; rintro e w7 ⟨rfl, hb7⟩; rw [hlo]; have HB7 := Lib.hid hb7; clear hb7)
          go_wp2_with fail
          go_roundg (sl' - (q + 1))
          case measure => rw [HG2.out]; omega
          case rel => exact ⟨q + 1, by omega, rfl, by go_num, fun k hk => by
            rcases Nat.lt_or_ge k q with h | h
            · exact HNO.out k h
            · (rw [show k = q from Nat.le_antisymm (Nat.le_of_lt_succ hk) h, HLO.out]; simpa using hp), HXY.out.trans (HB7.out.mono HXY.out.size)⟩
      · go_wp2_with fail
        refine bodyPost_ret (results_tmp2 rfl _ _ _) rfl ⟨?_, hBW.trans (hbx.mono hBW.size)⟩
        rw [firstS_none HASK.out (find_range_none (fun k hk => HNO.out k (by have := HL1.out; omega)))]
        rfl
  · have HSS := Lib.hid (show firstS b = (0, E) by unfold firstS; rw [hE, if_neg hE0])
    clear hX hE
    go_wp2_with fail
    refine bodyPost_ret (results_tmp2 rfl _ _ _) rfl ⟨?_, hBW⟩
    rw [HSS.out]
    rfl
end Go.Proofs.YtbhjfojbjpbdbaaDoor
