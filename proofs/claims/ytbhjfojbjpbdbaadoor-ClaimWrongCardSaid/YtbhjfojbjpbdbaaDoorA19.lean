/-
  The contracts of Weather, Blame and First (package claim). Written by this session; printed by wip/tools/a19.py.
-/
import Derived.Test.YtbhjfojbjpbdbaaDoorA17
namespace Go.Proofs.YtbhjfojbjpbdbaaDoor
open Go.RowKit

theorem shl3 {w : Int} (h : 0 ≤ w ∧ w ≤ 2) {s : Nat} (hs : s < 8) : bits BinOp.or IntKind.i64 (s : Int) (wrap64 (2 ^ w.toNat)) = ((s ||| (1 <<< w.toNat) : Nat) : Int) ∧ (s ||| (1 <<< w.toNat)) < 8 := by
  have h1 : w = 0 ∨ w = 1 ∨ w = 2 := by omega
  have h2 : s = 0 ∨ s = 1 ∨ s = 2 ∨ s = 3 ∨ s = 4 ∨ s = 5 ∨ s = 6 ∨ s = 7 := by omega
  rcases h1 with rfl | rfl | rfl <;> rcases h2 with rfl | rfl | rfl | rfl | rfl | rfl | rfl | rfl <;> exact ⟨by kernel_rfl, by decide⟩

set_option maxRecDepth 100000 in
set_option maxHeartbeats 2000000 in
theorem weather_ex (W : World) (b : Bk) (n : Nat) (sa ka : Option Addr) (n1 sc n2 kc : Nat) (hv : BookW W n sa ka n1 sc n2 kc b) (hG : Glob W) :
    Calls Tryd.prog 26 #[.agg (b.cells (.slice sa n1 sc) (.slice ka n2 kc)).toArray] W fun e W' => e = .returned (.tuple #[.int .i64 (weatherS b).1, .int .i64 (weatherS b).2]) ∧ Below W.heap.size W W' := by
  obtain ⟨V, hV⟩ : ∃ V, W.alloc (Obj.cells #[.slice sa n1 sc, .int .i64 b.wth, .int .i64 b.c0, .int .i64 b.c1, .int .i64 b.c2, .slice ka n2 kc, .int .i64 b.rate] 26) = V := ⟨_, rfl⟩
  have hBV : Below W.heap.size W V := by rw [← hV]; exact (Below.refl _ _).alloc (Nat.le_refl _) _
  have hb0 : V.heap[W.heap.size]? = some (Obj.cells #[.slice sa n1 sc, .int .i64 b.wth, .int .i64 b.c0, .int .i64 b.c1, .int .i64 b.c2, .slice ka n2 kc, .int .i64 b.rate] 26) := by rw [← hV]; exact World.alloc_heap_new _ _
  have hVz : W.heap.size < V.heap.size := (Array.getElem?_eq_some_iff.1 hb0).1
  have HGV := Lib.hid (hG.below hG.lt hBV)
  have HVB := Lib.hid (hv.below hv.hn hBV)
  have HN := Lib.hid hv.hn
  have c0 : V.cell? ⟨W.heap.size, 0, none⟩ = some (.slice sa n1 sc) := blk_cell hb0
  have c1 : V.cell? ⟨W.heap.size, 1, none⟩ = some (.int .i64 b.wth) := blk_cell hb0
  have c2 : V.cell? ⟨W.heap.size, 2, none⟩ = some (.int .i64 b.c0) := blk_cell hb0
  have c3 : V.cell? ⟨W.heap.size, 3, none⟩ = some (.int .i64 b.c1) := blk_cell hb0
  have c4 : V.cell? ⟨W.heap.size, 4, none⟩ = some (.int .i64 b.c2) := blk_cell hb0
  have c5 : V.cell? ⟨W.heap.size, 5, none⟩ = some (.slice ka n2 kc) := blk_cell hb0
  have c6 : V.cell? ⟨W.heap.size, 6, none⟩ = some (.int .i64 b.rate) := blk_cell hb0
  have HL1 := Lib.hid hv.l1
  clear hv hG hb0
  simp only [Bk.cells]
  go_enter Tryd.func26, Tryd.ntmps26
  go_upto_region 2 with (first
    | (go_at_call 80; refine (asked_any V b true n sa ka n1 sc n2 kc HVB.out HGV.out).mono ?_; rintro e w2 ⟨x, sa', ka', ta, sl', sc', kl', kc', tl, tc, mo, rfl, hb2, hx⟩; have HB2 := Lib.hid hb2; have HX := Lib.hid hx; clear hb2 hx; simp only [Bk.cells9])
    | fail)
  obtain ⟨hBX, _, hC, hX⟩ := asked_new (V := V) (w2 := w2) (ka' := ka') (kl' := kl') (kc' := kc') (mo := mo) (x := x) ⟨HB2.out.os, HB2.out.tape, HB2.out.output, HB2.out.size, HB2.out.block⟩ HX.out
  simp only [Bk.cells9] at hBX hC hX
  obtain ⟨X, hXe⟩ : ∃ X, w2.alloc (.cells #[.slice sa' sl' sc', .int .i64 x.wth, .int .i64 x.c0, .int .i64 x.c1, .int .i64 x.c2, .slice ka' kl' kc', .int .i64 x.rate, .map mo, .slice ta tl tc] 79) = X := ⟨_, rfl⟩
  try rw [hXe]
  rw [hXe] at hBX hC hX
  clear hXe HB2 HX
  obtain ⟨P8, hP8⟩ : ∃ P8, w2.heap.size = P8 := ⟨_, rfl⟩
  rw [hP8] at hC ⊢
  clear hP8
  obtain ⟨E, hE⟩ : ∃ E, askE b true = E := ⟨_, rfl⟩
  rw [hE] at hX ⊢
  have hBW := hBV.trans (hBX.mono hBV.size)
  have HC := Lib.hid hC
  clear c0 c1 c2 c3 c4 c5 c6 hC
  by_cases hE0 : E = 0
  · obtain ⟨rfl, rfl, rfl, rfl, hT⟩ := hX hE0
    have hask : askE x true = 0 := by rw [hE, hE0]
    obtain ⟨hok, _, hne⟩ := askE_zero hask
    have HT := Lib.hid hT
    have HNE := Lib.hid hne
    have HOK := Lib.hid (truths_ok (sound_of hok))
    have HSO := Lib.hid (sound_of hok)
    have HS := Lib.hid ((HVB.out.below (by have := HN.out; omega) hBX).hs)
    have HNX := Lib.hid (show n ≤ X.heap.size from Nat.le_trans HN.out hBW.size)
    have e0 : X.cell? ⟨P8, 0, none⟩ = some (.slice sa' sl' sc') := blk_cell HC.out
    have e1 : X.cell? ⟨P8, 1, none⟩ = some (.int .i64 x.wth) := blk_cell HC.out
    have e2 : X.cell? ⟨P8, 2, none⟩ = some (.int .i64 x.c0) := blk_cell HC.out
    have e3 : X.cell? ⟨P8, 3, none⟩ = some (.int .i64 x.c1) := blk_cell HC.out
    have e4 : X.cell? ⟨P8, 4, none⟩ = some (.int .i64 x.c2) := blk_cell HC.out
    have e5 : X.cell? ⟨P8, 5, none⟩ = some (.slice ka' kl' kc') := blk_cell HC.out
    have e6 : X.cell? ⟨P8, 6, none⟩ = some (.int .i64 x.rate) := blk_cell HC.out
    have e7 : X.cell? ⟨P8, 7, none⟩ = some (.map mo) := blk_cell HC.out
    have e8 : X.cell? ⟨P8, 8, none⟩ = some (.slice ta tl tc) := blk_cell HC.out
    have HSS := Lib.hid (show weatherS x = (((weathers (truths x) : Nat) : Int), 0) by simp [weatherS, hask])
    have hlen : (truths x).length ≤ 20000 := truths_len (sound_of hok)
    obtain ⟨tl2, htl⟩ : ∃ m, (truths x).length = m := ⟨_, rfl⟩
    have htq : tl = tl2 := by obtain ⟨_, _, e, _⟩ := hT; injection e with _ e2 _; rw [e2, ← htl]; simp [trCells]
    subst htq
    rw [htl] at hlen
    have HTL := Lib.hid htl
    clear hX hE hT hne hask hok htl
    subst hE0
    go_wp2_with fail
    go_loopg [6, 20] tl (fun n st i wx => ∃ (q s : Nat), q ≤ tl ∧ n = tl - q ∧ st = .int .i64 (s : Int) ∧ i = .int .i64 (q : Int) ∧ s < 8 ∧ ((truths x).drop q).foldl (fun s t => s ||| (1 <<< t.w.toNat)) s = weathers (truths x) ∧ Below X.heap.size X wx)
    case atStart => exact ⟨0, 0, by omega, rfl, rfl, rfl, by omega, rfl, Below.refl _ _⟩
    case round =>
      obtain ⟨q, s, hq, hgk, rfl, rfl, hs8, hT2, hbx⟩ := hrel
      have HG2 := Lib.hid hgk
      have HT2 := Lib.hid hT2
      clear hgk hT2
      by_cases hlt : q < tl
      · obtain ⟨t, ht⟩ : ∃ t, (truths x)[q]? = some t := ⟨_, List.getElem?_eq_getElem (by rw [HTL.out]; exact hlt)⟩
        obtain ⟨_, _, e, _, _, _, h4⟩ := HT.out
        obtain ⟨g, p, hta, hg, hcs⟩ := sl_at h4 (show (trCells (truths x))[q]? = some t.cells by simp [trCells, ht])
        rw [hta] at e
        injection e with e1 e2 e3
        subst e1
        have hr : ∀ i c, t.cells[i]? = some c → wr.cell? ⟨g, p + q * 7 + i, none⟩ = some c := fun i c hi => (hbx.cell (p := ⟨g, p + q * 7 + i, none⟩) hg).trans (hcs i c hi)
        have r0 : wr.cell? ⟨g, p + q * 7, none⟩ = some (.int .i64 t.w) := hr 0 _ rfl
        have r1 : wr.cell? ⟨g, p + q * 7 + 1, none⟩ = some (.int .i64 t.a0) := hr 1 _ rfl
        have r2 : wr.cell? ⟨g, p + q * 7 + 2, none⟩ = some (.int .i64 t.a1) := hr 2 _ rfl
        have r3 : wr.cell? ⟨g, p + q * 7 + 3, none⟩ = some (.int .i64 t.a2) := hr 3 _ rfl
        have r4 : wr.cell? ⟨g, p + q * 7 + 4, none⟩ = some (.int .i64 t.b0) := hr 4 _ rfl
        have r5 : wr.cell? ⟨g, p + q * 7 + 5, none⟩ = some (.int .i64 t.b1) := hr 5 _ rfl
        have r6 : wr.cell? ⟨g, p + q * 7 + 6, none⟩ = some (.int .i64 t.b2) := hr 6 _ rfl
        have htw : 0 ≤ t.w ∧ t.w ≤ 2 := (HOK.out t (List.mem_of_getElem? ht)).1
        have hd : (truths x).drop q = t :: (truths x).drop (q + 1) := by
          have hl : q < (truths x).length := by rw [HTL.out]; exact hlt
          rw [List.drop_eq_getElem_cons hl]
          rw [List.getElem?_eq_getElem hl] at ht
          injection ht with ht
          rw [ht]
        have HD := Lib.hid hd
        clear ht h4 hcs hr hd hta
        obtain ⟨hsh, hs9⟩ := shl3 htw hs8
        have HSH := Lib.hid hsh
        clear hsh
        go_wp2_with fail
        go_roundg (tl - (q + 1))
        case measure => rw [HG2.out]; omega
        case rel => exact ⟨q + 1, s ||| (1 <<< t.w.toNat), by omega, rfl, by rw [HSH.out], by go_num, hs9, by rw [← HT2.out, HD.out]; rfl, hbx.alloc hbx.size _⟩
      · have hs2 : s = weathers (truths x) := by have := HT2.out; rw [List.drop_eq_nil_of_le (by rw [HTL.out]; omega)] at this; exact this
        have HS2 := Lib.hid hs2
        clear hs2
        go_wp2_with fail
        refine bodyPost_ret (results_tmp2 rfl _ _ _) rfl ⟨?_, hBW.trans (hbx.mono hBW.size)⟩
        rw [HSS.out, ← HS2.out]
        rfl
  · have HSS := Lib.hid (show weatherS b = (0, E) by unfold weatherS; rw [hE, if_neg hE0])
    clear hX hE
    go_wp2_with fail
    refine bodyPost_ret (results_tmp2 rfl _ _ _) rfl ⟨?_, hBW⟩
    rw [HSS.out]
    rfl

end Go.Proofs.YtbhjfojbjpbdbaaDoor
