/-
  The contract of sound (package macadamlaw06): it answers whether the book is valid. Written by this session; printed by wip/tools/a29.py.
-/
import Derived.Test.YtbhjfojbjpbdbaaDoorK6
namespace Go.Proofs.YtbhjfojbjpbdbaaDoor
open Go.RowKit

set_option maxRecDepth 100000 in
set_option maxHeartbeats 4000000 in
theorem sound_any (W : World) (b : Bk) (n : Nat) (sa ka : Option Addr) (n1 sc n2 kc : Nat) (hv : BookW W n sa ka n1 sc n2 kc b) :
    Calls Tryd.prog 41 #[.agg (b.cells (.slice sa n1 sc) (.slice ka n2 kc)).toArray] W fun e W' => e = .returned (.bool (bkOk b)) ∧ Below W.heap.size W W' := by
  obtain ⟨V, hV⟩ : ∃ V, W.alloc (Obj.cells #[.slice sa n1 sc, .int .i64 b.wth, .int .i64 b.c0, .int .i64 b.c1, .int .i64 b.c2, .slice ka n2 kc, .int .i64 b.rate] 26) = V := ⟨_, rfl⟩
  have hBV : Below W.heap.size W V := by rw [← hV]; exact (Below.refl _ _).alloc (Nat.le_refl _) _
  have hb0 : V.heap[W.heap.size]? = some (Obj.cells #[.slice sa n1 sc, .int .i64 b.wth, .int .i64 b.c0, .int .i64 b.c1, .int .i64 b.c2, .slice ka n2 kc, .int .i64 b.rate] 26) := by rw [← hV]; exact World.alloc_heap_new _ _
  have hVz : W.heap.size < V.heap.size := (Array.getElem?_eq_some_iff.1 hb0).1
  have HVB := Lib.hid (hv.below hv.hn hBV)
  have HN := Lib.hid hv.hn
  have c0 : V.cell? ⟨W.heap.size, 0, none⟩ = some (.slice sa n1 sc) := blk_cell hb0
  have c1 : V.cell? ⟨W.heap.size, 1, none⟩ = some (.int .i64 b.wth) := blk_cell hb0
  have c2 : V.cell? ⟨W.heap.size, 2, none⟩ = some (.int .i64 b.c0) := blk_cell hb0
  have c3 : V.cell? ⟨W.heap.size, 3, none⟩ = some (.int .i64 b.c1) := blk_cell hb0
  have c4 : V.cell? ⟨W.heap.size, 4, none⟩ = some (.int .i64 b.c2) := blk_cell hb0
  have c5 : V.cell? ⟨W.heap.size, 5, none⟩ = some (.slice ka n2 kc) := blk_cell hb0
  have c6 : V.cell? ⟨W.heap.size, 6, none⟩ = some (.int .i64 b.rate) := blk_cell hb0
  clear hb0 hv
  simp only [Bk.cells]
  by_cases hok : bkOk b = true
  · have hh := bkOk_head hok
    have hst := bkOk_sts hok
    have hck : ∀ c ∈ b.cks, ckOk n1 c = true := by
      have h := hok
      simp only [bkOk, Bool.and_eq_true] at h
      rw [HVB.out.l1]
      exact fun c hc => List.all_eq_true.1 h.2 c hc
    have hco := bkOk_costs hok
    have HCK := Lib.hid (show checkS b = 0 by simp [checkS, hok])
    have HL1 := Lib.hid HVB.out.l1
    have HL2 := Lib.hid HVB.out.l2
    have h13 : n1 ≤ 3 := by have := HL1.out; omega
    have h24 : n2 ≤ 4 := by have := HL2.out; omega
    have hn24 : (n2 : Int) ≤ 4 := by omega
    have F1 := Lib.hid (show within (n1 : Int) 1 3 = true by have := HL1.out; simp [within]; omega)
    have F2 := Lib.hid (show within b.wth 1 7 = true by simp [within]; omega)
    have F3 := Lib.hid (show within b.rate 0 99 = true by simp [within]; omega)
    have F4 := Lib.hid (show within b.c0 0 30 = true by have := hco 0; simp [within]; exact this)
    have F5 := Lib.hid (show within b.c1 0 30 = true by have := hco 1; simp [within]; exact this)
    have F6 := Lib.hid (show within b.c2 0 30 = true by have := hco 2; simp [within]; exact this)
    have HST := Lib.hid hst
    have HCO := Lib.hid hck
    have HOK := Lib.hid hok
    have hwr : IntKind.i64.wrap ((n1 : Int) - 1) = (n1 : Int) - 1 := IntWalk.i64_in _ (by omega)
    have HWR := Lib.hid hwr
    clear hh hst hck hco hok hwr
    go_enter Tryd.func41, Tryd.ntmps41
    go_upto_region 1 with fail
    try rw [hV]
    clear hV
    go_wp2_with (first
      | (go_at_call 17; refine (check_any _ _ b HVB.out.v).mono ?_; rintro e w1 ⟨rfl, hb1⟩; rw [HCK.out]; have hk1 := (bcell hb1).1; have HB1 := Lib.hid hb1; clear hb1)
      | (go_at_call 45; refine (amid_any _ _ _ _).mono ?_; rintro e w2 ⟨rfl, rfl⟩; first | rw [F1.out] | rw [F2.out] | rw [F3.out])
      | fail)
    clear hk1
    go_loopg [3, 4] n1 (fun n0 s3 i wx => ∃ (q : Nat), q ≤ n1 ∧ n0 = n1 - q ∧ s3 = .bool true ∧ i = .int .i64 (q : Int) ∧ Below V.heap.size V wx)
    case atStart => exact ⟨0, by omega, rfl, rfl, rfl, HB1.out⟩
    case round =>
      obtain ⟨q, hq, hgk, rfl, rfl, hbx⟩ := hrel
      have HG2 := Lib.hid hgk
      clear hgk
      have e0 : wr.cell? ⟨W.heap.size, 0, none⟩ = some (.slice sa n1 sc) := (hbx.cell (p := ⟨W.heap.size, 0, none⟩) hVz).trans c0
      have e2 : wr.cell? ⟨W.heap.size, 2, none⟩ = some (.int .i64 b.c0) := (hbx.cell (p := ⟨W.heap.size, 2, none⟩) hVz).trans c2
      have e3 : wr.cell? ⟨W.heap.size, 3, none⟩ = some (.int .i64 b.c1) := (hbx.cell (p := ⟨W.heap.size, 3, none⟩) hVz).trans c3
      have e4 : wr.cell? ⟨W.heap.size, 4, none⟩ = some (.int .i64 b.c2) := (hbx.cell (p := ⟨W.heap.size, 4, none⟩) hVz).trans c4
      have e5 : wr.cell? ⟨W.heap.size, 5, none⟩ = some (.slice ka n2 kc) := (hbx.cell (p := ⟨W.heap.size, 5, none⟩) hVz).trans c5
      have HBX := Lib.hid hbx
      clear hbx
      by_cases hlt : q < n1
      · obtain ⟨x, hx⟩ : ∃ x, b.sts[q]? = some x := ⟨_, List.getElem?_eq_getElem (by have := HL1.out; omega)⟩
        have hxb := HST.out x (List.mem_of_getElem? hx)
        obtain ⟨_, cap, e, hs1, hs2, hs3, hs4⟩ := (HVB.out.below HVB.out.hn HBX.out).hs
        injection e with e1 e2 e3
        subst e1
        clear e2 e3
        obtain ⟨g, o, hsa, hg, hcs⟩ := sl_at hs4 (show (stCells b.sts)[q]? = some x.cells by simp [stCells, hx])
        subst hsa
        have r0 : wr.cell? ⟨g, o + q * 7, none⟩ = some (.int .i64 x.due) := hcs 0 _ rfl
        have r1 : wr.cell? ⟨g, o + q * 7 + 1, none⟩ = some (.int .i64 x.dl) := hcs 1 _ rfl
        have r2 : wr.cell? ⟨g, o + q * 7 + 2, none⟩ = some (.int .i64 x.dh) := hcs 2 _ rfl
        have r3 : wr.cell? ⟨g, o + q * 7 + 3, none⟩ = some (.int .i64 x.rl) := hcs 3 _ rfl
        have r4 : wr.cell? ⟨g, o + q * 7 + 4, none⟩ = some (.int .i64 x.rh) := hcs 4 _ rfl
        have r5 : wr.cell? ⟨g, o + q * 7 + 5, none⟩ = some (.int .i64 x.sl) := hcs 5 _ rfl
        have r6 : wr.cell? ⟨g, o + q * 7 + 6, none⟩ = some (.int .i64 x.sh) := hcs 6 _ rfl
        have G0 := Lib.hid (show within x.due 1 300 = true by simp [within]; omega)
        have G1 := Lib.hid (show spanOk x.dl x.dh 1 90 2 = true by simp [spanOk]; omega)
        have G2 := Lib.hid (show spanOk x.rl x.rh 0 30 2 = true by simp [spanOk]; omega)
        have G3 := Lib.hid (show spanOk x.sl x.sh 0 20 1 = true by simp [spanOk]; omega)
        have hqi : (q : Int) < (n1 : Int) := by omega
        clear hcs hs4 hs1 hs2 hs3 hx hxb hg
        go_upto_region 6 with fail
        obtain ⟨Y, hY⟩ : ∃ Y, wr.alloc (Obj.cells #[Value.int IntKind.i64 x.due, Value.int IntKind.i64 x.dl, Value.int IntKind.i64 x.dh, Value.int IntKind.i64 x.rl, Value.int IntKind.i64 x.rh, Value.int IntKind.i64 x.sl, Value.int IntKind.i64 x.sh] 56) = Y := ⟨_, rfl⟩
        have hyb : Y.heap[wr.heap.size]? = some (Obj.cells #[Value.int IntKind.i64 x.due, Value.int IntKind.i64 x.dl, Value.int IntKind.i64 x.dh, Value.int IntKind.i64 x.rl, Value.int IntKind.i64 x.rh, Value.int IntKind.i64 x.sl, Value.int IntKind.i64 x.sh] 56) := by rw [← hY]; exact World.alloc_heap_new _ _
        have hBY : Below V.heap.size V Y := by rw [← hY]; exact HBX.out.alloc HBX.out.size _
        rw [hY]
        have g0 : Y.cell? ⟨wr.heap.size, 0, none⟩ = some (.int .i64 x.due) := blk_cell hyb
        have g1 : Y.cell? ⟨wr.heap.size, 1, none⟩ = some (.int .i64 x.dl) := blk_cell hyb
        have g2 : Y.cell? ⟨wr.heap.size, 2, none⟩ = some (.int .i64 x.dh) := blk_cell hyb
        have g3 : Y.cell? ⟨wr.heap.size, 3, none⟩ = some (.int .i64 x.rl) := blk_cell hyb
        have g4 : Y.cell? ⟨wr.heap.size, 4, none⟩ = some (.int .i64 x.rh) := blk_cell hyb
        have g5 : Y.cell? ⟨wr.heap.size, 5, none⟩ = some (.int .i64 x.sl) := blk_cell hyb
        have g6 : Y.cell? ⟨wr.heap.size, 6, none⟩ = some (.int .i64 x.sh) := blk_cell hyb
        have hyz : wr.heap.size < Y.heap.size := (Array.getElem?_eq_some_iff.1 hyb).1
        have HBY := Lib.hid hBY
        have hBB : Below Y.heap.size Y Y := Below.refl _ _
        clear hY hyb hBY
        go_wp2_with (first
          | (go_at_call 45; refine (amid_any _ _ _ _).mono ?_; rintro e w2 ⟨rfl, rfl⟩; rw [G0.out])
          | (go_at_call 69; refine (sane_any _ _ _ _ _ (by omega) _).mono ?_; rintro e w3 ⟨rfl, hbb⟩; (first | rw [G1.out] | rw [G2.out] | rw [G3.out]); replace hBB := hBB.trans (hbb.mono hBB.size); obtain ⟨hcc, hff⟩ := bcell hBB; clear hbb)
          | fail)
        go_roundg (n1 - (q + 1))
        case measure => rw [HG2.out]; omega
        case rel => exact ⟨q + 1, by omega, rfl, rfl, by go_num, HBY.out.trans (hBB.mono HBY.out.size)⟩
      · have hqi : ¬ (q : Int) < (n1 : Int) := by omega
        go_wp2_with fail
        go_loopg [3, 6] 3 (fun n0 s3 i wx => ∃ (p : Nat), p ≤ 3 ∧ n0 = 3 - p ∧ s3 = .bool true ∧ i = .int .i64 (p : Int) ∧ Below V.heap.size V wx)
        case atStart => exact ⟨0, by omega, rfl, rfl, rfl, HBX.out⟩
        case round =>
          clear e0 e2 e3 e4 e5
          obtain ⟨p, hp, hgk, rfl, rfl, hbx⟩ := hrel
          have HG3 := Lib.hid hgk
          clear hgk
          have e0 : wr.cell? ⟨W.heap.size, 0, none⟩ = some (.slice sa n1 sc) := (hbx.cell (p := ⟨W.heap.size, 0, none⟩) hVz).trans c0
          have e2 : wr.cell? ⟨W.heap.size, 2, none⟩ = some (.int .i64 b.c0) := (hbx.cell (p := ⟨W.heap.size, 2, none⟩) hVz).trans c2
          have e3 : wr.cell? ⟨W.heap.size, 3, none⟩ = some (.int .i64 b.c1) := (hbx.cell (p := ⟨W.heap.size, 3, none⟩) hVz).trans c3
          have e4 : wr.cell? ⟨W.heap.size, 4, none⟩ = some (.int .i64 b.c2) := (hbx.cell (p := ⟨W.heap.size, 4, none⟩) hVz).trans c4
          have e5 : wr.cell? ⟨W.heap.size, 5, none⟩ = some (.slice ka n2 kc) := (hbx.cell (p := ⟨W.heap.size, 5, none⟩) hVz).trans c5
          have HBX2 := Lib.hid hbx
          clear hbx
          by_cases hp3 : p < 3
          · have hpi : (p : Int) < 3 := by omega
            have hkk : p = 0 ∨ p = 1 ∨ p = 2 := by omega
            rcases hkk with rfl | rfl | rfl
            all_goals go_wp2_with (first
              | (go_at_call 45; refine (amid_any _ _ _ _).mono ?_; rintro e w2 ⟨rfl, rfl⟩; first | rw [F4.out] | rw [F5.out] | rw [F6.out])
              | fail)
            · go_roundg 2
              case measure => rw [HG3.out]; omega
              case rel => exact ⟨1, by omega, rfl, rfl, by go_num, HBX2.out⟩
            · go_roundg 1
              case measure => rw [HG3.out]; omega
              case rel => exact ⟨2, by omega, rfl, rfl, by go_num, HBX2.out⟩
            · go_roundg 0
              case measure => rw [HG3.out]; omega
              case rel => exact ⟨3, by omega, rfl, rfl, by go_num, HBX2.out⟩
          · have hpi : ¬ (p : Int) < 3 := by omega
            go_wp2_with fail
            go_loopg [3, 7] n2 (fun n0 s3 i wx => ∃ (r : Nat), r ≤ n2 ∧ n0 = n2 - r ∧ s3 = .bool true ∧ i = .int .i64 (r : Int) ∧ Below V.heap.size V wx)
            case atStart => exact ⟨0, by omega, rfl, rfl, rfl, HBX2.out⟩
            case round =>
              clear e0 e2 e3 e4 e5
              obtain ⟨r, hr, hgk, rfl, rfl, hbx⟩ := hrel
              have HG4 := Lib.hid hgk
              clear hgk
              have e0 : wr.cell? ⟨W.heap.size, 0, none⟩ = some (.slice sa n1 sc) := (hbx.cell (p := ⟨W.heap.size, 0, none⟩) hVz).trans c0
              have e2 : wr.cell? ⟨W.heap.size, 2, none⟩ = some (.int .i64 b.c0) := (hbx.cell (p := ⟨W.heap.size, 2, none⟩) hVz).trans c2
              have e3 : wr.cell? ⟨W.heap.size, 3, none⟩ = some (.int .i64 b.c1) := (hbx.cell (p := ⟨W.heap.size, 3, none⟩) hVz).trans c3
              have e4 : wr.cell? ⟨W.heap.size, 4, none⟩ = some (.int .i64 b.c2) := (hbx.cell (p := ⟨W.heap.size, 4, none⟩) hVz).trans c4
              have e5 : wr.cell? ⟨W.heap.size, 5, none⟩ = some (.slice ka n2 kc) := (hbx.cell (p := ⟨W.heap.size, 5, none⟩) hVz).trans c5
              have HBX3 := Lib.hid hbx
              clear hbx
              by_cases hlt3 : r < n2
              · obtain ⟨c, hc⟩ : ∃ c, b.cks[r]? = some c := ⟨_, List.getElem?_eq_getElem (by have := HL2.out; omega)⟩
                have hcb := HCO.out c (List.mem_of_getElem? hc)
                simp only [ckOk, Bool.and_eq_true] at hcb
                obtain ⟨_, cap, e, hs1, hs2, hs3, hs4⟩ := (HVB.out.below HVB.out.hn HBX3.out).hk
                injection e with e1 e2 e3
                subst e1
                clear e2 e3
                obtain ⟨g, o, hsa, hg, hcs⟩ := sl_at hs4 (show (ckCells b.cks)[r]? = some c.cells by simp [ckCells, hc])
                subst hsa
                have r0 : wr.cell? ⟨g, o + r * 3, none⟩ = some (.int .i64 c.st) := hcs 0 _ rfl
                have r1 : wr.cell? ⟨g, o + r * 3 + 1, none⟩ = some (.int .i64 c.rd) := hcs 1 _ rfl
                have r2 : wr.cell? ⟨g, o + r * 3 + 2, none⟩ = some (.int .i64 c.er) := hcs 2 _ rfl
                have G0 := Lib.hid hcb.1.1
                have G1 := Lib.hid hcb.1.2
                have G2 := Lib.hid hcb.2
                have hri : (r : Int) < (n2 : Int) := by omega
                have hwr := HWR.out
                clear hcs hs4 hs1 hs2 hs3 hc hcb hg
                go_upto_region 15 with fail
                obtain ⟨Y, hY⟩ : ∃ Y, wr.alloc (Obj.cells #[Value.int IntKind.i64 c.st, Value.int IntKind.i64 c.rd, Value.int IntKind.i64 c.er] 42) = Y := ⟨_, rfl⟩
                have hyb : Y.heap[wr.heap.size]? = some (Obj.cells #[Value.int IntKind.i64 c.st, Value.int IntKind.i64 c.rd, Value.int IntKind.i64 c.er] 42) := by rw [← hY]; exact World.alloc_heap_new _ _
                have hBY : Below V.heap.size V Y := by rw [← hY]; exact HBX3.out.alloc HBX3.out.size _
                rw [hY]
                have g0 : Y.cell? ⟨wr.heap.size, 0, none⟩ = some (.int .i64 c.st) := blk_cell hyb
                have g1 : Y.cell? ⟨wr.heap.size, 1, none⟩ = some (.int .i64 c.rd) := blk_cell hyb
                have g2 : Y.cell? ⟨wr.heap.size, 2, none⟩ = some (.int .i64 c.er) := blk_cell hyb
                have y0 : Y.cell? ⟨W.heap.size, 0, none⟩ = some (.slice sa n1 sc) := (hBY.cell (p := ⟨W.heap.size, 0, none⟩) hVz).trans c0
                have HBY := Lib.hid hBY
                clear hY hyb hBY e0 e2 e3 e4 e5
                go_wp2_with (first
                  | (go_at_call 45; refine (amid_any _ _ _ _).mono ?_; rintro e w2 ⟨rfl, rfl⟩; first | rw [G0.out] | rw [G1.out] | rw [G2.out])
                  | fail)
                go_roundg (n2 - (r + 1))
                case measure => rw [HG4.out]; omega
                case rel => exact ⟨r + 1, by omega, rfl, rfl, by go_num, HBY.out⟩
              · have hri : ¬ (r : Int) < (n2 : Int) := by omega
                go_wp2_with fail
                go_ret
                exact ⟨ret_bool HOK.out.symm, hBV.trans (HBX3.out.mono hBV.size)⟩
  · have HCK := Lib.hid (show checkS b = 60 by simp [checkS, hok])
    have HOK := Lib.hid (show bkOk b = false by simpa using hok)
    clear hok
    go_enter Tryd.func41, Tryd.ntmps41
    go_upto_region 1 with fail
    try rw [hV]
    clear hV
    go_wp2_with (first
      | (go_at_call 17; refine (check_any _ _ b HVB.out.v).mono ?_; rintro e w1 ⟨rfl, hb1⟩; rw [HCK.out]; have hk1 := (bcell hb1).1; have HB1 := Lib.hid hb1; clear hb1)
      | fail)
    clear hk1
    go_loopg [3, 4] 0 (fun n0 s3 i wx => n0 = 0 ∧ s3 = .bool false ∧ i = .int .i64 0 ∧ Below V.heap.size V wx)
    case atStart => exact ⟨rfl, rfl, rfl, HB1.out⟩
    case round =>
      obtain ⟨_, rfl, rfl, hbx⟩ := hrel
      have HBX := Lib.hid hbx
      clear hbx
      go_wp2_with fail
      go_loopg [3, 6] 0 (fun n0 s3 i wx => n0 = 0 ∧ s3 = .bool false ∧ i = .int .i64 0 ∧ Below V.heap.size V wx)
      case atStart => exact ⟨rfl, rfl, rfl, HBX.out⟩
      case round =>
        obtain ⟨_, rfl, rfl, hbx⟩ := hrel
        have HBX2 := Lib.hid hbx
        clear hbx
        go_wp2_with fail
        go_loopg [3, 7] 0 (fun n0 s3 i wx => n0 = 0 ∧ s3 = .bool false ∧ i = .int .i64 0 ∧ Below V.heap.size V wx)
        case atStart => exact ⟨rfl, rfl, rfl, HBX2.out⟩
        case round =>
          obtain ⟨_, rfl, rfl, hbx⟩ := hrel
          have HBX3 := Lib.hid hbx
          clear hbx
          go_wp2_with fail
          go_ret
          exact ⟨ret_bool HOK.out.symm, hBV.trans (HBX3.out.mono hBV.size)⟩
end Go.Proofs.YtbhjfojbjpbdbaaDoor
