/-
  Merged: A9, A10, A11, A12, A13. Written by sessions of this seat.
-/
import Derived.Test.YtbhjfojbjpbdbaaDoorK1
import Derived.WalkKit
import Derived.OwnWalkIn
import Derived.RangeFuncIn
import Derived.RangeFuncRecord
import Derived.RangeFuncLeaves
import Derived.Maps.OwnIn

-- A9: The contract of the closure that goes on stage by stage: one stage walked (package claim, whole). Written by a session.
namespace Go.Proofs.YtbhjfojbjpbdbaaDoor
open Go.RowKit

section
variable {b : Bk} {s k tv : Value} {n M l Bt Bb By Br Bd N : Nat} {Acc : List Tr → World → Prop}

set_option maxRecDepth 100000 in
set_option maxHeartbeats 2000000 in
theorem drive_step (hA : AccLaw l Bt Acc) (hb : Big b) {wn : Nat} (hwn : wn < 3) {x : St} {rest : List St} (hI : DriveAt b s k tv n M l Bt Bb By Br Bd N wn Acc rest) : DriveAt b s k tv n M l Bt Bb By Br Bd N wn Acc (x :: rest) := by
  intro j t fr pre W hdrop hjl ht htw h0 hfr hE hacc hlen
  have hj : j < b.sts.length := by
    rcases Nat.lt_or_ge j b.sts.length with h | h
    · exact h
    · rw [List.drop_eq_nil_of_le h] at hdrop; cases hdrop
  have hx : b.sts[j]? = some x := by
    rw [List.drop_eq_getElem_cons hj] at hdrop
    rw [List.getElem?_eq_getElem hj]
    injection hdrop with h1 _
    rw [h1]
  have hrest : b.sts.drop (j + 1) = rest := by
    rw [List.drop_eq_getElem_cons hj] at hdrop
    injection hdrop
  have hxb := idx_bd hb hx
  have hcb := hb.co wn
  have hl3 := hb.bd.l3
  have hj3 : j < 3 := by omega
  obtain ⟨sa, scap, es, hs1, hs2, hs3, hs4⟩ := hE.hs
  have hsl : (stCells b.sts).length = b.sts.length := by simp [stCells]
  obtain ⟨g, q, hsa, hg, hcs⟩ := sl_at hs4 (show (stCells b.sts)[j]? = some x.cells by simp [stCells, hx])
  rw [hsa, hsl] at es
  subst es
  have hBW : Bb < W.heap.size := (Array.getElem?_eq_some_iff.1 hE.hb).1
  obtain ⟨V, hV⟩ : ∃ V, W.alloc (Obj.cells t.cells.toArray 87) = V := ⟨_, rfl⟩
  have hBV : Below W.heap.size W V := by rw [← hV]; exact (Below.refl _ _).alloc (Nat.le_refl _) _
  have hVz : V.heap.size = W.heap.size + 1 := by rw [← hV]; simp
  have hVt : V.heap[W.heap.size]? = some (.cells t.cells.toArray 87) := by rw [← hV]; exact World.alloc_heap_new _ _
  have hEV := hE.below hBV
  have v0 : V.cell? ⟨Bb, 0, none⟩ = some (.slice (some ⟨g, q, none⟩) b.sts.length scap) := by rw [blk_cell hEV.hb]; rfl
  have hr : ∀ i c, x.cells[i]? = some c → V.cell? ⟨g, q + j * 7 + i, none⟩ = some c := fun i c hi =>
    (hBV.cell (p := ⟨g, q + j * 7 + i, none⟩) (by have := hE.hn; show g < _; omega)).trans (hcs i c hi)
  have r0 : V.cell? ⟨g, q + j * 7, none⟩ = some (.int .i64 x.due) := hr 0 _ rfl
  have r1 : V.cell? ⟨g, q + j * 7 + 1, none⟩ = some (.int .i64 x.dl) := hr 1 _ rfl
  have r2 : V.cell? ⟨g, q + j * 7 + 2, none⟩ = some (.int .i64 x.dh) := hr 2 _ rfl
  have r3 : V.cell? ⟨g, q + j * 7 + 3, none⟩ = some (.int .i64 x.rl) := hr 3 _ rfl
  have r4 : V.cell? ⟨g, q + j * 7 + 4, none⟩ = some (.int .i64 x.rh) := hr 4 _ rfl
  have r5 : V.cell? ⟨g, q + j * 7 + 5, none⟩ = some (.int .i64 x.sl) := hr 5 _ rfl
  have r6 : V.cell? ⟨g, q + j * 7 + 6, none⟩ = some (.int .i64 x.sh) := hr 6 _ rfl
  have ne1 : ((j : Int) == (b.sts.length : Int)) = false := by simp; omega
  have i1 : (j : Int) < (b.sts.length : Int) := by omega
  obtain ⟨V2, hV2⟩ : ∃ V2, V.alloc (Obj.cells x.cells.toArray 56) = V2 := ⟨_, rfl⟩
  have hBV2 : Below V.heap.size V V2 := by rw [← hV2]; exact (Below.refl _ _).alloc (Nat.le_refl _) _
  have hW2 : Below W.heap.size W V2 := hBV.trans (hBV2.mono (by omega))
  have hE2 := hE.below hW2
  have hx2 : V2.heap[W.heap.size + 1]? = some (.cells x.cells.toArray 56) := by rw [← hV2, ← hVz]; exact World.alloc_heap_new _ _
  have hLoc : Loc b M l Bt Acc W.heap.size (W.heap.size + 1) x W t pre V2 :=
    ⟨acc_below hA hacc hE.ll hE.lB hW2, Eff.of_below hE.lB hW2, hE2.hM, (hBV2.block _ (by omega)).trans hVt, hx2,
     Safe.new' hE hW2 (Nat.le_refl _), Safe.new' hE hW2 (by omega)⟩
  have x1 : V2.cell? ⟨W.heap.size + 1, 1, none⟩ = some (.int .i64 x.dl) := blk_cell hx2
  have x2 : V2.cell? ⟨W.heap.size + 1, 2, none⟩ = some (.int .i64 x.dh) := blk_cell hx2
  have HE := Lib.hid hE
  have HA := Lib.hid hA
  have HI := Lib.hid hI
  have HL := Lib.hid hLoc
  have HTW := Lib.hid htw
  have HRest := Lib.hid hrest
  rw [goes_cons] at hlen ⊢
  obtain ⟨TA, hTA⟩ : ∃ TA, pre ++ goDrives (b.cost wn) b.cks x rest j t fr (upto x.dl x.dh) = TA := ⟨_, rfl⟩
  rw [hTA] at hlen ⊢
  have HTA := Lib.hid hTA
  have HTL := Lib.hid hlen
  clear hE hA hI hLoc htw hrest hs1 hs2 hs3 hs4 hcs hr hx hdrop hE2 hEV hVt hx2 hsl hTA hlen hacc
  simp only [Tr.cells, St.cells] at hV hV2
  simp only [Tr.cells]
  go_enter Tryd.func104, Tryd.ntmps104
  go_wp2_with fail
  clear r0 r1 r2 r3 r4 r5 r6 v0 x1 x2 hV hV2
  go_loopg [45] (x.dh - x.dl + 1).toNat (fun n i wx => ∃ (d : Nat) (t' : Tr) (cur : List Tr), (d : Int) ≤ x.dh - x.dl + 1 ∧ n = (x.dh - x.dl + 1).toNat - d ∧ i = .int .i64 d ∧ Loc b M l Bt Acc W.heap.size (W.heap.size + 1) x W t' cur wx ∧
    TrOk t' ∧ t'.w = (wn : Int) ∧ (∀ m r, t'.put j m r = t.put j m r) ∧ cur ++ goDrives (b.cost wn) b.cks x rest j t fr (upto (x.dl + d) x.dh) = TA)
  case atStart => exact ⟨0, t, pre, by omega, rfl, rfl, HL.out, ht, HTW.out, fun _ _ => rfl, by simpa using HTA.out⟩
  case round =>
    obtain ⟨d, t1, cur, hd, hgk, rfl, hL1, hok1, htw1, htp1, hT1⟩ := hrel
    have HG := Lib.hid hgk
    have HT1 := Lib.hid hT1
    have HL1 := Lib.hid hL1
    have HTW1 := Lib.hid htw1
    have HTP1 := Lib.hid htp1
    clear hgk hT1 htw1 htp1
    by_cases hlt : (d : Int) < x.dh - x.dl + 1
    · have x3 : wr.cell? ⟨W.heap.size + 1, 3, none⟩ = some (.int .i64 x.rl) := blk_cell hL1.xb
      clear hL1
      obtain ⟨TB, hTB⟩ : ∃ TB, cur ++ goRoads (b.cost wn) b.cks x rest j t fr (x.dl + d) (upto x.rl x.rh) = TB := ⟨_, rfl⟩
      have HTB := Lib.hid hTB
      clear hTB
      go_wp2_with fail
      go_step3
      go_wp2_with fail
      go_step3
      go_wp2_with fail
      go_loopg [13] (x.rh - x.rl + 1).toNat (fun n i wx => ∃ (r : Int) (t' : Tr) (cur : List Tr), (x.rl ≤ r ∧ r ≤ x.rh + 1) ∧ n = (x.rh + 1 - r).toNat ∧ i = .int .i64 r ∧ Loc b M l Bt Acc W.heap.size (W.heap.size + 1) x W t' cur wx ∧
        TrOk t' ∧ t'.w = (wn : Int) ∧ (∀ m r, t'.put j m r = t.put j m r) ∧ cur ++ goRoads (b.cost wn) b.cks x rest j t fr (x.dl + d) (upto r x.rh) = TB)
      case atStart => exact ⟨x.rl, t1, cur, by omega, by omega, rfl, HL1.out, hok1, HTW1.out, HTP1.out, HTB.out⟩
      case round =>
        rename_i gk1 wr1 _ _
        obtain ⟨r, t2, cur2, hr, hgk2, rfl, hL2, hok2, htw2, htp2, hT2⟩ := hrel
        have HG2 := Lib.hid hgk2
        have HT2 := Lib.hid hT2
        have HL2 := Lib.hid hL2
        have HTW2 := Lib.hid htw2
        have HTP2 := Lib.hid htp2
        have x4 : wr.cell? ⟨W.heap.size + 1, 4, none⟩ = some (.int .i64 x.rh) := blk_cell hL2.xb
        clear hgk2 hT2 htw2 htp2 hL2
        by_cases hlr : r ≤ x.rh
        · go_upto_region 10 with fail
          have hEr := HL2.out.env HA.out HE.out
          have t0 : wr.cell? ⟨W.heap.size, 0, none⟩ = some (.int .i64 (wn : Int)) := by rw [blk_cell HL2.out.tb, ← HTW2.out]; rfl
          have x1 : wr.cell? ⟨W.heap.size + 1, 1, none⟩ = some (.int .i64 x.dl) := blk_cell HL2.out.xb
          have c2 : wr.cell? ⟨Bb, 2 + wn, none⟩ = some (.int .i64 (b.cost wn)) := by
            rw [blk_cell hEr.hb]
            have hkk : wn = 0 ∨ wn = 1 ∨ wn = 2 := by omega
            rcases hkk with rfl | rfl | rfl <;> rfl
          have iw : (wn : Int) < 3 := by omega
          have HER := Lib.hid hEr
          clear hEr
          refine wp_region_det (S := fun L w' => w' = if L 12 then (wr.alloc (.cells #[.int .i64 fr, .int .i64 x.dl, .int .i64 (d : Int), .int .i64 r, .int .i64 (b.cost wn)] 3)).drew else wr.drew) (by kernel_rfl) (by kernel_rfl) rfl ?_
          apply det_cons
          · refine ⟨by rfl, fun L w hN hS => ?_⟩
            have h7 : L 12 = false := (hN.chain hN.free (k := 12) (by kernel_rfl))
            rw [h7, if_neg (by simp)] at hS
            subst hS
            have H7 := Lib.hid h7
            clear h7
            go_simp
            exact ⟨rfl, fun L' _ h2 => by show _ = if L' 12 = true then _ else _; rw [h2 12 (by decide), H7.out, if_neg (by simp)]⟩
          try simp only [Act.put, List.setIfInBounds_toArray, List.set_cons_zero, List.set_cons_succ]
          apply det_cons
          · refine ⟨by rfl, fun L w hN hS => ?_⟩
            have h7 : L 12 = false := (hN.chain (hN.chain (hN.chain hN.free (k := 2) (by kernel_rfl)) (k := 3) (by kernel_rfl)) (k := 12) (by kernel_rfl))
            rw [h7, if_neg (by simp)] at hS
            subst hS
            have H7 := Lib.hid h7
            clear h7
            go_simp
            exact ⟨rfl, fun L' _ h2 => by show _ = if L' 12 = true then _ else _; rw [h2 12 (by decide), H7.out, if_neg (by simp)]⟩
          try simp only [Act.put, List.setIfInBounds_toArray, List.set_cons_zero, List.set_cons_succ]
          apply det_cons
          · refine ⟨by rfl, fun L w hN hS => ?_⟩
            have h7 : L 12 = false := (hN.chain (hN.chain hN.free (k := 3) (by kernel_rfl)) (k := 12) (by kernel_rfl))
            rw [h7, if_neg (by simp)] at hS
            subst hS
            have H7 := Lib.hid h7
            clear h7
            go_simp
            exact ⟨rfl, fun L' _ h2 => by show _ = if L' 12 = true then _ else _; rw [h2 12 (by decide), H7.out, if_neg (by simp)]⟩
          try simp only [Act.put, List.setIfInBounds_toArray, List.set_cons_zero, List.set_cons_succ]
          apply det_cons
          · refine ⟨by rfl, fun L w hN hS => ?_⟩
            have h7 : L 12 = false := (hN.chain hN.free (k := 12) (by kernel_rfl))
            rw [h7, if_neg (by simp)] at hS
            subst hS
            have H7 := Lib.hid h7
            clear h7
            go_simp
            exact ⟨rfl, fun L' _ h2 => by show _ = if L' 12 = true then _ else _; rw [h2 12 (by decide), H7.out, if_neg (by simp)]⟩
          try simp only [Act.put, List.setIfInBounds_toArray, List.set_cons_zero, List.set_cons_succ]
          apply det_cons
          · refine ⟨by rfl, fun L w hN hS => ?_⟩
            have h7 : L 12 = false := (hN.chain hN.free (k := 12) (by kernel_rfl))
            rw [h7, if_neg (by simp)] at hS
            subst hS
            have H7 := Lib.hid h7
            clear h7
            go_simp
            exact ⟨rfl, fun L' _ h2 => by show _ = if L' 12 = true then _ else _; rw [h2 12 (by decide), H7.out, if_neg (by simp)]⟩
          try simp only [Act.put, List.setIfInBounds_toArray, List.set_cons_zero, List.set_cons_succ]
          apply det_cons
          · refine ⟨by rfl, fun L w hN hS => ?_⟩
            have h7 : L 12 = false := (hN.chain hN.free (k := 12) (by kernel_rfl))
            rw [h7, if_neg (by simp)] at hS
            subst hS
            have H7 := Lib.hid h7
            clear h7
            go_simp
            exact ⟨rfl, fun L' _ h2 => by show _ = if L' 12 = true then _ else _; rw [h2 12 (by decide), H7.out, if_neg (by simp)]⟩
          try simp only [Act.put, List.setIfInBounds_toArray, List.set_cons_zero, List.set_cons_succ]
          apply det_cons
          · refine ⟨by rfl, fun L w hN hS => ?_⟩
            have h7 : L 12 = false := (hN.chain (hN.chain (hN.chain (hN.chain hN.free (k := 7) (by kernel_rfl)) (k := 10) (by kernel_rfl)) (k := 11) (by kernel_rfl)) (k := 12) (by kernel_rfl))
            rw [h7, if_neg (by simp)] at hS
            subst hS
            have H7 := Lib.hid h7
            clear h7
            go_simp
            exact ⟨rfl, fun L' _ h2 => by show _ = if L' 12 = true then _ else _; rw [h2 12 (by decide), H7.out, if_neg (by simp)]⟩
          try simp only [Act.put, List.setIfInBounds_toArray, List.set_cons_zero, List.set_cons_succ]
          apply det_cons
          · refine ⟨by rfl, fun L w hN hS => ?_⟩
            have h7 : L 12 = false := (hN.chain (hN.chain (hN.chain hN.free (k := 10) (by kernel_rfl)) (k := 11) (by kernel_rfl)) (k := 12) (by kernel_rfl))
            rw [h7, if_neg (by simp)] at hS
            subst hS
            have H7 := Lib.hid h7
            clear h7
            go_simp
            exact ⟨rfl, fun L' _ h2 => by show _ = if L' 12 = true then _ else _; rw [h2 12 (by decide), H7.out, if_neg (by simp)]⟩
          try simp only [Act.put, List.setIfInBounds_toArray, List.set_cons_zero, List.set_cons_succ]
          apply det_cons
          · refine ⟨by rfl, fun L w hN hS => ?_⟩
            have h7 : L 12 = false := (hN.chain (hN.chain (hN.chain (hN.chain hN.free (k := 9) (by kernel_rfl)) (k := 10) (by kernel_rfl)) (k := 11) (by kernel_rfl)) (k := 12) (by kernel_rfl))
            rw [h7, if_neg (by simp)] at hS
            subst hS
            have H7 := Lib.hid h7
            clear h7
            go_simp
            exact ⟨rfl, fun L' _ h2 => by show _ = if L' 12 = true then _ else _; rw [h2 12 (by decide), H7.out, if_neg (by simp)]⟩
          try simp only [Act.put, List.setIfInBounds_toArray, List.set_cons_zero, List.set_cons_succ]
          apply det_cons
          · refine ⟨by rfl, fun L w hN hS => ?_⟩
            have h7 : L 12 = false := (hN.chain (hN.chain (hN.chain hN.free (k := 10) (by kernel_rfl)) (k := 11) (by kernel_rfl)) (k := 12) (by kernel_rfl))
            rw [h7, if_neg (by simp)] at hS
            subst hS
            have H7 := Lib.hid h7
            clear h7
            go_simp
            exact ⟨rfl, fun L' _ h2 => by show _ = if L' 12 = true then _ else _; rw [h2 12 (by decide), H7.out, if_neg (by simp)]⟩
          try simp only [Act.put, List.setIfInBounds_toArray, List.set_cons_zero, List.set_cons_succ]
          apply det_cons
          · refine ⟨by rfl, fun L w hN hS => ?_⟩
            have h7 : L 12 = false := (hN.chain (hN.chain hN.free (k := 11) (by kernel_rfl)) (k := 12) (by kernel_rfl))
            rw [h7, if_neg (by simp)] at hS
            subst hS
            have H7 := Lib.hid h7
            clear h7
            go_simp
            exact ⟨rfl, fun L' _ h2 => by show _ = if L' 12 = true then _ else _; rw [h2 12 (by decide), H7.out, if_neg (by simp)]⟩
          try simp only [Act.put, List.setIfInBounds_toArray, List.set_cons_zero, List.set_cons_succ]
          apply det_cons
          · refine ⟨by rfl, fun L w hN hS => ?_⟩
            have h7 : L 12 = false := (hN.chain hN.free (k := 12) (by kernel_rfl))
            rw [h7, if_neg (by simp)] at hS
            subst hS
            have H7 := Lib.hid h7
            clear h7
            go_simp
            exact ⟨rfl, fun L' _ h2 => by show _ = if L' 12 = true then _ else _; rw [h2 12 (by decide), H7.out, if_neg (by simp)]⟩
          try simp only [Act.put, List.setIfInBounds_toArray, List.set_cons_zero, List.set_cons_succ]
          apply det_cons
          · refine ⟨by rfl, fun L w hN hS => ?_⟩
            have h7 : L 12 = false := hN.free
            rw [h7, if_neg (by simp)] at hS
            subst hS
            have H7 := Lib.hid h7
            clear h7
            go_simp
            exact ⟨rfl, fun L' h1 _ => by show _ = if L' 12 = true then _ else _; rw [h1, if_pos rfl]⟩
          try simp only [Act.put, List.setIfInBounds_toArray, List.set_cons_zero, List.set_cons_succ]
          apply det_cons
          · refine ⟨by rfl, fun L w hN hS => ?_⟩
            have h7 : L 12 = true := hN.was (by kernel_rfl)
            rw [h7, if_pos rfl] at hS
            subst hS
            have H7 := Lib.hid h7
            clear h7
            go_simp
            have hsl : SlOf (wr.alloc (.cells #[.int .i64 fr, .int .i64 x.dl, .int .i64 (d : Int), .int .i64 r, .int .i64 (b.cost wn)] 3)).drew (wr.heap.size + 1) 1 (.slice (some ⟨wr.heap.size, 0, none⟩) 5 5) (intCells [fr, x.dl, (d : Int), r, b.cost wn]) := five_slice wr _ _ _ _ _
            refine (sum_any _ _ _ _ hsl (by intro y hy; simp at hy; omega) (by simp)).mono ?_
            rintro e w' ⟨rfl, rfl⟩
            exact ⟨congrArg Ending.returned (congrArg (Value.int .i64) (five_sum fr x.dl d r (b.cost wn))), fun L' _ h2 => by show _ = if L' 12 = true then _ else _; rw [h2 12 (by decide), H7.out, if_pos rfl]⟩
          try simp only [Act.put, List.setIfInBounds_toArray, List.set_cons_zero, List.set_cons_succ]
          apply det_cons
          · refine ⟨by rfl, fun L w hN hS => ?_⟩
            have h7 : L 12 = true := hN.up (hN.was (j := 13) (by kernel_rfl)) (by kernel_rfl)
            rw [h7, if_pos rfl] at hS
            subst hS
            have H7 := Lib.hid h7
            clear h7
            go_simp
            exact ⟨rfl, fun L' _ h2 => by show _ = if L' 12 = true then _ else _; rw [h2 12 (by decide), H7.out, if_pos rfl]⟩
          try simp only [Act.put, List.setIfInBounds_toArray, List.set_cons_zero, List.set_cons_succ]
          refine det_nil ?_
          rintro L W3 hL hW3
          rw [hL 12 (by decide), if_pos rfl] at hW3
          have hB3 : Below wr.heap.size wr W3 := by rw [hW3]; exact ((Below.refl _ wr).alloc (Nat.le_refl _) _).drew
          have hL3 := HL2.out.below HA.out HE.out hB3
          have hE3 := hL3.env HA.out HE.out
          have HL3 := Lib.hid hL3
          have HE3 := Lib.hid hE3
          obtain ⟨mi, hmi⟩ : ∃ mi, fr + (x.dl + d) + r + b.cost wn = mi := ⟨_, rfl⟩
          rw [hmi]
          have hmb : 1 ≤ mi ∧ mi ≤ 170 * j + 150 := by omega
          have HMI := Lib.hid hmi
          have q0 : W3.cell? ⟨Br, 0, none⟩ = some (.func (.func 103) #[.agg (b.cells9 (.slice (some ⟨g, q, none⟩) b.sts.length scap) k (.map (some M)) tv).toArray] #[]) := blk_cell hE3.hr
          clear hL3 hE3 hmi hL hW3 t0 x1 c2
          go_wp2_with fail
          refine (right_any _ b _ k tv M n (j : Int) mi HE3.out.hn HE3.out.hk HE3.out.hM HE3.out.hG hb.ck hb.nc (by omega) (by omega)).mono ?_
          rintro e W4 ⟨rfl, hu4, hC4⟩
          have hL4 := HL3.out.right HA.out HE.out hu4 hC4
          have HL4 := Lib.hid hL4
          clear hL4 hu4 hC4 q0
          have hcon := goRoads_cons (b.cost wn) b.cks x rest j t fr (x.dl + d) hlr
          rw [HMI.out] at hcon
          obtain ⟨rb, hrb⟩ : ∃ rb, rightL b.cks j mi = rb := ⟨_, rfl⟩
          rw [hrb] at hcon ⊢
          have HCON := Lib.hid hcon
          clear hrb hcon
          cases rb with
          | false =>
            go_wp2_with fail
            go_roundg (x.rh + 1 - (r + 1)).toNat
            case measure => rw [HG2.out]; omega
            case rel => exact ⟨r + 1, t2, cur2, by omega, rfl, by go_num, HL4.out, hok2, HTW2.out, HTP2.out, by rw [← HT2.out, HCON.out]; simp⟩
          | true =>
            obtain ⟨tp, htp⟩ : ∃ tp, t.put j mi r = tp := ⟨_, rfl⟩
            have hokp : TrOk tp := by rw [← htp]; exact put_ok ht (by omega) (by omega)
            have hwp : tp.w = (wn : Int) := by rw [← htp, put_w]; exact HTW.out
            have hap : 0 < j + 1 → 1 ≤ tp.a0 := fun _ => by rw [← htp]; exact put_a0 (by omega) h0
            have hpp : ∀ m r', tp.put j m r' = t.put j m r' := fun m r' => by rw [← htp, put_put]
            have HTPP := Lib.hid htp
            have HPP := Lib.hid hpp
            have HWP := Lib.hid hwp
            have ca : W4.cell? ⟨W.heap.size, 1 + j, none⟩ = some (.int .i64 (t2.comes j)) := tr_cell_a t2 HL4.out.tb hj3
            have cb : W4.cell? ⟨W.heap.size, 4 + j, none⟩ = some (.int .i64 (t2.rough j)) := tr_cell_b t2 HL4.out.tb hj3
            have fz := blk_frozen HL4.out.tb
            have ij : (j : Int) < 3 := by omega
            clear htp hpp hwp
            go_upto_region 13 with fail
            obtain ⟨W5, hW5⟩ : ∃ W5, (W4.setCell ⟨W.heap.size, 1 + j, none⟩ (.int .i64 mi)).setCell ⟨W.heap.size, 4 + j, none⟩ (.int .i64 r) = W5 := ⟨_, rfl⟩
            have hL5 := HL4.out.put HA.out hj3 mi r (by omega) (Nat.le_refl _)
            rw [hW5] at hL5 ⊢
            rw [HTP2.out mi r, HTPP.out] at hL5
            have x5 : W5.cell? ⟨W.heap.size + 1, 5, none⟩ = some (.int .i64 x.sl) := blk_cell hL5.xb
            have HL5 := Lib.hid hL5
            clear hL5 hW5 ca cb fz
            obtain ⟨TC, hTC⟩ : ∃ TC, cur2 ++ goStops (b.cost wn) b.cks rest j t mi r (upto x.sl x.sh) = TC := ⟨_, rfl⟩
            have HTC := Lib.hid hTC
            clear hTC
            go_wp2_with fail
            go_loopg [15] (x.sh - x.sl + 1).toNat (fun n i wx => ∃ (s : Int) (cur : List Tr), (x.sl ≤ s ∧ s ≤ x.sh + 1) ∧ n = (x.sh + 1 - s).toNat ∧ i = .int .i64 s ∧ Loc b M l Bt Acc W.heap.size (W.heap.size + 1) x W tp cur wx ∧
              cur ++ goStops (b.cost wn) b.cks rest j t mi r (upto s x.sh) = TC)
            case atStart => exact ⟨x.sl, cur2, by omega, by omega, rfl, HL5.out, HTC.out⟩
            case round =>
              rename_i gk3 wr3 _ _
              obtain ⟨s, cur3, hs, hgk3, rfl, hL6, hT3⟩ := hrel
              have HG3 := Lib.hid hgk3
              have HT3 := Lib.hid hT3
              have HL6 := Lib.hid hL6
              have x6 : wr.cell? ⟨W.heap.size + 1, 6, none⟩ = some (.int .i64 x.sh) := blk_cell hL6.xb
              clear hgk3 hT3 hL6
              by_cases hls : s ≤ x.sh
              · have hE6 := HL6.out.env HA.out HE.out
                have d0 : wr.cell? ⟨Bd, 0, none⟩ = some (.func (.func 104) #[] #[.pointer (some ⟨Bb, 0, none⟩), .pointer (some ⟨By, 0, none⟩), .pointer (some ⟨Br, 0, none⟩), .pointer (some ⟨Bd, 0, none⟩)]) := blk_cell hE6.hd
                have p0 : wr.cell? ⟨W.heap.size, 0, none⟩ = some (.int .i64 tp.w) := blk_cell HL6.out.tb
                have p1 : wr.cell? ⟨W.heap.size, 1, none⟩ = some (.int .i64 tp.a0) := blk_cell HL6.out.tb
                have p2 : wr.cell? ⟨W.heap.size, 2, none⟩ = some (.int .i64 tp.a1) := blk_cell HL6.out.tb
                have p3 : wr.cell? ⟨W.heap.size, 3, none⟩ = some (.int .i64 tp.a2) := blk_cell HL6.out.tb
                have p4 : wr.cell? ⟨W.heap.size, 4, none⟩ = some (.int .i64 tp.b0) := blk_cell HL6.out.tb
                have p5 : wr.cell? ⟨W.heap.size, 5, none⟩ = some (.int .i64 tp.b1) := blk_cell HL6.out.tb
                have p6 : wr.cell? ⟨W.heap.size, 6, none⟩ = some (.int .i64 tp.b2) := blk_cell HL6.out.tb
                have HE6 := Lib.hid hE6
                clear hE6
                have hconS := goStops_cons (b.cost wn) b.cks rest j t mi r hls
                rw [HTPP.out] at hconS
                have HCONS := Lib.hid hconS
                clear hconS
                go_wp2_with fail
                have hcall := HI.out (j + 1) tp (mi + s) cur3 wr HRest.out (by omega) hokp HWP.out hap ⟨by omega, by rw [show ((j + 1 : Nat) : Int) = (j : Int) + 1 by omega]; omega⟩ HE6.out HL6.out.acc (by
                  have l1 := congrArg List.length HT3.out
                  have l2 := congrArg List.length HTC.out
                  have l3 := congrArg List.length HT2.out
                  have l4 := congrArg List.length HTB.out
                  have l5 := congrArg List.length HT1.out
                  have l6 := HTL.out
                  rw [HCONS.out] at l1
                  rw [HCON.out] at l3
                  rw [goDrives_cons _ _ _ _ _ _ _ (by omega)] at l5
                  simp only [if_true, List.length_append] at l1 l2 l3 l4 l5 ⊢
                  omega)
                rw [show ((j + 1 : Nat) : Int) = (j : Int) + 1 by omega] at hcall
                simp only [Tr.cells] at hcall
                refine hcall.mono ?_
                clear hcall
                rintro e W7 ⟨rfl, ha7, he7, hC7⟩
                have hL7 := HL6.out.step he7 ha7 hC7
                have HL7 := Lib.hid hL7
                clear hL7 ha7 he7 hC7
                go_wp2_with fail
                go_roundg (x.sh + 1 - (s + 1)).toNat
                case measure => rw [HG3.out]; omega
                case rel => exact ⟨s + 1, _, by omega, rfl, by go_num, HL7.out, by rw [← HT3.out, HCONS.out, List.append_assoc]⟩
              · have hT4 : cur3 = TC := by have := HT3.out; rw [upto_nil (by omega)] at this; simpa [goStops] using this
                have HT4 := Lib.hid hT4
                clear hT4
                go_wp2_with fail
                go_roundg (x.rh + 1 - (r + 1)).toNat
                case measure => rw [HG2.out]; omega
                case rel => exact ⟨r + 1, tp, cur3, by omega, rfl, by go_num, HL6.out, hokp, HWP.out, HPP.out, by rw [← HT2.out, HCON.out, HT4.out, ← HTC.out]; simp⟩
        · have hT4 : cur2 = TB := by have := HT2.out; rw [upto_nil (by omega)] at this; simpa [goRoads] using this
          have HT4 := Lib.hid hT4
          clear hT4
          go_wp2_with fail
          go_roundg ((x.dh - x.dl + 1).toNat - (d + 1))
          case measure => rw [HG.out]; omega
          case rel => exact ⟨d + 1, t2, cur2, by omega, rfl, by go_num, HL2.out, hok2, HTW2.out, HTP2.out, by
            rw [HT4.out, ← HTB.out, ← HT1.out, goDrives_cons (d := x.dl + d) _ _ _ _ _ _ _ (by omega), List.append_assoc, show x.dl + ((d + 1 : Nat) : Int) = x.dl + d + 1 by omega]⟩
    · have hT4 : cur = TA := by have := HT1.out; rw [upto_nil (by omega)] at this; simpa [goDrives] using this
      have HT4 := Lib.hid hT4
      clear hT4
      go_wp2
      go_ret
      exact ⟨rfl, HT4.out ▸ HL1.out.acc, HL1.out.eff, HL1.out.cache⟩

theorem drive_any (hA : AccLaw l Bt Acc) (hY : YieldsTo l Bt N Acc) (hb : Big b) (hl : 0 < b.sts.length) {wn : Nat} (hwn : wn < 3) : ∀ (rest : List St), (∃ j, b.sts.drop j = rest) → DriveAt b s k tv n M l Bt Bb By Br Bd (N - 1) wn Acc rest := by
  intro rest
  induction rest with
  | nil =>
    intro _ j t fr pre W hdrop hjl ht htw h0 hfr hE hacc hlen
    have hj : j = b.sts.length := by
      have := List.drop_eq_nil_iff.1 hdrop
      omega
    have hg : goes (b.cost wn) b.cks [] j t fr = [t] := rfl
    rw [hg] at hlen ⊢
    have hlt : pre.length < N := by simp at hlen; omega
    exact (drive_leaf hA hY hb j t fr pre W hj ht (h0 (by omega)) hE hacc hlt).mono fun e w' ⟨h1, h2, h3, h4, _⟩ => ⟨h1, h2, h3, h4⟩
  | cons x rest ih =>
    rintro ⟨j, hj⟩
    refine drive_step hA hb hwn (ih ⟨j + 1, ?_⟩)
    have h := congrArg List.tail hj
    simpa [List.tail_drop] using h
end
end Go.Proofs.YtbhjfojbjpbdbaaDoor

-- A10: The contract of the iterator's function (package claim, whole). Written by a session.
namespace Go.Proofs.YtbhjfojbjpbdbaaDoor
open Go.RowKit

section
variable {b : Bk} {s k tv : Value} {n M l Bt Bb By Br Bd N : Nat} {Acc : List Tr → World → Prop}

/-- what the iterator finds in the heap before its own boxes are laid. -/
structure Env0 (b : Bk) (s k tv : Value) (n M l Bt Bb : Nat) (W : World) : Prop where
  hb : W.heap[Bb]? = some (.cells (b.cells9 s k (.map (some M)) tv).toArray 79)
  sb : Safe l Bt W Bb
  s0 : Safe l Bt W 0
  s1 : Safe l Bt W 1
  sM : Safe l Bt W M
  hs : SlOf W n 7 s (stCells b.sts)
  ss : SlSafe l Bt W s (stCells b.sts)
  hk : SlOf W n 3 k (ckCells b.cks)
  sk : SlSafe l Bt W k (ckCells b.cks)
  hM : CacheOk W M b.cks
  hG : Glob W
  hn : n ≤ W.heap.size
  lB : Bt < W.heap.size
  ll : l < W.heap.size
  la : ∀ k, accBlk Bt W = some k → k < W.heap.size

/-- the truths of the weathers from one on. -/
def truthsFrom (b : Bk) (w : Nat) : List Tr := ((List.range 3).drop w).flatMap fun w => if bitOf b.wth w then goes (b.cost w) b.cks b.sts 0 (Tr.start w) 0 else []

theorem Env0.env {W : World} (hE : Env0 b s k tv n M l Bt Bb W) : Env b s k tv n M l Bt Bb W.heap.size (W.heap.size + 1) (W.heap.size + 1 + 1)
    (((W.alloc (.cells #[.func (.yield l) #[] #[]] 122)).alloc (.cells #[.func (.func 103) #[.agg (b.cells9 s k (.map (some M)) tv).toArray] #[]] 123)).alloc
      (.cells #[.func (.func 104) #[] #[.pointer (some ⟨Bb, 0, none⟩), .pointer (some ⟨W.heap.size, 0, none⟩), .pointer (some ⟨W.heap.size + 1, 0, none⟩), .pointer (some ⟨W.heap.size + 1 + 1, 0, none⟩)]] 124)) := by
  obtain ⟨V1, h1⟩ : ∃ V1, W.alloc (.cells #[.func (.yield l) #[] #[]] 122) = V1 := ⟨_, rfl⟩
  obtain ⟨V2, h2⟩ : ∃ V2, V1.alloc (.cells #[.func (.func 103) #[.agg (b.cells9 s k (.map (some M)) tv).toArray] #[]] 123) = V2 := ⟨_, rfl⟩
  obtain ⟨V3, h3⟩ : ∃ V3, V2.alloc (.cells #[.func (.func 104) #[] #[.pointer (some ⟨Bb, 0, none⟩), .pointer (some ⟨W.heap.size, 0, none⟩), .pointer (some ⟨W.heap.size + 1, 0, none⟩), .pointer (some ⟨W.heap.size + 1 + 1, 0, none⟩)]] 124) = V3 := ⟨_, rfl⟩
  have z1 : V1.heap.size = W.heap.size + 1 := by rw [← h1]; simp
  have z2 : V2.heap.size = W.heap.size + 1 + 1 := by rw [← h2]; simp [z1]
  have b1 : Below W.heap.size W V1 := by rw [← h1]; exact (Below.refl _ _).alloc (Nat.le_refl _) _
  have b2 : Below V1.heap.size V1 V2 := by rw [← h2]; exact (Below.refl _ _).alloc (Nat.le_refl _) _
  have b3 : Below V2.heap.size V2 V3 := by rw [← h3]; exact (Below.refl _ _).alloc (Nat.le_refl _) _
  have y1 : V1.heap[W.heap.size]? = some (.cells #[.func (.yield l) #[] #[]] 122) := by rw [← h1]; exact World.alloc_heap_new _ _
  have y2 : V2.heap[W.heap.size + 1]? = some (.cells #[.func (.func 103) #[.agg (b.cells9 s k (.map (some M)) tv).toArray] #[]] 123) := by rw [← h2, ← z1]; exact World.alloc_heap_new _ _
  have y3 : V3.heap[W.heap.size + 1 + 1]? = some (.cells #[.func (.func 104) #[] #[.pointer (some ⟨Bb, 0, none⟩), .pointer (some ⟨W.heap.size, 0, none⟩), .pointer (some ⟨W.heap.size + 1, 0, none⟩), .pointer (some ⟨W.heap.size + 1 + 1, 0, none⟩)]] 124) := by
    rw [← h3, ← z2]; exact World.alloc_heap_new _ _
  rw [h1, h2, h3]
  clear h1 h2 h3
  have hB : Below W.heap.size W V3 := (b1.trans (b2.mono (by omega))).trans (b3.mono (by omega))
  have he : Eff M l Bt W V3 := Eff.of_below hE.lB hB
  have hz := hB.size
  have hnew : ∀ K, W.heap.size ≤ K → Safe l Bt V3 K := fun K hK =>
    ⟨by have := hE.ll; omega, by have := hE.lB; omega, fun e => by rw [accBlk_same (hB.block Bt hE.lB)] at e; have := hE.la K e; omega⟩
  have lt : ∀ {B : Nat} {o : Obj}, W.heap[B]? = some o → B < W.heap.size := fun h1 => (Array.getElem?_eq_some_iff.1 h1).1
  obtain ⟨es, c, hm, _⟩ := id hE.hM
  have gk : ∀ {B o v}, W.cell? ⟨B, o, none⟩ = some v → V3.cell? ⟨B, o, none⟩ = some v := fun h => (hB.cell (p := ⟨_, _, none⟩) (lt_of_cell h)).trans h
  exact ⟨(hB.block _ (lt hE.hb)).trans hE.hb, (b3.block _ (by omega)).trans ((b2.block _ (by omega)).trans y1), (b3.block _ (by omega)).trans y2, y3,
    hE.sb.eff (lt hE.hb) he, hnew _ (by omega), hnew _ (by omega), hnew _ (by omega), hE.s0.eff (lt_of_cell hE.hG.k0) he, hE.s1.eff (lt_of_cell hE.hG.n0) he, hE.sM.eff (lt hm) he,
    hE.hs.eff hm hE.ss he, hE.ss.eff hE.hs hE.hn he, hE.hk.eff hm hE.sk he, hE.sk.eff hE.hk hE.hn he, hE.hM.of_block (hB.block M (lt hm)),
    ⟨gk hE.hG.k0, gk hE.hG.k1, gk hE.hG.n0, gk hE.hG.n1⟩, by have := hE.hn; omega, by have := hE.lB; omega, by have := hE.ll; omega,
    fun k hk => by rw [accBlk_same (hB.block Bt hE.lB)] at hk; have := hE.la k hk; omega⟩

theorem truthsFrom_step (b : Bk) {q : Nat} (hq : q < 3) : truthsFrom b q = (if bitOf b.wth q then goes (b.cost q) b.cks b.sts 0 (Tr.start q) 0 else []) ++ truthsFrom b (q + 1) := by
  have hqq : q = 0 ∨ q = 1 ∨ q = 2 := by omega
  rcases hqq with rfl | rfl | rfl <;> simp [truthsFrom, List.range, List.range.loop]

theorem bit_eq {wth : Int} (hw : 1 ≤ wth ∧ wth ≤ 7) {q : Nat} (hq : q < 3) : (bits BinOp.and IntKind.i64 (wth / 2 ^ q) 1 == 1) = bitOf wth q := by
  have h1 : wth = 1 ∨ wth = 2 ∨ wth = 3 ∨ wth = 4 ∨ wth = 5 ∨ wth = 6 ∨ wth = 7 := by omega
  have h2 : q = 0 ∨ q = 1 ∨ q = 2 := by omega
  rcases h1 with rfl | rfl | rfl | rfl | rfl | rfl | rfl <;> rcases h2 with rfl | rfl | rfl <;> decide

set_option maxRecDepth 100000 in
set_option maxHeartbeats 2000000 in
theorem whole1_any (hA : AccLaw l Bt Acc) (hY : YieldsTo l Bt N Acc) (hb : Big b) (hl : 0 < b.sts.length) (hw : 1 ≤ b.wth ∧ b.wth ≤ 7) (pre : List Tr) (W : World) (hE : Env0 b s k tv n M l Bt Bb W) (hacc : Acc pre W)
    (hN : (pre ++ truths b).length ≤ N - 1) :
    Calls Tryd.prog 102 #[.func (.yield l) #[] #[], .pointer (some ⟨Bb, 0, none⟩)] W fun e W' => (∃ v, e = .returned v) ∧ Acc (pre ++ truths b) W' ∧ Eff M l Bt W W' ∧ CacheOk W' M b.cks := by
  obtain ⟨sts, wth, c0, c1, c2, cks, rate⟩ := b
  have q0 : W.cell? ⟨Bb, 0, none⟩ = some s := blk_cell hE.hb
  have q1 : W.cell? ⟨Bb, 1, none⟩ = some (.int .i64 wth) := blk_cell hE.hb
  have q2 : W.cell? ⟨Bb, 2, none⟩ = some (.int .i64 c0) := blk_cell hE.hb
  have q3 : W.cell? ⟨Bb, 3, none⟩ = some (.int .i64 c1) := blk_cell hE.hb
  have q4 : W.cell? ⟨Bb, 4, none⟩ = some (.int .i64 c2) := blk_cell hE.hb
  have q5 : W.cell? ⟨Bb, 5, none⟩ = some k := blk_cell hE.hb
  have q6 : W.cell? ⟨Bb, 6, none⟩ = some (.int .i64 rate) := blk_cell hE.hb
  have q7 : W.cell? ⟨Bb, 7, none⟩ = some (.map (some M)) := blk_cell hE.hb
  have q8 : W.cell? ⟨Bb, 8, none⟩ = some tv := blk_cell hE.hb
  have lb : Bb < W.heap.size := (Array.getElem?_eq_some_iff.1 hE.hb).1
  have HE := Lib.hid hE
  have HA := Lib.hid hA
  have HY := Lib.hid hY
  have HAcc := Lib.hid hacc
  have HN := Lib.hid hN
  clear hE hA hY hacc hN
  have hpt : pre ++ truths ⟨sts, wth, c0, c1, c2, cks, rate⟩ = pre ++ truthsFrom ⟨sts, wth, c0, c1, c2, cks, rate⟩ 0 := rfl
  obtain ⟨TA, hTA⟩ : ∃ TA, pre ++ truths ⟨sts, wth, c0, c1, c2, cks, rate⟩ = TA := ⟨_, rfl⟩
  rw [hTA]
  have HPT := Lib.hid (hTA.symm.trans hpt)
  have HTL := Lib.hid (hTA ▸ HN.out)
  clear hpt hTA HN
  go_enter Tryd.func102, Tryd.ntmps102
  go_upto_region 4 with fail
  have hEV := HE.out.env
  simp only [Bk.cells9] at hEV
  obtain ⟨V, hV⟩ : ∃ V, ((W.alloc (.cells #[.func (.yield l) #[] #[]] 122)).alloc (.cells #[.func (.func 103) #[.agg #[s, .int .i64 wth, .int .i64 c0, .int .i64 c1, .int .i64 c2, k, .int .i64 rate, .map (some M), tv]] #[]] 123)).alloc
      (.cells #[.func (.func 104) #[] #[.pointer (some ⟨Bb, 0, none⟩), .pointer (some ⟨W.heap.size, 0, none⟩), .pointer (some ⟨W.heap.size + 1, 0, none⟩), .pointer (some ⟨W.heap.size + 1 + 1, 0, none⟩)]] 124) = V := ⟨_, rfl⟩
  have hBV : Below W.heap.size W V := by rw [← hV]; exact (((Below.refl _ _).alloc (Nat.le_refl _) _).alloc (by simp) _).alloc (by simp; omega) _
  rw [hV] at hEV ⊢
  have hAV := acc_below HA.out HAcc.out HE.out.ll HE.out.lB hBV
  have HEV := Lib.hid hEV
  have HAV := Lib.hid hAV
  have HB := Lib.hid hb
  clear hEV hAV hV q0 q1 q2 q3 q4 q5 q6 q7 q8 hb
  go_wp2_with fail
  go_loopg [9] 3 (fun n i wx => ∃ (q : Nat) (cur : List Tr), q ≤ 3 ∧ n = 3 - q ∧ i = .int .i64 q ∧ Acc cur wx ∧ Eff M l Bt V wx ∧ CacheOk wx M cks ∧ cur ++ truthsFrom ⟨sts, wth, c0, c1, c2, cks, rate⟩ q = TA)
  case atStart => exact ⟨0, pre, by omega, rfl, rfl, HAV.out, Eff.refl V, HEV.out.hM, HPT.out.symm⟩
  case round =>
    obtain ⟨q, cur, hq, hgk, rfl, ha, he, hC, hT⟩ := hrel
    have HG := Lib.hid hgk
    have HT := Lib.hid hT
    have hEx := HEV.out.eff he hC (HA.out.lt _ _ · ha)
    have HEX := Lib.hid hEx
    have HA1 := Lib.hid ha
    have HF1 := Lib.hid he
    have HC1 := Lib.hid hC
    clear hgk hT
    by_cases hq3 : q < 3
    · have q1 : wr.cell? ⟨Bb, 1, none⟩ = some (.int .i64 wth) := blk_cell hEx.hb
      have d0 : wr.cell? ⟨W.heap.size + 1 + 1, 0, none⟩ = some (.func (.func 104) #[] #[.pointer (some ⟨Bb, 0, none⟩), .pointer (some ⟨W.heap.size, 0, none⟩), .pointer (some ⟨W.heap.size + 1, 0, none⟩), .pointer (some ⟨W.heap.size + 1 + 1, 0, none⟩)]) := blk_cell hEx.hd
      have hst := truthsFrom_step ⟨sts, wth, c0, c1, c2, cks, rate⟩ hq3
      clear hEx ha he hC
      have hbb := bit_eq hw hq3
      by_cases hbit : bitOf wth q = true
      · rw [hbit] at hbb
        simp only [hbit, if_true] at hst
        have HST := Lib.hid hst
        clear hst hbit
        go_wp2_with fail
        have hcall := drive_any HA.out HY.out HB.out hl hq3 sts ⟨0, rfl⟩ 0 (Tr.start q) 0 cur wr rfl (Nat.zero_le _) ⟨by simp [Tr.start]; omega, by simp [Tr.start], by simp [Tr.start], by simp [Tr.start], by simp [Tr.start], by simp [Tr.start], by simp [Tr.start]⟩ rfl (by omega) (by omega) HEX.out HA1.out (by
          have l1 := congrArg List.length HT.out
          rw [HST.out] at l1
          have l2 := HTL.out
          simp only [List.length_append] at l1 ⊢
          omega)
        simp only [Tr.cells, Tr.start, Int.natCast_zero] at hcall
        refine hcall.mono ?_
        clear hcall
        rintro e W7 ⟨rfl, ha7, he7, hC7⟩
        have HA7 := Lib.hid ha7
        have HF7 := Lib.hid he7
        have HC7 := Lib.hid hC7
        clear ha7 he7 hC7
        go_wp2_with fail
        go_roundg (3 - (q + 1))
        case measure => rw [HG.out]; omega
        case rel => exact ⟨q + 1, _, by omega, rfl, by go_num, HA7.out, HF1.out.trans HF7.out, HC7.out, by rw [← HT.out, HST.out, List.append_assoc]; rfl⟩
      · have hbf : bitOf wth q = false := by simpa using hbit
        rw [hbf] at hbb
        simp only [hbf] at hst
        have HST := Lib.hid hst
        clear hst hbit hbf
        go_wp2_with fail
        go_roundg (3 - (q + 1))
        case measure => rw [HG.out]; omega
        case rel => exact ⟨q + 1, cur, by omega, rfl, by go_num, HA1.out, HF1.out, HC1.out, by rw [← HT.out, HST.out]; simp⟩
    · have hT4 : cur = TA := by have := HT.out; rw [show q = 3 by omega, show truthsFrom ⟨sts, wth, c0, c1, c2, cks, rate⟩ 3 = [] from rfl, List.append_nil] at this; exact this
      have HT4 := Lib.hid hT4
      clear hT4 hEx ha he hC
      go_wp2
      refine bodyPost_end (v := .tuple #[]) (by simp [results, Tryd.results102, go_sem]) rfl ?_
      exact ⟨⟨_, rfl⟩, HT4.out ▸ HA1.out, (Eff.of_below HE.out.lB hBV).trans HF1.out, HC1.out⟩

/-- the iterator's function is made. -/
theorem whole_any (b : Bk) (s k m tv : Value) (W : World) : Calls Tryd.prog 95 #[.agg (b.cells9 s k m tv).toArray] W fun e W' =>
    e = .returned (.func (.func 102) #[] #[.pointer (some ⟨W.heap.size, 0, none⟩)]) ∧ W' = W.alloc (.cells (b.cells9 s k m tv).toArray 79) := by
  simp only [Bk.cells9]
  go_enter Tryd.func95, Tryd.ntmps95
  go_wp2
  go_ret
  exact ⟨rfl, rfl⟩
end
end Go.Proofs.YtbhjfojbjpbdbaaDoor

-- A11: The contract of opened (package claim): a book made for the calculation, with all its truths. Written by a session.
namespace Go.Proofs.YtbhjfojbjpbdbaaDoor
open Go.RowKit

theorem mk76 : ∀ w, (Instr.makeMap 76 none).run Tryd.prog w = .ok (.map (some w.heap.size)) (w.alloc (.map #[] 0)) := fun _ => rfl
def nowEntry : MapEntry := { key := .agg #[.int .i64 (-1), .int .i64 (-1)], val := .bool false, born := 0 }
theorem ins76 : ∀ (w : World) (M : Nat), w.heap[M]? = some (.map #[] 0) → (Instr.mapUpdate 76 (.map (some M)) (.agg #[.int .i64 (-1), .int .i64 (-1)]) (.bool false)).run Tryd.prog w = .ok () (w.putObj M (.map #[nowEntry] 1)) := by
  intro w M h1
  obtain ⟨r, hr, hj⟩ := findKey115 (-1) (-1) w [] (by simp [KeysOk])
  have hu : ∀ w, (underlying 76).run Tryd.prog w = .ok (.map 115 4) w := fun _ => by kernel_rfl
  have hg : (getObj M).run Tryd.prog w = .ok (.map #[] 0) w := by simp [getObj, Sem.run, h1]
  have hs : ∀ o, (setObj M o).run Tryd.prog w = .ok () (w.putObj M o) := fun o => by simp [setObj, Sem.run, h1, World.putObj]
  cases r with
  | none => simp only [Instr.mapUpdate, Sem.run_bind, hu, Result.andThen_ok, hg, ck115, hr, hs]; rfl
  | some p =>
    obtain ⟨j, v0⟩ := p
    obtain ⟨e, he, hek, hev⟩ := hj j v0 rfl
    simp at he

/-- the world behind the map literal's insert. -/
structure Put (Y X : World) (M : Nat) : Prop where
  run : (Instr.mapUpdate 76 (.map (some M)) (.agg #[.int .i64 (-1), .int .i64 (-1)]) (.bool false)).run Tryd.prog Y = .ok () X
  size : X.heap.size = Y.heap.size
  map : X.heap[M]? = some (.map #[nowEntry] 1)
  old : ∀ k, k ≠ M → X.heap[k]? = Y.heap[k]?
  os : X.os = Y.os
  tape : X.tape = Y.tape
  output : X.output = Y.output
theorem Put.mk' {Y : World} {M : Nat} (h : Y.heap[M]? = some (.map #[] 0)) : ∃ X, Put Y X M := by
  have hlt := (Array.getElem?_eq_some_iff.1 h).1
  exact ⟨_, ins76 Y M h, by simp [World.putObj], World.putObj_heap_same hlt, fun k hk => World.putObj_heap_other (fun e => hk e) , rfl, rfl, rfl⟩

theorem Put.cell {Y X : World} {M B j : Nat} {v : Value} (h : Put Y X M) (hne : B ≠ M) (hc : Y.cell? ⟨B, j, none⟩ = some v) : X.cell? ⟨B, j, none⟩ = some v :=
  (World.cell?_of_block (w := Y) (a := ⟨B, j, none⟩) (h.old B hne)).trans hc

abbrev zero79 : Obj := .cells #[.slice none 0 0, .int .i64 0, .int .i64 0, .int .i64 0, .int .i64 0, .slice none 0 0, .int .i64 0, .map none, .slice none 0 0] 79


theorem info42 : (Tryd.prog.info? 42).map (fun i => (i.zero, i.size, i.bytes)) = some (some (.agg #[.int .i64 0, .int .i64 0, .int .i64 0]), 3, 24) := by kernel_rfl
theorem info87 : (Tryd.prog.info? 87).map (fun i => (i.zero, i.size, i.bytes)) = some (some (.agg #[.int .i64 0, .int .i64 0, .int .i64 0, .int .i64 0, .int .i64 0, .int .i64 0, .int .i64 0]), 7, 56) := by kernel_rfl

/-- where the book under way stands while its clocks are taken: V: the world before it was laid. -/
structure Fil (b : Bk) (s : Value) (M Bt n0 : Nat) (V : World) (done : List Ck) (kv : Value) (w : World) : Prop where
  bt : w.heap[Bt]? = some (.cells (b.cells9 s kv (.map (some M)) (.slice none 0 0)).toArray 79)
  map : w.heap[M]? = some (.map #[nowEntry] 1)
  row : w.ownsRow n0 42 3 kv done.length (done.flatMap Ck.cells)
  old : Below V.heap.size V w
  sz : n0 ≤ w.heap.size
  lb : Bt < n0
  lm : M < n0
  vb : V.heap.size ≤ Bt
  v0 : V.heap.size ≤ n0

theorem Fil.alloc {b : Bk} {s : Value} {M Bt n0 : Nat} {V : World} {done : List Ck} {kv : Value} {w : World} (h : Fil b s M Bt n0 V done kv w) (o : Obj) : Fil b s M Bt n0 V done kv (w.alloc o) :=
  ⟨(heap_alloc_old w o (by have := h.sz; have := h.lb; omega)).trans h.bt, (heap_alloc_old w o (by have := h.sz; have := h.lm; omega)).trans h.map, h.row.alloc o,
    h.old.alloc (by have := h.sz; have := h.v0; omega) o, by have := h.sz; simp; omega, h.lb, h.lm, h.vb, h.v0⟩

theorem Fil.push {b : Bk} {s : Value} {M Bt n0 : Nat} {V : World} {done : List Ck} {kv : Value} {w w1 : World} (h : Fil b s M Bt n0 V done kv w) {c : Ck} {v' : Value} {tmp : Obj}
    (hown : w1.ownsRow n0 42 3 v' (done.length + 1) (done.flatMap Ck.cells ++ c.cells)) (hg : (w.alloc tmp).grownBy w1 kv.ownBlock) :
    Fil b s M Bt n0 V (done ++ [c]) v' (w1.setCell ⟨Bt, 5, none⟩ v') := by
  have hlt : ∀ k, kv.ownBlock = some k → n0 ≤ k ∧ k < w.heap.size := h.row.lt
  have hlt' := hown.lt
  have hz : n0 ≤ w1.heap.size := by have := hg.size; have := h.sz; simp at *; omega
  have keep : ∀ k, k < n0 → w1.heap[k]? = w.heap[k]? := fun k hk =>
    (hg.block k (by have := h.sz; simp; omega) (fun e => by have := (hlt k e.symm).1; omega)).trans (heap_alloc_old w tmp (by have := h.sz; omega))
  refine ⟨?_, ?_, ?_, ?_, by simpa [World.setCell] using hz, h.lb, h.lm, h.vb, h.v0⟩
  · rw [blk_set ((keep Bt h.lb).trans h.bt)]
    simp [Bk.cells9]
  · exact (Below.heap_setCell _ _ _ _ (by intro e; have h1 := (keep Bt h.lb).trans h.bt; have h2 := (keep M h.lm).trans h.map; rw [e] at h2; rw [h1] at h2; cases h2)).trans ((keep M h.lm).trans h.map)
  · have := hown.kept (w' := w1.setCell ⟨Bt, 5, none⟩ v') (row := some Bt) ⟨rfl, rfl, rfl, by simp [World.setCell], fun k _ hk => Below.heap_setCell _ _ _ k (fun e => hk (by rw [e]))⟩
      (.inr fun e => by have := (hlt' Bt e).1; have := h.lb; omega)
    simpa [List.flatMap_append] using this
  · refine ((h.old.alloc (by have := h.sz; have := h.v0; omega) tmp).grown hg (by have := h.sz; have := h.v0; simp; omega) fun k e => ?_).setCell (p := ⟨Bt, 5, none⟩) h.vb v'
    have := (hlt k e).1
    have := h.v0
    omega

theorem leaveOut_append : ∀ (l1 l2 : List Ck) (but : List Nat) (k : Nat), leaveOut but k (l1 ++ l2) = leaveOut but k l1 ++ leaveOut but (k + l1.length) l2
  | [], l2, but, k => by simp [leaveOut]
  | c :: l1, l2, but, k => by
    simp only [List.cons_append, leaveOut, leaveOut_append l1 l2 but (k + 1), List.length_cons]
    rw [show k + 1 + l1.length = k + (l1.length + 1) by omega]
    split <;> simp

theorem leaveOut_take {cks : List Ck} {but : List Nat} {q : Nat} {c : Ck} (h : cks[q]? = some c) : leaveOut but 0 (cks.take (q + 1)) = leaveOut but 0 (cks.take q) ++ (if but.contains q then [] else [c]) := by
  have hlt : q < cks.length := (List.getElem?_eq_some_iff.1 h).1
  rw [List.take_add_one, h, leaveOut_append]
  simp only [Option.toList_some, List.length_take, Nat.min_eq_left (Nat.le_of_lt hlt), Nat.zero_add, leaveOut]

theorem leaveOut_le : ∀ (cks : List Ck) (but : List Nat) (k : Nat), (leaveOut but k cks).length ≤ cks.length
  | [], _, _ => Nat.le_refl _
  | c :: l, but, k => by
    have := leaveOut_le l but (k + 1)
    simp only [leaveOut]
    split <;> simp <;> omega

theorem addr_add (g j : Nat) : (⟨g, 0, none⟩ : Addr).add j = ⟨g, j, none⟩ := by unfold Addr.add; split <;> simp_all

end Go.Proofs.YtbhjfojbjpbdbaaDoor

-- A12: The range over the iterator (package claim, opened): the loop's record, the book that gathers, and the law of the statement. Written by a session.
namespace Go.Proofs.YtbhjfojbjpbdbaaDoor
open Go.RowKit

/-- the book that gathers, and the loop's record. -/
structure At (b : Bk) (s kv : Value) (M Bt l n1 : Nat) (r : Loop) (cur : List Tr) (W : World) : Prop where
  L : W.heap[l]? = some (.loop r)
  bt : ∃ tv, W.heap[Bt]? = some (.cells (b.cells9 s kv (.map (some M)) tv).toArray 79) ∧ W.ownsRow n1 87 7 tv cur.length (cur.flatMap Tr.cells)
  sz : n1 ≤ W.heap.size

theorem accBlk_own {b : Bk} {s kv m tv : Value} {Bt n1 k : Nat} {W : World} {xs : List Value} (h : W.heap[Bt]? = some (.cells (b.cells9 s kv m tv).toArray 79)) (hr : W.ownsRow n1 87 7 tv k xs) : accBlk Bt W = tv.ownBlock := by
  have h8 : W.cell? ⟨Bt, 8, none⟩ = some tv := (blk_cell h).trans rfl
  unfold accBlk
  rw [h8]
  rcases hr.2 with ⟨rfl, _⟩ | ⟨g, cap, cur, rfl, _⟩ <;> rfl

theorem ownsRow_same {W W' : World} {base : Nat} {e : TypeId} {size : Nat} {v : Value} {k : Nat} {xs : List Value} (h : W.ownsRow base e size v k xs) (hs : ∀ g, v.ownBlock = some g → W'.heap[g]? = W.heap[g]?) : W'.ownsRow base e size v k xs := by
  refine ⟨h.1, ?_⟩
  rcases h.2 with hn | ⟨g, cap, cur, rfl, hb, hg, rest⟩
  · exact .inl hn
  · exact .inr ⟨g, cap, cur, rfl, hb, (hs g rfl).trans hg, rest⟩

theorem At.law {b : Bk} {s kv : Value} {M Bt l n1 : Nat} {r : Loop} : AccLaw l Bt (At b s kv M Bt l n1 r) := by
  refine ⟨fun pre W W' h hz hk => ?_, fun pre W k h hk => ?_⟩
  · obtain ⟨tv, hb, hr⟩ := h.bt
    have ha := accBlk_own hb hr
    exact ⟨(hk l (.inl rfl)).trans h.L, ⟨tv, (hk Bt (.inr (.inl rfl))).trans hb, ownsRow_same hr fun g hg => hk g (.inr (.inr (ha.trans hg)))⟩, Nat.le_trans h.sz hz⟩
  · obtain ⟨tv, hb, hr⟩ := h.bt
    rw [accBlk_own hb hr] at hk
    exact (hr.lt k hk).2

/-- what a round leaves. -/
def RoundPost (l Bt : Nat) (Acc : List Tr → World → Prop) (pre : List Tr) (t : Tr) (W : World) (e : Ending) (W' : World) : Prop :=
  e = .returned (.bool true) ∧ Acc (pre ++ [t]) W' ∧ Upd (fun k => k = l ∨ k = Bt ∨ accBlk Bt W = some k) W W' ∧ (∀ k, accBlk Bt W' = some k → accBlk Bt W = some k ∨ W.heap.size ≤ k)

/-- the loop's round, as it is walked. -/
def RoundOk (A B : Code) (l Bt : Nat) (T : Array Value) (N : Nat) (Acc : List Tr → World → Prop) : Prop :=
  ∀ (pre : List Tr) (t : Tr) (W : World), Acc pre W → pre.length < N →
    A.wpIn (Fence.wide.inRound l) 0 Tryd.prog (Exit.then (fun a₁ w₁ => ∃ w₂, (Instr.beginRound l).run Tryd.prog w₁ = .ok () w₂ ∧ B.wpIn (Fence.wide.inRound l) 0 Tryd.prog (roundPost Tryd.prog l (RoundPost l Bt Acc pre t W)) a₁ w₂) (fun _ _ _ => False))
      { tmps := T.setIfInBounds 39 (.agg t.cells.toArray), defers := [] } W

theorem RoundOk.yields {A B : Code} {b : Bk} {s kv : Value} {M Bt l n1 N : Nat} {r : Loop} (hA : r.assign = A) (hB : r.body = B) (hp : r.params = #[39])
    (h : RoundOk A B l Bt r.tmps N (At b s kv M Bt l n1 r)) : YieldsTo l Bt N (At b s kv M Bt l n1 r) := by
  intro pre t W hacc _ hlen
  refine ⟨r.fn, r.tmps.setIfInBounds 39 (.agg t.cells.toArray), r.assign, r.body, ?_, ?_⟩
  · have := run_yield (P := Tryd.prog) (args := #[.agg t.cells.toArray]) hacc.L (by rw [hp]; rfl)
    rw [this, hp]
    simp
  · have := h pre t W hacc hlen
    rw [hA, hB]
    exact roundIn_of_wpIn trivial this

/-- the end of a round, from what the append's law leaves. -/
theorem round_end {b : Bk} {s kv : Value} {M Bt l n1 : Nat} {r : Loop} {pre : List Tr} {t : Tr} {W w2 w3 : World} {tv v' : Value} {tb tmp : Obj} (hacc : At b s kv M Bt l n1 r pre W) (hready : r.state = .ready) (hpend : r.pending = none)
    (hlB : l ≠ Bt) (hln : l < n1) (hBn : Bt < n1) (hb : W.heap[Bt]? = some (.cells (b.cells9 s kv (.map (some M)) tv).toArray 79)) (hr : W.ownsRow n1 87 7 tv pre.length (pre.flatMap Tr.cells))
    (h2 : (W.alloc tb).putObj l (.loop { r with state := .busy }) = w2)
    (hown : w3.ownsRow n1 87 7 v' (pre.length + 1) (pre.flatMap Tr.cells ++ t.cells)) (hg : (w2.alloc tmp).grownBy w3 tv.ownBlock) (hat : v'.ownBlock = tv.ownBlock ∨ v'.ownBlock = some (w2.alloc tmp).heap.size) :
    ∃ v w5, (Instr.endRound l none).run Tryd.prog (w3.setCell ⟨Bt, 8, none⟩ v') = .ok v w5 ∧ RoundPost l Bt (At b s kv M Bt l n1 r) pre t W (.returned v) w5 := by
  have ha := accBlk_own hb hr
  have hlW : l < W.heap.size := (Array.getElem?_eq_some_iff.1 hacc.L).1
  have hBW : Bt < W.heap.size := (Array.getElem?_eq_some_iff.1 hb).1
  have hz2 : w2.heap.size = W.heap.size + 1 := by rw [← h2]; simp [World.putObj]
  have hz3 : W.heap.size + 2 ≤ w3.heap.size := by have := hg.size; simp at this; omega
  have hown_lt := hr.lt
  have k2 : ∀ k, k ≠ l → k < W.heap.size → w2.heap[k]? = W.heap[k]? := fun k h1 h3 => by
    rw [← h2]; exact (World.putObj_heap_other (fun e => h1 e)).trans (heap_alloc_old W tb h3)
  have l2 : w2.heap[l]? = some (.loop { r with state := .busy }) := by rw [← h2]; exact World.putObj_heap_same (by simp; omega)
  have k3 : ∀ k, k < w2.heap.size → tv.ownBlock ≠ some k → w3.heap[k]? = w2.heap[k]? := fun k h1 h4 => (hg.block k (by simp; omega) (fun e => h4 e.symm)).trans (heap_alloc_old w2 tmp h1)
  have nl : tv.ownBlock ≠ some l := fun e => by have := (hown_lt l e).1; omega
  have nB : tv.ownBlock ≠ some Bt := fun e => by have := (hown_lt Bt e).1; omega
  have l3 : w3.heap[l]? = some (.loop { r with state := .busy }) := (k3 l (by omega) nl).trans l2
  have b3 : w3.heap[Bt]? = some (.cells (b.cells9 s kv (.map (some M)) tv).toArray 79) := (k3 Bt (by omega) nB).trans ((k2 Bt hlB.symm hBW).trans hb)
  obtain ⟨w4, h4⟩ : ∃ w4, w3.setCell ⟨Bt, 8, none⟩ v' = w4 := ⟨_, rfl⟩
  have z4 : w4.heap.size = w3.heap.size := by rw [← h4]; simp [World.setCell]
  have l4 : w4.heap[l]? = some (.loop { r with state := .busy }) := by rw [← h4]; exact (Below.heap_setCell _ _ _ _ hlB).trans l3
  have b4 : w4.heap[Bt]? = some (.cells (b.cells9 s kv (.map (some M)) v').toArray 79) := by rw [← h4, blk_set b3]; simp [Bk.cells9]
  have k4 : ∀ k, k ≠ Bt → w4.heap[k]? = w3.heap[k]? := fun k hk => by rw [← h4]; exact Below.heap_setCell _ _ _ _ hk
  have hown4 : w4.ownsRow n1 87 7 v' (pre.length + 1) (pre.flatMap Tr.cells ++ t.cells) := ownsRow_same hown fun g hg' => k4 g (fun e => by have := (hown.lt g hg').1; omega)
  rw [h4]
  refine ⟨_, _, run_endRound none l4, rfl, ?_, ?_, ?_⟩
  · obtain ⟨w5, h5⟩ : ∃ w5, w4.putObj l (.loop { { r with state := .busy } with state := if (none : Option Code).isNone then .ready else .done, pending := none }) = w5 := ⟨_, rfl⟩
    rw [h5]
    refine ⟨?_, ⟨v', ?_, ?_⟩, ?_⟩
    · rw [← h5, World.putObj_heap_same (Array.getElem?_eq_some_iff.1 l4).1]
      simp [← hready, ← hpend]
    · rw [← h5]; exact (World.putObj_heap_other hlB.symm).trans b4
    · simp only [List.length_append, List.length_cons, List.length_nil, List.flatMap_append, List.flatMap_cons, List.flatMap_nil, List.append_nil]
      refine ownsRow_same hown4 fun g hg' => ?_
      rw [← h5]
      exact World.putObj_heap_other (fun e => by have := (hown4.lt g hg').1; omega)
    · rw [← h5]
      have := hacc.sz
      simp [World.putObj]
      omega
  · refine ⟨?_, ?_, ?_, ?_, fun k hk hs => ?_⟩
    · have := hg.os; rw [← h4]; show w3.os = _; rw [this, ← h2]; rfl
    · have := hg.tape; rw [← h4]; show w3.tape = _; rw [this, ← h2]; rfl
    · have := hg.output; rw [← h4]; show w3.output = _; rw [this, ← h2]; rfl
    · simp [World.putObj]; omega
    · have h1 : k ≠ l := fun e => hs (.inl e)
      have h3 : k ≠ Bt := fun e => hs (.inr (.inl e))
      have h6 : tv.ownBlock ≠ some k := fun e => hs (.inr (.inr (ha.trans e)))
      exact (World.putObj_heap_other (fun e => h1 e)).trans ((k4 k h3).trans ((k3 k (by omega) h6).trans (k2 k h1 hk)))
  · intro k hk
    rw [accBlk_same (World.putObj_heap_other hlB.symm), accBlk_own b4 hown4] at hk
    rcases hat with e | e
    · exact .inl (ha.trans (e ▸ hk))
    · right
      rw [hk] at e
      simp at e
      omega

theorem Env0.of {b : Bk} {s kv : Value} {n M Bt l Bb : Nat} {w : World} (hG : Glob w) (hs : SlOf w n 7 s (stCells b.sts)) (hk : SlOf w n 3 kv (ckCells b.cks)) (hM : CacheOk w M b.cks) (hn : n ≤ w.heap.size) (hB : Bt < w.heap.size) (hl : l < w.heap.size)
    (hb : w.heap[Bb]? = some (.cells (b.cells9 s kv (.map (some M)) (.slice none 0 0)).toArray 79)) (hacc : accBlk Bt w = none) (hBb : Bb ≠ Bt ∧ Bb ≠ l) (h0 : 1 < Bt ∧ 1 < l) (hMn : M ≠ Bt ∧ M ≠ l)
    (hS : ∀ g o len cap, s = .slice (some ⟨g, o, none⟩) len cap → 0 < b.sts.length → g ≠ Bt ∧ g ≠ l) (hK : ∀ g o len cap, kv = .slice (some ⟨g, o, none⟩) len cap → 0 < b.cks.length → g ≠ Bt ∧ g ≠ l) : Env0 b s kv (.slice none 0 0) n M l Bt Bb w := by
  have sf : ∀ k, k ≠ Bt ∧ k ≠ l → Safe l Bt w k := fun k hk => ⟨hk.2, hk.1, by rw [hacc]; simp⟩
  refine ⟨hb, sf _ hBb, sf _ (by omega), sf _ (by omega), sf _ hMn, hs, ?_, hk, ?_, hM, hG, hn, hB, hl, by rw [hacc]; simp⟩
  · obtain ⟨a, cap, rfl, _, _, _, h4⟩ := hs
    intro hne a' len' cap' e
    cases e
    obtain ⟨g, o, e1, _⟩ := h4 (List.length_pos_iff.2 hne)
    cases e1
    have := hS g o _ _ rfl (by have := List.length_pos_iff.2 hne; simpa [stCells] using this)
    exact sf _ this
  · obtain ⟨a, cap, rfl, _, _, _, h4⟩ := hk
    intro hne a' len' cap' e
    cases e
    obtain ⟨g, o, e1, _⟩ := h4 (List.length_pos_iff.2 hne)
    cases e1
    have := hK g o _ _ rfl (by have := List.length_pos_iff.2 hne; simpa [ckCells] using this)
    exact sf _ this

/-- the range over the iterator, all its rounds walked once. -/
theorem range_any {A B : Code} {Q : Exit → Act → World → Prop} {a : Act} {w V : World} {b : Bk} {s kv : Value} {n M Bt Bb N : Nat} (hb : Big b) (hl : 0 < b.sts.length) (hw : 1 ≤ b.wth ∧ b.wth ≤ 7) (hN : (truths b).length ≤ N - 1)
    (hg : a.eval (.tmp 38) = .func (.func 102) #[] #[.pointer (some ⟨Bb, 0, none⟩)])
    (hE : ∀ l, w.heap.size < l → l < w.heap.size + 2 → ∀ w', Below w.heap.size w w' → l < w'.heap.size → Env0 b s kv (.slice none 0 0) n M l Bt Bb w')
    (hbt : w.heap[Bt]? = some (.cells (b.cells9 s kv (.map (some M)) (.slice none 0 0)).toArray 79)) (hV : Below V.heap.size V w) (hM : V.heap.size ≤ M ∧ M < w.heap.size) (hB : V.heap.size ≤ Bt)
    (hR : ∀ r : Loop, r.state = .ready → r.pending = none → RoundOk A B (w.heap.size + 1) Bt a.tmps N (At b s kv M Bt (w.heap.size + 1) (w.heap.size + 2) r))
    (hQ : ∀ W tv, W.heap[w.heap.size]? = some (.deferred (some [])) → W.heap[Bt]? = some (.cells (b.cells9 s kv (.map (some M)) tv).toArray 79) → W.ownsRow (w.heap.size + 2) 87 7 tv (truths b).length ((truths b).flatMap Tr.cells) →
      Below V.heap.size V W → (∀ k, k < w.heap.size → k ≠ M → k ≠ Bt → W.heap[k]? = w.heap[k]?) → Q .normal { a with defers := [{ target := .collected w.heap.size, args := #[] }] ++ a.defers } W) :
    (Code.rangeFunc (.tmp 38) #[39] A B).wpIn Fence.wide 0 Tryd.prog Q a w := by
  have hBw : Bt < w.heap.size := (Array.getElem?_eq_some_iff.1 hbt).1
  refine wpIn_rangeFunc ?_
  intro fn _
  obtain ⟨r, hr⟩ : ∃ r : Loop, ({ state := .ready, pending := none, fn, tmps := a.tmps, params := #[39], assign := A, body := B, defers := w.heap.size } : Loop) = r := ⟨_, rfl⟩
  obtain ⟨w1, h1⟩ : ∃ w1, (w.alloc (.deferred (some []))).alloc (.loop r) = w1 := ⟨_, rfl⟩
  have hz1 : w1.heap.size = w.heap.size + 2 := by rw [← h1]; simp
  have hb1 : Below w.heap.size w w1 := by rw [← h1]; exact ((Below.refl _ _).alloc (Nat.le_refl _) _).alloc (by simp) _
  have hL1 : w1.heap[w.heap.size + 1]? = some (.loop r) := by rw [← h1]; have := World.alloc_heap_new (w.alloc (.deferred (some []))) (.loop r); rwa [World.size_alloc] at this
  have hD1 : w1.heap[w.heap.size]? = some (.deferred (some [])) := by rw [← h1]; exact (heap_alloc_old _ _ (by simp)).trans (World.alloc_heap_new _ _)
  have hB1 := (hb1.block Bt hBw).trans hbt
  have hE1 := hE (w.heap.size + 1) (by omega) (by omega) w1 hb1 (by omega)
  have hA1 : At b s kv M Bt (w.heap.size + 1) (w.heap.size + 2) r [] w1 := ⟨hL1, ⟨_, hB1, World.ownsRow_nil _ _ _ _⟩, by omega⟩
  have hacc1 : accBlk Bt w1 = none := (accBlk_own hB1 (World.ownsRow_nil w1 (w.heap.size + 2) 87 7)).trans rfl
  refine ⟨w.heap.size + 1, [{ target := .collected w.heap.size, args := #[] }], w1, { target := .fn (.func 102) #[.pointer (some ⟨Bb, 0, none⟩)], args := #[.func (.yield (w.heap.size + 1)) #[] #[]] }, w1, 102,
    #[.func (.yield (w.heap.size + 1)) #[] #[], .pointer (some ⟨Bb, 0, none⟩)], w1, ?_, ?_, fun _ _ => trivial, ?_, fun h => by simp [Fence.wide] at h, ?_⟩
  · have := run_enterLoop_outer (P := Tryd.prog) (w := w) fn a.tmps #[39] A B
    rw [hr, h1] at this
    exact this
  · simp [go_sem] at hg
    simp [resolve, go_sem, hg]
  · simp [invoke, go_sem]
  · refine callsIn_wide.2 ((whole1_any At.law (RoundOk.yields (by rw [← hr]) (by rw [← hr]) (by rw [← hr]) (by have := hR r (by rw [← hr]) (by rw [← hr]); rw [show r.tmps = a.tmps by rw [← hr]]; exact this)) hb hl hw [] w1 hE1 hA1 (by simpa using hN)).mono ?_)
    rintro e W ⟨⟨v, rfl⟩, hA, hF, _⟩
    obtain ⟨tv, hbW, hrow⟩ := hA.bt
    have hst : r.pending = none := by rw [← hr]
    have hend := run_endLoop (P := Tryd.prog) hA.L (by rw [← hr]; simp)
    rw [hst] at hend
    refine ⟨none, _, hend, ?_⟩
    have keep : ∀ k, k < w.heap.size → k ≠ M → k ≠ Bt → W.heap[k]? = w.heap[k]? := fun k hk hm hb => (hF.upd.block k (by omega) (by
      rintro (e | e | e | e)
      · exact hm e
      · omega
      · exact hb e
      · rw [hacc1] at e; cases e)).trans (hb1.block k hk)
    simp only [List.nil_append] at hrow
    refine hQ _ tv ?_ ?_ ?_ ?_ ?_
    · refine (World.putObj_heap_other (by omega)).trans ((hF.upd.block _ (by omega) ?_).trans hD1)
      rintro (e | e | e | e)
      · omega
      · omega
      · omega
      · rw [hacc1] at e; cases e
    · exact (World.putObj_heap_other (by omega)).trans hbW
    · exact ownsRow_same hrow fun g hg => World.putObj_heap_other (by have := (hrow.lt g hg).1; omega)
    · have hVs := hV.size
      exact ⟨(show W.os = _ from hF.upd.os).trans (hb1.os.trans hV.os), (show W.tape = _ from hF.upd.tape).trans (hb1.tape.trans hV.tape), (show W.output = _ from hF.upd.output).trans (hb1.output.trans hV.output),
        by have := hF.size; simp; omega, fun k hk => (World.putObj_heap_other (by omega)).trans ((keep k (by omega) (by omega) (by omega)).trans (hV.block k hk))⟩
    · exact fun k hk hm hb => (World.putObj_heap_other (by omega)).trans (keep k hk hm hb)

theorem flat_at {sz : Nat} : ∀ (rows : List (List Value)), (∀ r ∈ rows, r.length = sz) → ∀ (i j : Nat) (r : List Value) (c : Value), rows[i]? = some r → r[j]? = some c → rows.flatten[i * sz + j]? = some c
  | [], _, i, j, r, c, h, _ => by simp at h
  | x :: rows, hl, 0, j, r, c, h, hj => by
    simp at h
    subst h
    have hjl : j < x.length := (List.getElem?_eq_some_iff.1 hj).1
    simp only [List.flatten_cons, Nat.zero_mul, Nat.zero_add]
    rw [List.getElem?_append_left hjl]
    exact hj
  | x :: rows, hl, i + 1, j, r, c, h, hj => by
    have hx : x.length = sz := hl x (by simp)
    simp only [List.getElem?_cons_succ] at h
    simp only [List.flatten_cons]
    rw [List.getElem?_append_right (by rw [hx, Nat.add_mul]; omega), hx, show (i + 1) * sz + j - sz = i * sz + j by rw [Nat.add_mul]; omega]
    exact flat_at rows (fun r hr => hl r (by simp [hr])) i j r c h hj

theorem SlOf.own {w : World} {base : Nat} {e : TypeId} {sz : Nat} {v : Value} {rows : List (List Value)} (h : w.ownsRow base e sz v rows.length rows.flatten) (hr : ∀ r ∈ rows, r.length = sz) : SlOf w w.heap.size sz v rows := by
  rcases h.2 with ⟨rfl, h0⟩ | ⟨g, cap, cur, rfl, hb, hg, hc, hm, hs, ht⟩
  · exact ⟨none, 0, by rw [h0], by omega, by rw [h0]; exact Nat.zero_le _, hr, fun hp => by omega⟩
  · refine ⟨_, cap, rfl, hc, Nat.le_trans hc hm, hr, fun _ => ⟨g, 0, rfl, (Array.getElem?_eq_some_iff.1 hg).1, fun i j r c hi hj => ?_⟩⟩
    have h1 := flat_at rows hr i j r c hi hj
    rw [blk_cell hg, Nat.zero_add]
    rw [← ht, List.getElem?_take] at h1
    split at h1
    · simpa using h1
    · cases h1

theorem cacheOk_new {W : World} {M : Nat} {cks : List Ck} (h : W.heap[M]? = some (.map #[nowEntry] 1)) : CacheOk W M cks := by
  refine ⟨_, _, h, fun e he => ?_⟩
  simp at he
  subst he
  exact ⟨-1, -1, false, rfl, rfl, fun hn => absurd ⟨rfl, rfl⟩ hn⟩

theorem ckCells_flat (l : List Ck) : l.flatMap Ck.cells = (ckCells l).flatten := by simp [ckCells, List.flatMap_def]
theorem trCells_flat (l : List Tr) : l.flatMap Tr.cells = (trCells l).flatten := by simp [trCells, List.flatMap_def]
theorem ckCells_len (l : List Ck) : ∀ r ∈ ckCells l, r.length = 3 := by intro r hr; simp [ckCells] at hr; obtain ⟨c, _, rfl⟩ := hr; rfl
theorem trCells_len (l : List Tr) : ∀ r ∈ trCells l, r.length = 7 := by intro r hr; simp [trCells] at hr; obtain ⟨c, _, rfl⟩ := hr; rfl

theorem ownsRow_slice {w : World} {base : Nat} {e : TypeId} {sz : Nat} {v : Value} {k : Nat} {xs : List Value} (h : w.ownsRow base e sz v k xs) : ∃ a m c, v = .slice a m c := by
  rcases h.2 with ⟨rfl, _⟩ | ⟨g, cap, cur, rfl, _⟩
  · exact ⟨_, _, _, rfl⟩
  · exact ⟨_, _, _, rfl⟩

theorem Fil.env {b : Bk} {s kv : Value} {M Bt Bb n0 n : Nat} {V X : World} (h : Fil b s M Bt n0 V b.cks kv X) (hG : Glob V) (hn : n ≤ V.heap.size) (hs : SlOf V n 7 s (stCells b.sts)) (h1 : 1 < V.heap.size)
    (hBb : n0 ≤ Bb) (hb : X.heap[Bb]? = some (.cells (b.cells9 s kv (.map (some M)) (.slice none 0 0)).toArray 79)) {l : Nat} (hl : X.heap.size < l) {w1 : World} (hb1 : Below X.heap.size X w1) (hlw : l < w1.heap.size) :
    Env0 b s kv (.slice none 0 0) X.heap.size M l Bt Bb w1 := by
  have hlb := h.lb
  have hlm := h.lm
  have hv0 := h.v0
  have hvb := h.vb
  have hsz := h.sz
  have hVw : Below V.heap.size V w1 := h.old.trans (hb1.mono (by omega))
  have hbX := (Array.getElem?_eq_some_iff.1 hb).1
  have hrow : w1.ownsRow n0 42 3 kv b.cks.length (b.cks.flatMap Ck.cells) := ownsRow_same h.row fun g hg => hb1.block g (h.row.lt g hg).2
  have hrow0 := h.row
  rw [ckCells_flat] at hrow0
  have hsk : SlOf X X.heap.size 3 kv (ckCells b.cks) := SlOf.own (by simpa [ckCells] using hrow0) (ckCells_len _)
  have hmb := (hb1.block M (by omega)).trans h.map
  have hbb := (hb1.block Bt (by omega)).trans h.bt
  have hMB : M ≠ Bt := by intro e; rw [e, hbb] at hmb; cases hmb
  have g : ∀ {B o v}, V.cell? ⟨B, o, none⟩ = some v → B < V.heap.size → w1.cell? ⟨B, o, none⟩ = some v := fun h hB => (hVw.cell (p := ⟨_, _, none⟩) hB).trans h
  refine Env0.of ⟨g hG.k0 (by omega), g hG.k1 (by omega), g hG.n0 h1, g hG.n1 h1⟩ ((hs.below hn hVw).mono (by omega)) (hsk.below (Nat.le_refl _) hb1) (cacheOk_new hmb) hb1.size (by have := hb1.size; omega) hlw ((hb1.block Bb hbX).trans hb)
    ((accBlk_own hbb (World.ownsRow_nil _ 0 _ _)).trans rfl) (by omega) (by omega) (by omega) ?_ ?_
  · rintro g0 o len cap rfl hp
    obtain ⟨a, cp, e, _, _, _, h4⟩ := hs
    cases e
    obtain ⟨g', o', e1, h5, _⟩ := h4 (by simpa [stCells] using hp)
    cases e1
    omega
  · rintro g0 o len cap rfl hp
    have := h.row.lt g0 rfl
    omega

structure Stored (B : Nat) (c : Array Value) (W W' : World) : Prop where
  cells : W'.heap[B]? = some (.cells c 79)
  same : ∀ k, k ≠ B → W'.heap[k]? = W.heap[k]?
  size : W'.heap.size = W.heap.size
  os : W'.os = W.os
  tape : W'.tape = W.tape
  output : W'.output = W.output
theorem Stored.start {B : Nat} {c : Array Value} {W : World} (h : W.heap[B]? = some (.cells c 79)) : Stored B c W W := ⟨h, fun _ _ => rfl, rfl, rfl, rfl, rfl⟩
theorem Stored.set {B : Nat} {c : Array Value} {W W' : World} (h : Stored B c W W') (j : Nat) (v : Value) : Stored B (c.setIfInBounds j v) W (W'.setCell ⟨B, j, none⟩ v) :=
  ⟨blk_set h.cells, fun k hk => (Below.heap_setCell _ _ _ _ hk).trans (h.same k hk), by simpa [World.setCell] using h.size, h.os, h.tape, h.output⟩

theorem stored9 {B : Nat} {W : World} {z0 z1 z2 z3 z4 z5 z6 z7 z8 : Value} (h : W.heap[B]? = some (.cells #[z0, z1, z2, z3, z4, z5, z6, z7, z8] 79)) (v0 v1 v2 v3 v4 v5 v6 v7 v8 : Value) :
    Stored B #[v0, v1, v2, v3, v4, v5, v6, v7, v8] W (((((((((W.setCell ⟨B, 0, none⟩ v0).setCell ⟨B, 1, none⟩ v1).setCell ⟨B, 2, none⟩ v2).setCell ⟨B, 3, none⟩ v3).setCell ⟨B, 4, none⟩ v4).setCell ⟨B, 5, none⟩ v5).setCell ⟨B, 6, none⟩ v6).setCell ⟨B, 7, none⟩ v7).setCell ⟨B, 8, none⟩ v8) := by
  have h := ((((((((((Stored.start h).set 0 v0).set 1 v1).set 2 v2).set 3 v3).set 4 v4).set 5 v5).set 6 v6).set 7 v7).set 8 v8)
  simp only [List.setIfInBounds_toArray, List.set_cons_zero, List.set_cons_succ] at h
  exact h

theorem Stored.below {B K : Nat} {c : Array Value} {V W W' : World} (h : Stored B c W W') (hb : Below K V W) (hB : K ≤ B) : Below K V W' :=
  ⟨h.os.trans hb.os, h.tape.trans hb.tape, h.output.trans hb.output, by rw [h.size]; exact hb.size, fun k hk => (h.same k (by omega)).trans (hb.block k hk)⟩
theorem Put.below {K M : Nat} {V Y X : World} (h : Put Y X M) (hb : Below K V Y) (hM : K ≤ M) : Below K V X :=
  ⟨h.os.trans hb.os, h.tape.trans hb.tape, h.output.trans hb.output, by rw [h.size]; exact hb.size, fun k hk => (h.old k (by omega)).trans (hb.block k hk)⟩
theorem Stored.slOf {B n sz : Nat} {c : Array Value} {W W' : World} {v : Value} {rows : List (List Value)} (h : Stored B c W W') (hs : SlOf W n sz v rows) (hB : ∀ b o len cap, v = .slice (some ⟨b, o, none⟩) len cap → b ≠ B) (hn : n ≤ W.heap.size) : SlOf W' W'.heap.size sz v rows := by
  obtain ⟨a, cap, rfl, h1, h2, h3, h4⟩ := hs
  refine ⟨a, cap, rfl, h1, h2, h3, fun hp => ?_⟩
  obtain ⟨b, o, e, hb, hc⟩ := h4 hp
  refine ⟨b, o, e, by rw [h.size]; omega, fun i j r c hi hj => ?_⟩
  exact (World.cell?_of_block (w := W) (a := ⟨b, _, none⟩) (h.same b (hB b o _ _ (by rw [e])))).trans (hc i j r c hi hj)
end Go.Proofs.YtbhjfojbjpbdbaaDoor

-- A13: The contract of opened (package claim): the walk. Written by a session.
namespace Go.Proofs.YtbhjfojbjpbdbaaDoor
open Go.RowKit

set_option maxRecDepth 100000 in
set_option maxHeartbeats 4000000 in
theorem opened_any (W : World) (b : Bk) (s k bv : Value) (l : List Nat) (n : Nat) (hG : Glob W) (hn : n ≤ W.heap.size) (hs : SlOf W n 7 s (stCells b.sts)) (hk : SlOf W n 3 k (ckCells b.cks)) (hb : SlOf W n 1 bv (natCells l)) (hck : b.cks.length ≤ 1000)
    (hbg : Big (b.but l)) (hl0 : 0 < b.sts.length) (hw : 1 ≤ b.wth ∧ b.wth ≤ 7) (hN : (truths (b.but l)).length ≤ 20000) :
    Calls Tryd.prog 64 #[.agg (b.cells s k).toArray, bv] W fun e W' => ∃ ka kl kc M tv, e = .returned (.agg ((b.but l).cells9 s (.slice ka kl kc) (.map (some M)) tv).toArray) ∧ Below W.heap.size W W' ∧ SlOf W' W'.heap.size 7 tv (trCells (truths (b.but l))) ∧ (∀ g, tv.ownBlock = some g → W.heap.size ≤ g) := by
  obtain ⟨sa, sc, rfl, hs1, hs2, hs3, hs4⟩ := id hs
  obtain ⟨ka, kc, rfl, hk1, hk2, hk3, hk4⟩ := id hk
  have hsl : (stCells b.sts).length = b.sts.length := by simp [stCells]
  have hkl : (ckCells b.cks).length = b.cks.length := by simp [ckCells]
  have hmx : b.cks.length ≤ 1000 := hck
  simp only [hsl, hkl] at *
  obtain ⟨sts, w0, c0, c1, c2, cks, r0⟩ := b
  simp only at *
  obtain ⟨sl, hsl'⟩ : ∃ sl, sts.length = sl := ⟨_, rfl⟩
  have HBG := Lib.hid hbg
  have HL0 := Lib.hid hl0
  have HWT := Lib.hid hw
  have HNN := Lib.hid hN
  clear hbg hl0 hw hN
  have HG := Lib.hid hG
  have HS := Lib.hid hs
  have HK := Lib.hid hk
  have HB := Lib.hid hb
  have HK4 := Lib.hid hk4
  have g0 := hG.n0
  have g1 := hG.n1
  have hmk := mk76
  clear hs hk hb hG hs1 hs2 hs3 hs4 hk1 hk2 hk3 hk4
  simp only [Bk.cells]
  rw [hsl'] at *
  obtain ⟨i42, i42a, i42b, i42c, i42d⟩ := info_parts info42
  obtain ⟨i87, i87a, i87b, i87c, i87d⟩ := info_parts info87
  refine callsIn_wide.1 (callsIn_of_wp_marks (F := Fence.wide) (n := 0) Tryd.func64 rfl trivial ?_ rfl)
  refine wpIn_wide.2 ?_
  simp only [Tryd.ntmps64, List.size_toArray, List.length_cons, List.length_nil, Nat.reduceAdd, Nat.reduceSub, Array.replicate_succ, Array.replicate_zero, List.push_toArray, List.append_toArray, List.nil_append, List.cons_append]
  go_upto_region 1 with fail
  obtain ⟨V, hV⟩ : ∃ V, ((W.alloc (.cells #[.slice sa sl sc, .int .i64 w0, .int .i64 c0, .int .i64 c1, .int .i64 c2, .slice ka cks.length kc, .int .i64 r0] 26)).alloc
    (.cells #[.slice none 0 0, .int .i64 0, .int .i64 0, .int .i64 0, .int .i64 0, .slice none 0 0, .int .i64 0, .map none, .slice none 0 0] 79)) = V := ⟨_, rfl⟩
  have hBV : Below W.heap.size W V := by rw [← hV]; exact ((Below.refl _ _).alloc (Nat.le_refl _) _).alloc (by simp) _
  have hVz : V.heap.size = W.heap.size + 2 := by rw [← hV]; simp
  have hb0 : V.heap[W.heap.size]? = some (.cells #[.slice sa sl sc, .int .i64 w0, .int .i64 c0, .int .i64 c1, .int .i64 c2, .slice ka cks.length kc, .int .i64 r0] 26) := by rw [← hV, heap_alloc_old _ _ (by simp)]; exact World.alloc_heap_new _ _
  have v0 : V.cell? ⟨W.heap.size, 0, none⟩ = some (.slice sa sl sc) := blk_cell hb0
  have v1 : V.cell? ⟨W.heap.size, 1, none⟩ = some (.int .i64 w0) := blk_cell hb0
  have v2 : V.cell? ⟨W.heap.size, 2, none⟩ = some (.int .i64 c0) := blk_cell hb0
  have v3 : V.cell? ⟨W.heap.size, 3, none⟩ = some (.int .i64 c1) := blk_cell hb0
  have v4 : V.cell? ⟨W.heap.size, 4, none⟩ = some (.int .i64 c2) := blk_cell hb0
  have v5 : V.cell? ⟨W.heap.size, 5, none⟩ = some (.slice ka cks.length kc) := blk_cell hb0
  have v6 : V.cell? ⟨W.heap.size, 6, none⟩ = some (.int .i64 r0) := blk_cell hb0
  have h1W : 1 < W.heap.size := lt_of_cell g0
  have n0 : V.cell? ⟨1, 0, none⟩ = some (.int .i64 (-1)) := (hBV.cell (p := ⟨1, 0, none⟩) h1W).trans g0
  have n1 : V.cell? ⟨1, 1, none⟩ = some (.int .i64 (-1)) := (hBV.cell (p := ⟨1, 1, none⟩) h1W).trans g1
  have l1 : 1 < V.heap.size := by omega
  have l5 : 0 < V.heap.size := by omega
  have l6 : 1 ≤ V.heap.size := by omega
  have l7 : W.heap.size ≤ V.heap.size := by omega
  have l8 : 1 < V.heap.size + 1 := by omega
  have l9 : W.heap.size < V.heap.size + 1 := by omega
  have l2 : W.heap.size < V.heap.size := by omega
  have l3 : W.heap.size + 1 < V.heap.size := by omega
  rw [hV]
  have hm1 : (V.alloc (.map #[] 0)).drew.heap[V.heap.size]? = some (.map #[] 0) := World.alloc_heap_new _ _
  have hm2 : ((V.alloc zero79).alloc (.map #[] 0)).drew.heap[V.heap.size + 1]? = some (.map #[] 0) := by
    have := World.alloc_heap_new (V.alloc zero79) (.map #[] 0)
    rw [World.size_alloc] at this
    exact this
  have hm3 : ((V.alloc (.map #[] 0)).alloc zero79).drew.heap[V.heap.size]? = some (.map #[] 0) := (heap_alloc_old _ _ (by simp)).trans (World.alloc_heap_new _ _)
  obtain ⟨X1, p1⟩ := Put.mk' hm1
  obtain ⟨X2, p2⟩ := Put.mk' hm2
  obtain ⟨X3, p3⟩ := Put.mk' hm3
  have HP1 := Lib.hid p1
  have HP2 := Lib.hid p2
  have HP3 := Lib.hid p3
  have r1 := p1.run
  have r2 := p2.run
  have r3 := p3.run
  have hq1 : ∀ {B j : Nat} {v : Value}, B < V.heap.size → V.cell? ⟨B, j, none⟩ = some v → X1.cell? ⟨B, j, none⟩ = some v := fun hB h =>
    p1.cell (by omega) ((((Below.refl _ V).alloc (Nat.le_refl _) _).cell (p := ⟨_, _, none⟩) hB).trans h)
  have hq2 : ∀ {B j : Nat} {v : Value}, B < V.heap.size → V.cell? ⟨B, j, none⟩ = some v → X2.cell? ⟨B, j, none⟩ = some v := fun hB h =>
    p2.cell (by omega) (((((Below.refl _ V).alloc (Nat.le_refl _) _).alloc (by simp) _).cell (p := ⟨_, _, none⟩) hB).trans h)
  have hq3 : ∀ {B j : Nat} {v : Value}, B < V.heap.size → V.cell? ⟨B, j, none⟩ = some v → X3.cell? ⟨B, j, none⟩ = some v := fun hB h =>
    p3.cell (by omega) (((((Below.refl _ V).alloc (Nat.le_refl _) _).alloc (by simp) _).cell (p := ⟨_, _, none⟩) hB).trans h)
  have hb2 : X2.heap[V.heap.size]? = some zero79 := (p2.old _ (by omega)).trans ((heap_alloc_old _ _ (by simp)).trans (World.alloc_heap_new _ _))
  have hb3 : X3.heap[V.heap.size + 1]? = some zero79 := (p3.old _ (by omega)).trans (by
    have := World.alloc_heap_new (V.alloc (.map #[] 0)) zero79
    rw [World.size_alloc] at this
    exact this)
  have x10 := hq1 l2 v0
  have x11 := hq1 l2 v1
  have x12 := hq1 l2 v2
  have x13 := hq1 l2 v3
  have x14 := hq1 l2 v4
  have x15 := hq1 l2 v5
  have x16 := hq1 l2 v6
  have x20 := hq2 l2 v0
  have x21 := hq2 l2 v1
  have x22 := hq2 l2 v2
  have x23 := hq2 l2 v3
  have x24 := hq2 l2 v4
  have x25 := hq2 l2 v5
  have x26 := hq2 l2 v6
  have x30 := hq3 l2 v0
  have x31 := hq3 l2 v1
  have x32 := hq3 l2 v2
  have x33 := hq3 l2 v3
  have x34 := hq3 l2 v4
  have x35 := hq3 l2 v5
  have x36 := hq3 l2 v6
  have b20 : X2.cell? ⟨V.heap.size, 0, none⟩ = some (.slice none 0 0) := blk_cell hb2
  have b30 : X3.cell? ⟨V.heap.size + 1, 0, none⟩ = some (.slice none 0 0) := blk_cell hb3
  have f20 := blk_frozen hb2 0
  have f30 := blk_frozen hb3 0
  have b21 : X2.cell? ⟨V.heap.size, 1, none⟩ = some (.int .i64 0) := blk_cell hb2
  have b31 : X3.cell? ⟨V.heap.size + 1, 1, none⟩ = some (.int .i64 0) := blk_cell hb3
  have f21 := blk_frozen hb2 1
  have f31 := blk_frozen hb3 1
  have b22 : X2.cell? ⟨V.heap.size, 2, none⟩ = some (.int .i64 0) := blk_cell hb2
  have b32 : X3.cell? ⟨V.heap.size + 1, 2, none⟩ = some (.int .i64 0) := blk_cell hb3
  have f22 := blk_frozen hb2 2
  have f32 := blk_frozen hb3 2
  have b23 : X2.cell? ⟨V.heap.size, 3, none⟩ = some (.int .i64 0) := blk_cell hb2
  have b33 : X3.cell? ⟨V.heap.size + 1, 3, none⟩ = some (.int .i64 0) := blk_cell hb3
  have f23 := blk_frozen hb2 3
  have f33 := blk_frozen hb3 3
  have b24 : X2.cell? ⟨V.heap.size, 4, none⟩ = some (.int .i64 0) := blk_cell hb2
  have b34 : X3.cell? ⟨V.heap.size + 1, 4, none⟩ = some (.int .i64 0) := blk_cell hb3
  have f24 := blk_frozen hb2 4
  have f34 := blk_frozen hb3 4
  have b25 : X2.cell? ⟨V.heap.size, 5, none⟩ = some (.slice none 0 0) := blk_cell hb2
  have b35 : X3.cell? ⟨V.heap.size + 1, 5, none⟩ = some (.slice none 0 0) := blk_cell hb3
  have f25 := blk_frozen hb2 5
  have f35 := blk_frozen hb3 5
  have b26 : X2.cell? ⟨V.heap.size, 6, none⟩ = some (.int .i64 0) := blk_cell hb2
  have b36 : X3.cell? ⟨V.heap.size + 1, 6, none⟩ = some (.int .i64 0) := blk_cell hb3
  have f26 := blk_frozen hb2 6
  have f36 := blk_frozen hb3 6
  have b27 : X2.cell? ⟨V.heap.size, 7, none⟩ = some (.map none) := blk_cell hb2
  have b37 : X3.cell? ⟨V.heap.size + 1, 7, none⟩ = some (.map none) := blk_cell hb3
  have f27 := blk_frozen hb2 7
  have f37 := blk_frozen hb3 7
  have b28 : X2.cell? ⟨V.heap.size, 8, none⟩ = some (.slice none 0 0) := blk_cell hb2
  have b38 : X3.cell? ⟨V.heap.size + 1, 8, none⟩ = some (.slice none 0 0) := blk_cell hb3
  have f28 := blk_frozen hb2 8
  have f38 := blk_frozen hb3 8
  have z1 : X1.heap.size = V.heap.size + 1 := p1.size.trans (by simp)
  have z2 : X2.heap.size = V.heap.size + 1 + 1 := p2.size.trans (by simp)
  have z3 : X3.heap.size = V.heap.size + 1 + 1 := p3.size.trans (by simp)
  have Z1 := Lib.hid z1
  have Z2 := Lib.hid z2
  have Z3 := Lib.hid z3
  have l4 : W.heap.size < X1.heap.size := by omega
  clear hm1 hm2 hm3 p1 p2 p3 z1 z2 z3 hb2 hb3 hq1 hq2 hq3
  have HBV := Lib.hid hBV
  have hz79 : V.heap[W.heap.size + 1]? = some zero79 := by rw [← hV]; have := World.alloc_heap_new (W.alloc (.cells #[.slice sa sl sc, .int .i64 w0, .int .i64 c0, .int .i64 c1, .int .i64 c2, .slice ka cks.length kc, .int .i64 r0] 26)) zero79; rwa [World.size_alloc] at this
  have HZ79 := Lib.hid hz79
  have hgv : Glob V := ⟨(hBV.cell (p := ⟨0, 0, none⟩) (by show 0 < _; omega)).trans HG.out.k0, (hBV.cell (p := ⟨0, 1, none⟩) (by show 0 < _; omega)).trans HG.out.k1, n0, n1⟩
  have HGV := Lib.hid hgv
  clear hz79 hgv
  have HVZ := Lib.hid hVz
  have HW1 := Lib.hid h1W
  clear hV hb0 hBV g0 g1 hVz
  rename_i Q' K aK
  have hkey : ∀ (M Bt : Nat) (w' : World), w'.heap[M]? = some (.map #[nowEntry] 1) → w'.heap[Bt]? = some (.cells #[.slice sa sl sc, .int .i64 w0, .int .i64 c0, .int .i64 c1, .int .i64 c2, .slice ka cks.length kc, .int .i64 r0, .map (some M), .slice none 0 0] 79) →
      Below V.heap.size V w' → V.heap.size ≤ M → V.heap.size ≤ Bt →
      Exit.then K Q' Exit.normal { tmps := #[.agg #[.slice sa sl sc, .int .i64 w0, .int .i64 c0, .int .i64 c1, .int .i64 c2, .slice ka cks.length kc, .int .i64 r0], bv, .pointer (some ⟨W.heap.size, 0, none⟩), undef,
        .pointer (some ⟨W.heap.size + 1, 0, none⟩), .pointer (some ⟨Bt, 0, none⟩), undef, undef, undef, .agg #[.slice sa sl sc, .int .i64 w0, .int .i64 c0, .int .i64 c1, .int .i64 c2, .slice ka cks.length kc, .int .i64 r0],
        .map (some M), .agg #[.int .i64 (-1), .int .i64 (-1)], .map (some M), .agg #[.slice sa sl sc, .int .i64 w0, .int .i64 c0, .int .i64 c1, .int .i64 c2, .slice ka cks.length kc, .int .i64 r0, .map (some M), .slice none 0 0],
        undef, undef, undef, undef, undef, undef, undef, undef, undef, undef, undef, undef, undef, undef, undef, undef, undef, undef, undef, undef, undef, undef, undef, undef, undef, undef, undef, undef, undef, undef, undef, undef, undef], defers := [] } w' := by
    clear r1 r2 r3 hmk Z1 Z2 Z3 HP1 HP2 HP3 n0 n1
    intro M Bt w' h1 h2 h3 h4 h5
    have f5 := blk_frozen h2
    have c5 : w'.cell? ⟨Bt, 5, none⟩ = some (.slice ka cks.length kc) := blk_cell h2
    have H1 := Lib.hid h1
    have H2 := Lib.hid h2
    have H3 := Lib.hid h3
    clear h1 h2 h3
    go_upto_region 3 with fail
    have hn0 : V.heap.size ≤ w'.heap.size := H3.out.size
    have hF0 : Fil ⟨sts, w0, c0, c1, c2, cks, r0⟩ (.slice sa sl sc) M Bt w'.heap.size V [] (.slice none 0 0) (w'.setCell ⟨Bt, 5, none⟩ (.slice none 0 0)) := by
      have hlt1 := (Array.getElem?_eq_some_iff.1 H1.out).1
      have hlt2 := (Array.getElem?_eq_some_iff.1 H2.out).1
      refine ⟨?_, ?_, World.ownsRow_nil _ _ _ _, H3.out.setCell (p := ⟨Bt, 5, none⟩) h5 _, by simp [World.setCell], hlt2, hlt1, h5, hn0⟩
      · rw [blk_set H2.out]; rfl
      · refine (Below.heap_setCell _ _ _ _ ?_).trans H1.out
        intro e
        have h6 := H1.out
        rw [e] at h6
        have h7 := H2.out
        rw [h6] at h7
        cases h7
    obtain ⟨n0, hn0e⟩ : ∃ n0, w'.heap.size = n0 := ⟨_, rfl⟩
    obtain ⟨U, hU⟩ : ∃ U, w'.setCell ⟨Bt, 5, none⟩ (.slice none 0 0) = U := ⟨_, rfl⟩
    rw [hn0e] at hF0 hn0
    rw [hU] at hF0 ⊢
    have HF0 := Lib.hid hF0
    have HN0 := Lib.hid hn0
    have HVM := Lib.hid h4
    have u5 : U.cell? ⟨W.heap.size, 5, none⟩ = some (.slice ka cks.length kc) := (hF0.old.cell (p := ⟨_, _, none⟩) l2).trans v5
    clear hF0 hn0 hn0e hU f5 c5 v0 v1 v2 v3 v4 v5 v6 H1 H2 H3
    go_wp2_with fail
    go_loopg [19] cks.length (fun n i wx => ∃ (q : Nat) (kv : Value), q ≤ cks.length ∧ n = cks.length - q ∧ i = .int .i64 q ∧ Fil ⟨sts, w0, c0, c1, c2, cks, r0⟩ (.slice sa sl sc) M Bt n0 V (leaveOut l 0 (cks.take q)) kv wx)
    case atStart => exact ⟨0, .slice none 0 0, by omega, rfl, rfl, HF0.out⟩
    case round =>
      obtain ⟨q, kv, hq, hgk, rfl, hF⟩ := hrel
      have HGK := Lib.hid hgk
      have HF := Lib.hid hF
      clear hgk hF
      by_cases hlt : q < cks.length
      · obtain ⟨x, hx⟩ : ∃ x, cks[q]? = some x := ⟨_, List.getElem?_eq_getElem hlt⟩
        obtain ⟨g, p, hka, hg, hcs⟩ := sl_at (fun h0 => HK4.out (by simpa [ckCells] using h0)) (show (ckCells cks)[q]? = some x.cells by simp [ckCells, hx])
        have hBW := HBV.out.trans (HF.out.old.mono (show W.heap.size ≤ V.heap.size by omega))
        have hr : ∀ i c, x.cells[i]? = some c → wr.cell? ⟨g, p + q * 3 + i, none⟩ = some c := fun i c hi =>
          (hBW.cell (p := ⟨g, p + q * 3 + i, none⟩) (by show g < _; omega)).trans (hcs i c hi)
        have y0 : wr.cell? ⟨g, p + q * 3, none⟩ = some (.int .i64 x.st) := hr 0 _ rfl
        have y1 : wr.cell? ⟨g, p + q * 3 + 1, none⟩ = some (.int .i64 x.rd) := hr 1 _ rfl
        have y2 : wr.cell? ⟨g, p + q * 3 + 2, none⟩ = some (.int .i64 x.er) := hr 2 _ rfl
        have hstep := leaveOut_take (but := l) hx
        have HST := Lib.hid hstep
        clear hstep hcs hBW hr hx
        subst hka
        go_upto_region 6 with fail
        have z0 : (wr.alloc (.cells #[.int .i64 x.st, .int .i64 x.rd, .int .i64 x.er] 42)).heap[wr.heap.size]? = some (.cells #[.int .i64 x.st, .int .i64 x.rd, .int .i64 x.er] 42) := World.alloc_heap_new _ _
        have hF1 := HF.out.alloc (.cells #[.int .i64 x.st, .int .i64 x.rd, .int .i64 x.er] 42)
        obtain ⟨V1, hV1⟩ : ∃ V1, wr.alloc (.cells #[.int .i64 x.st, .int .i64 x.rd, .int .i64 x.er] 42) = V1 := ⟨_, rfl⟩
        rw [hV1] at z0 hF1 ⊢
        clear hV1
        have z1 : V1.cell? ⟨wr.heap.size, 0, none⟩ = some (.int .i64 x.st) := blk_cell z0
        have z2 : V1.cell? ⟨wr.heap.size, 1, none⟩ = some (.int .i64 x.rd) := blk_cell z0
        have z3 : V1.cell? ⟨wr.heap.size, 2, none⟩ = some (.int .i64 x.er) := blk_cell z0
        have z4 : V1.cell? ⟨Bt, 5, none⟩ = some kv := blk_cell hF1.bt
        have z5 := (Array.getElem?_eq_some_iff.1 z0).1
        have z6 : Bt < V1.heap.size := (Array.getElem?_eq_some_iff.1 hF1.bt).1
        have hS1 : SlOf V1 n 1 bv (natCells l) := HB.out.below hn (HBV.out.trans (hF1.old.mono (show W.heap.size ≤ V.heap.size by omega)))
        have HF1 := Lib.hid hF1
        have HS1 := Lib.hid hS1
        clear z0 hF1 hS1
        by_cases hco : l.contains q = true
        · go_wp2_with (go_at_call 94; refine (contains_any _ _ l n q HS1.out).mono ?_; rintro e w' ⟨rfl, rfl⟩; rw [hco])
          go_roundg (cks.length - (q + 1))
          case measure => rw [HGK.out]; omega
          case rel => exact ⟨q + 1, kv, by omega, rfl, by go_num, by rw [HST.out, if_pos hco, List.append_nil]; exact HF1.out⟩
        · have hco2 : l.contains q = false := by simpa using hco
          have HCO := Lib.hid hco2
          clear hco
          go_wp2_with (first
            | (go_at_call 94; refine (contains_any _ _ l n q HS1.out).mono ?_; rintro e w' ⟨rfl, rfl⟩; rw [hco2])
            | (at_builtin; refine wpList_append_own _ rfl (.tmp 30) (.tmp 32) 24 rfl n0 42 i42 _ 3 24 Tryd.underlying24 i42a i42b i42c i42d rfl (by decide) kv _ _ rfl (HF1.out.row.alloc _) ⟨V1.heap.size, 0, none⟩ 1 1 x.cells rfl rfl ?c1 ?c2 ?c3 ?c4 ?c5 ?_)
            | fail)
          case c1 =>
            intro j u hj
            rw [addr_add]
            exact cell_new.trans (by simpa [Ck.cells] using hj)
          case c2 => intro u hu; simp [Ck.cells] at hu; rcases hu with rfl | rfl | rfl <;> rfl
          case c3 => have := leaveOut_le (cks.take q) l 0; simp only [List.length_take] at this; unfold maxLen; omega
          case c4 => have := leaveOut_le (cks.take q) l 0; simp only [List.length_take] at this; omega
          case c5 => have := HF1.out.sz; simp; omega
          intro v' w1 hown hgrow _
          obtain ⟨g', cap', rfl⟩ := ownsRow_succ hown
          have hkeep : w1.heap[Bt]? = V1.heap[Bt]? := (hgrow.block Bt (by simp; omega) (fun e => by have := (HF1.out.row.lt Bt e.symm).1; have := HF1.out.lb; omega)).trans (heap_alloc_old _ _ z6)
          have w5 : w1.cell? ⟨Bt, 5, none⟩ = some kv := (World.cell?_of_block (w := V1) (a := ⟨Bt, 5, none⟩) hkeep).trans z4
          have wf : w1.frozen? ⟨Bt, 5, none⟩ = false := blk_frozen (hkeep.trans HF1.out.bt) 5
          have hP := HF1.out.push hown hgrow
          have HP := Lib.hid hP
          clear hown hgrow hP hkeep y0 y1 y2 z1 z2 z3
          go_wp2_with fail
          go_roundg (cks.length - (q + 1))
          case measure => rw [HGK.out]; omega
          case rel => exact ⟨q + 1, _, by omega, rfl, by go_num, by rw [HST.out, HCO.out]; exact HP.out⟩
      · have hql : cks.take q = cks := by rw [show q = cks.length by omega, List.take_length]
        rw [hql] at HF
        have e0 : wr.cell? ⟨Bt, 0, none⟩ = some (.slice sa sl sc) := blk_cell HF.out.bt
        have e1 : wr.cell? ⟨Bt, 1, none⟩ = some (.int .i64 w0) := blk_cell HF.out.bt
        have e2 : wr.cell? ⟨Bt, 2, none⟩ = some (.int .i64 c0) := blk_cell HF.out.bt
        have e3 : wr.cell? ⟨Bt, 3, none⟩ = some (.int .i64 c1) := blk_cell HF.out.bt
        have e4 : wr.cell? ⟨Bt, 4, none⟩ = some (.int .i64 c2) := blk_cell HF.out.bt
        have e5 : wr.cell? ⟨Bt, 5, none⟩ = some kv := blk_cell HF.out.bt
        have e6 : wr.cell? ⟨Bt, 6, none⟩ = some (.int .i64 r0) := blk_cell HF.out.bt
        have e7 : wr.cell? ⟨Bt, 7, none⟩ = some (.map (some M)) := blk_cell HF.out.bt
        have e8 : wr.cell? ⟨Bt, 8, none⟩ = some (.slice none 0 0) := blk_cell HF.out.bt
        clear hql u5
        go_wp2_with (go_at_call 95; refine (whole_any ⟨sts, w0, c0, c1, c2, leaveOut l 0 cks, r0⟩ (.slice sa sl sc) kv (.map (some M)) (.slice none 0 0) wr).mono ?_; rintro e w' ⟨rfl, hw'⟩; have HW := Lib.hid hw'; clear hw')
        have hw2 := HW.out
        obtain ⟨b', hb'⟩ : ∃ b' : Bk, (⟨sts, w0, c0, c1, c2, leaveOut l 0 cks, r0⟩ : Bk) = b' := ⟨_, rfl⟩
        have hX0 : w'.heap[wr.heap.size]? = some (.cells (b'.cells9 (.slice sa sl sc) kv (.map (some M)) (.slice none 0 0)).toArray 79) := by rw [hw2, ← hb']; exact World.alloc_heap_new _ _
        have hXz : w'.heap.size = wr.heap.size + 1 := by rw [hw2]; simp
        have hXF := HF.out.alloc (.cells ((⟨sts, w0, c0, c1, c2, leaveOut l 0 cks, r0⟩ : Bk).cells9 (.slice sa sl sc) kv (.map (some M)) (.slice none 0 0)).toArray 79)
        rw [← hw2] at hXF
        have HXF := Lib.hid hXF
        have HWZ := Lib.hid (show n0 ≤ wr.heap.size from HF.out.sz)
        have HX0 := Lib.hid hX0
        have HXZ := Lib.hid hXz
        have HB' := Lib.hid hb'
        clear hw2 hX0 hXz hXF HW hb' HF e0 e1 e2 e3 e4 e5 e6 e7 e8
        refine wpIn_wide.1 (range_any (V := V) (b := b') (s := .slice sa sl sc) (kv := kv) (n := w'.heap.size) (M := M) (Bt := Bt) (Bb := wr.heap.size) (N := 20001) ?_ ?_ ?_ ?_ rfl ?_ ?_ ?_ ?_ ?_ ?_ ?_)
        · exact HB'.out ▸ HBG.out
        · rw [← HB'.out]; show 0 < sts.length; rw [show sts.length = sl by obtain ⟨_, _, e, _⟩ := HS.out; injection e with _ h _; simpa [stCells] using h.symm]; exact HL0.out
        · rw [← HB'.out]; exact HWT.out
        · exact HB'.out ▸ HNN.out
        · intro l1 hl1 _ w1 hb1 hlw
          have hF := HXF.out
          have hX := HX0.out
          rw [← HB'.out] at hX ⊢
          exact Fil.env (b := ⟨sts, w0, c0, c1, c2, leaveOut l 0 cks, r0⟩) ⟨hF.bt, hF.map, hF.row, hF.old, hF.sz, hF.lb, hF.lm, hF.vb, hF.v0⟩ HGV.out (show n ≤ V.heap.size by omega) (HS.out.below hn HBV.out) (by omega) HWZ.out hX hl1 hb1 hlw
        · rw [← HB'.out]; exact HXF.out.bt
        · exact HXF.out.old
        · exact ⟨HVM.out, by have := HXF.out.lm; have := HXF.out.sz; omega⟩
        · exact HXF.out.vb
        · intro r hst hpd pre t Wr hacc hlen
          obtain ⟨tv, hbt, hrow⟩ := hacc.bt
          have t8 : Wr.cell? ⟨Bt, 8, none⟩ = some tv := blk_cell hbt
          have tf : Wr.frozen? ⟨Bt, 8, none⟩ = false := blk_frozen hbt 8
          have HACC := Lib.hid hacc
          have HBT := Lib.hid hbt
          have HROW := Lib.hid hrow
          clear hacc hbt hrow
          simp only [Tr.cells]
          gi_wp2_with (rw [Oper.semAt_eq _ _ _ (fun c h => by cases h)]; go_simp; try go_bits)
          have hlr := (Array.getElem?_eq_some_iff.1 HACC.out.L).1
          have hBW := (Array.getElem?_eq_some_iff.1 HBT.out).1
          have hbr := run_beginRound (P := Tryd.prog) (w := Wr.alloc (.cells #[.int .i64 t.w, .int .i64 t.a0, .int .i64 t.a1, .int .i64 t.a2, .int .i64 t.b0, .int .i64 t.b1, .int .i64 t.b2] 87)) ((heap_alloc_old _ _ hlr).trans HACC.out.L) hst
          obtain ⟨Wx, hWx⟩ : ∃ Wx, (Wr.alloc (.cells #[.int .i64 t.w, .int .i64 t.a0, .int .i64 t.a1, .int .i64 t.a2, .int .i64 t.b0, .int .i64 t.b1, .int .i64 t.b2] 87)).putObj (w'.heap.size + 1) (.loop { r with state := .busy }) = Wx := ⟨_, rfl⟩
          rw [hWx] at hbr
          refine ⟨Wx, hbr, ?_⟩
          have hBl : Bt < w'.heap.size := by have := HXF.out.lb; have := HXF.out.sz; omega
          have hsz := HACC.out.sz
          have hBx : Wx.heap[Bt]? = some (.cells (b'.cells9 (.slice sa sl sc) kv (.map (some M)) tv).toArray 79) := by rw [← hWx]; exact (World.putObj_heap_other (by omega)).trans ((heap_alloc_old _ _ hBW).trans HBT.out)
          have hTx : Wx.heap[Wr.heap.size]? = some (.cells #[.int .i64 t.w, .int .i64 t.a0, .int .i64 t.a1, .int .i64 t.a2, .int .i64 t.b0, .int .i64 t.b1, .int .i64 t.b2] 87) := by rw [← hWx]; exact (World.putObj_heap_other (by omega)).trans (World.alloc_heap_new _ _)
          have hRx : Wx.ownsRow (w'.heap.size + 2) 87 7 tv pre.length (pre.flatMap Tr.cells) := ownsRow_same (HROW.out.alloc _) fun g hg => by rw [← hWx]; exact World.putObj_heap_other (by have := (HROW.out.lt g hg).1; omega)
          have hzx : Wx.heap.size = Wr.heap.size + 1 := by rw [← hWx]; simp
          have b8 : Wx.cell? ⟨Bt, 8, none⟩ = some tv := blk_cell hBx
          have x0 : Wx.cell? ⟨Wr.heap.size, 0, none⟩ = some (.int .i64 t.w) := blk_cell hTx
          have x1 : Wx.cell? ⟨Wr.heap.size, 1, none⟩ = some (.int .i64 t.a0) := blk_cell hTx
          have x2 : Wx.cell? ⟨Wr.heap.size, 2, none⟩ = some (.int .i64 t.a1) := blk_cell hTx
          have x3 : Wx.cell? ⟨Wr.heap.size, 3, none⟩ = some (.int .i64 t.a2) := blk_cell hTx
          have x4 : Wx.cell? ⟨Wr.heap.size, 4, none⟩ = some (.int .i64 t.b0) := blk_cell hTx
          have x5 : Wx.cell? ⟨Wr.heap.size, 5, none⟩ = some (.int .i64 t.b1) := blk_cell hTx
          have x6 : Wx.cell? ⟨Wr.heap.size, 6, none⟩ = some (.int .i64 t.b2) := blk_cell hTx
          have x7 : Bt < Wx.heap.size := by omega
          have x8 : Wr.heap.size < Wx.heap.size := by omega
          have HWX := Lib.hid hWx
          have HBX := Lib.hid hBx
          have HRX := Lib.hid hRx
          have HZX := Lib.hid hzx
          have HST := Lib.hid hst
          have HPD := Lib.hid hpd
          clear hbr hWx hBx hTx hRx hzx t8 tf hst hpd
          gi_wp2_with (first
            | (gi_at_builtin; refine wpListIn_append_own_at _ rfl (.tmp 41) (.tmp 43) 77 rfl (w'.heap.size + 2) 87 i87 _ 7 56 Tryd.underlying77 i87a i87b i87c i87d rfl (by decide) tv _ _ rfl (HRX.out.alloc _) ⟨Wx.heap.size, 0, none⟩ 1 1 t.cells rfl rfl ?c1 ?c2 ?c3 ?c4 ?c5 ?_)
            | (rw [Oper.semAt_eq _ _ _ (fun c h => by cases h)]; go_simp; try go_bits))
          case c1 =>
            intro j u hj
            rw [addr_add]
            exact cell_new.trans (by simpa [Tr.cells] using hj)
          case c2 => intro u hu; simp [Tr.cells] at hu; rcases hu with rfl | rfl | rfl | rfl | rfl | rfl | rfl <;> rfl
          case c3 => unfold maxLen; omega
          case c4 => omega
          case c5 => have := HZX.out; simp; omega
          intro v' w3 hown hgrow _ hat
          obtain ⟨g', cap', rfl⟩ := ownsRow_succ hown
          have hE := round_end HACC.out HST.out HPD.out (by omega) (by omega) (by omega) HBT.out HROW.out HWX.out hown hgrow (by simpa using hat)
          have hkeep : w3.heap[Bt]? = Wx.heap[Bt]? := (hgrow.block Bt (by simp; omega) (fun e => by have := (HRX.out.lt Bt e.symm).1; omega)).trans (heap_alloc_old _ _ x7)
          have w8 : w3.cell? ⟨Bt, 8, none⟩ = some tv := (World.cell?_of_block (w := Wx) (a := ⟨Bt, 8, none⟩) hkeep).trans b8
          have wf : w3.frozen? ⟨Bt, 8, none⟩ = false := blk_frozen (hkeep.trans HBX.out) 8
          have HE := Lib.hid hE
          clear hE hown hgrow hat hkeep b8 x0 x1 x2 x3 x4 x5 x6
          gi_wp2_with (rw [Oper.semAt_eq _ _ _ (fun c h => by cases h)]; go_simp; try go_bits)
          exact HE.out
        · intro W2 tv hD hbW hrow hVW _
          obtain ⟨ta, tm, tc, rfl⟩ := ownsRow_slice hrow
          obtain ⟨ya, ym, yc, rfl⟩ := ownsRow_slice HXF.out.row
          have hR0 : W2.heap[W.heap.size + 1]? = some zero79 := (hVW.block _ (by omega)).trans HZ79.out
          rw [← HB'.out] at hbW
          have e0 : W2.cell? ⟨Bt, 0, none⟩ = some (.slice sa sl sc) := blk_cell hbW
          have s0 : W2.cell? ⟨W.heap.size + 1, 0, none⟩ = some (.slice none 0 0) := blk_cell hR0
          have f0 := blk_frozen hR0 0
          have e1 : W2.cell? ⟨Bt, 1, none⟩ = some (.int .i64 w0) := blk_cell hbW
          have s1 : W2.cell? ⟨W.heap.size + 1, 1, none⟩ = some (.int .i64 0) := blk_cell hR0
          have f1 := blk_frozen hR0 1
          have e2 : W2.cell? ⟨Bt, 2, none⟩ = some (.int .i64 c0) := blk_cell hbW
          have s2 : W2.cell? ⟨W.heap.size + 1, 2, none⟩ = some (.int .i64 0) := blk_cell hR0
          have f2 := blk_frozen hR0 2
          have e3 : W2.cell? ⟨Bt, 3, none⟩ = some (.int .i64 c1) := blk_cell hbW
          have s3 : W2.cell? ⟨W.heap.size + 1, 3, none⟩ = some (.int .i64 0) := blk_cell hR0
          have f3 := blk_frozen hR0 3
          have e4 : W2.cell? ⟨Bt, 4, none⟩ = some (.int .i64 c2) := blk_cell hbW
          have s4 : W2.cell? ⟨W.heap.size + 1, 4, none⟩ = some (.int .i64 0) := blk_cell hR0
          have f4 := blk_frozen hR0 4
          have e5 : W2.cell? ⟨Bt, 5, none⟩ = some (.slice ya ym yc) := blk_cell hbW
          have s5 : W2.cell? ⟨W.heap.size + 1, 5, none⟩ = some (.slice none 0 0) := blk_cell hR0
          have f5 := blk_frozen hR0 5
          have e6 : W2.cell? ⟨Bt, 6, none⟩ = some (.int .i64 r0) := blk_cell hbW
          have s6 : W2.cell? ⟨W.heap.size + 1, 6, none⟩ = some (.int .i64 0) := blk_cell hR0
          have f6 := blk_frozen hR0 6
          have e7 : W2.cell? ⟨Bt, 7, none⟩ = some (.map (some M)) := blk_cell hbW
          have s7 : W2.cell? ⟨W.heap.size + 1, 7, none⟩ = some (.map none) := blk_cell hR0
          have f7 := blk_frozen hR0 7
          have e8 : W2.cell? ⟨Bt, 8, none⟩ = some (.slice ta tm tc) := blk_cell hbW
          have s8 : W2.cell? ⟨W.heap.size + 1, 8, none⟩ = some (.slice none 0 0) := blk_cell hR0
          have f8 := blk_frozen hR0 8
          have HD := Lib.hid hD
          have HROW := Lib.hid hrow
          have HVW := Lib.hid hVW
          have HR0 := Lib.hid hR0
          clear hD hrow hVW hR0 hbW
          go_wp2
          have hst := stored9 HR0.out (.slice sa sl sc) (.int .i64 w0) (.int .i64 c0) (.int .i64 c1) (.int .i64 c2) (.slice ya ym yc) (.int .i64 r0) (.map (some M)) (.slice ta tm tc)
          have HST := Lib.hid hst
          clear hst
          generalize (((((((((W2.setCell ⟨W.heap.size + 1, 0, none⟩ (.slice sa sl sc)).setCell ⟨W.heap.size + 1, 1, none⟩ (.int .i64 w0)).setCell ⟨W.heap.size + 1, 2, none⟩ (.int .i64 c0)).setCell ⟨W.heap.size + 1, 3, none⟩ (.int .i64 c1)).setCell
            ⟨W.heap.size + 1, 4, none⟩ (.int .i64 c2)).setCell ⟨W.heap.size + 1, 5, none⟩ (.slice ya ym yc)).setCell ⟨W.heap.size + 1, 6, none⟩ (.int .i64 r0)).setCell ⟨W.heap.size + 1, 7, none⟩ (.map (some M))).setCell ⟨W.heap.size + 1, 8, none⟩ (.slice ta tm tc)) = W3 at HST ⊢
          have hxz := HXF.out.sz
          have hDz := (Array.getElem?_eq_some_iff.1 HD.out).1
          have hD3 : W3.heap[w'.heap.size]? = some (.deferred (some [])) := (HST.out.same _ (by have := HXF.out.v0; omega)).trans HD.out
          refine ⟨by simp, .inl ⟨_, _, rfl, run_takeDeferred hD3, ?_⟩⟩
          generalize hW5 : W3.putObj w'.heap.size (.deferred none) = W5
          have h5 : ∀ k, k ≠ w'.heap.size → W5.heap[k]? = W3.heap[k]? := fun k hk => by rw [← hW5]; exact World.putObj_heap_other hk
          have hR5 := (h5 (W.heap.size + 1) (by have := HXF.out.v0; omega)).trans HST.out.cells
          have k0 : W5.cell? ⟨W.heap.size + 1, 0, none⟩ = some (.slice sa sl sc) := blk_cell hR5
          have k1 : W5.cell? ⟨W.heap.size + 1, 1, none⟩ = some (.int .i64 w0) := blk_cell hR5
          have k2 : W5.cell? ⟨W.heap.size + 1, 2, none⟩ = some (.int .i64 c0) := blk_cell hR5
          have k3 : W5.cell? ⟨W.heap.size + 1, 3, none⟩ = some (.int .i64 c1) := blk_cell hR5
          have k4 : W5.cell? ⟨W.heap.size + 1, 4, none⟩ = some (.int .i64 c2) := blk_cell hR5
          have k5 : W5.cell? ⟨W.heap.size + 1, 5, none⟩ = some (.slice ya ym yc) := blk_cell hR5
          have k6 : W5.cell? ⟨W.heap.size + 1, 6, none⟩ = some (.int .i64 r0) := blk_cell hR5
          have k7 : W5.cell? ⟨W.heap.size + 1, 7, none⟩ = some (.map (some M)) := blk_cell hR5
          have k8 : W5.cell? ⟨W.heap.size + 1, 8, none⟩ = some (.slice ta tm tc) := blk_cell hR5
          refine ⟨.agg #[.slice sa sl sc, .int .i64 w0, .int .i64 c0, .int .i64 c1, .int .i64 c2, .slice ya ym yc, .int .i64 r0, .map (some M), .slice ta tm tc], ?_, ya, ym, yc, M, .slice ta tm tc, rfl, ?_, ?_, fun g hg => by have := (HROW.out.lt g hg).1; have := HXF.out.v0; have := HXF.out.sz; omega⟩
          · simp [results, Tryd.results64, go_sem, k0, k1, k2, k3, k4, k5, k6, k7, k8]
          · have hvw := HVW.out
            have hw2 : Below W.heap.size W W2 := HBV.out.trans (hvw.mono (by omega))
            exact ⟨by rw [← hW5]; exact HST.out.os.trans hw2.os, by rw [← hW5]; exact HST.out.tape.trans hw2.tape, by rw [← hW5]; exact HST.out.output.trans hw2.output, by rw [← hW5]; simp [HST.out.size]; exact hw2.size,
              fun k hk => (h5 k (by have := HXF.out.v0; omega)).trans ((HST.out.same k (by omega)).trans (hw2.block k hk))⟩
          · have hrow := HROW.out
            have hrow5 : W5.ownsRow (w'.heap.size + 2) 87 7 (.slice ta tm tc) (truths b').length ((truths b').flatMap Tr.cells) := ownsRow_same hrow fun g hg => by
              have := (hrow.lt g hg).1
              have := HXF.out.v0
              exact (h5 g (by omega)).trans (HST.out.same g (by omega))
            rw [trCells_flat] at hrow5
            have := SlOf.own (rows := trCells (truths b')) (by simpa [trCells] using hrow5) (trCells_len _)
            rw [← HB'.out] at this
            exact this
  clear aK
  go_region
  · have zz := Z1.out
    have p := HP1.out
    refine hkey _ _ _ ((heap_alloc_old _ _ (by omega)).trans p.map) (World.alloc_heap_new _ _) (p.below (((Below.refl _ V).alloc (Nat.le_refl _) _).drew) (Nat.le_refl _) |>.alloc (by omega) _) (Nat.le_refl _) (by omega)
  · have zz := Z3.out
    have p := HP3.out
    have hc : X3.heap[V.heap.size + 1]? = some zero79 := (p.old _ (by omega)).trans (by have := World.alloc_heap_new (V.alloc (.map #[] 0)) zero79; rw [World.size_alloc] at this; exact this)
    have hst := stored9 hc (.slice sa sl sc) (.int .i64 w0) (.int .i64 c0) (.int .i64 c1) (.int .i64 c2) (.slice ka cks.length kc) (.int .i64 r0) (.map (some V.heap.size)) (.slice none 0 0)
    have hbl := p.below ((((Below.refl _ V).alloc (Nat.le_refl _) _).alloc (by simp) _).drew) (Nat.le_refl _)
    refine hkey _ _ _ ((hst.same _ (by omega)).trans p.map) hst.cells (hst.below hbl (by omega)) (Nat.le_refl _) (by omega)
  · have zz := Z2.out
    have p := HP2.out
    have hc : X2.heap[V.heap.size]? = some zero79 := (p.old _ (by omega)).trans ((heap_alloc_old _ _ (by simp)).trans (World.alloc_heap_new _ _))
    have hst := stored9 hc (.slice sa sl sc) (.int .i64 w0) (.int .i64 c0) (.int .i64 c1) (.int .i64 c2) (.slice ka cks.length kc) (.int .i64 r0) (.map (some (V.heap.size + 1))) (.slice none 0 0)
    have hbl := p.below ((((Below.refl _ V).alloc (Nat.le_refl _) _).alloc (by simp) _).drew) (by omega)
    refine hkey _ _ _ ((hst.same _ (by omega)).trans p.map) hst.cells (hst.below hbl (by omega)) (by omega) (Nat.le_refl _)
end Go.Proofs.YtbhjfojbjpbdbaaDoor
