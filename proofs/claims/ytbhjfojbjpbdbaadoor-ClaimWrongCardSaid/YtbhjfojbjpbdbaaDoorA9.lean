/-
  The contract of the closure that goes on stage by stage: one stage walked (package claim, whole). Written by this session.
-/
import Derived.Test.YtbhjfojbjpbdbaaDoorA8
namespace Go.Proofs.YtbhjfojbjpbdbaaDoor
open Go.RowKit

section
variable {b : Bk} {s k tv : Value} {n M l Bt Bb By Br Bd N : Nat} {Acc : List Tr → World → Prop}

set_option maxRecDepth 100000 in
set_option maxHeartbeats 2000000 in
theorem drive_step (hA : AccLaw l Bt Acc) (hb : Big b) {wn : Nat} (hwn : wn < 3) {x : St} {rest : List St} (hI : DriveAt b s k tv n M l Bt Bb By Br Bd N wn Acc rest) : DriveAt b s k tv n M l Bt Bb By Br Bd N wn Acc (x :: rest) := by
  intro j t fr pre W hdrop hjl ht htw h0 hfr hE hacc hlen
  have hj : j < b.sts.length := by
    rcases Nat.lt_or_ge j b.sts.length with h | h
    · exact h
    · rw [List.drop_eq_nil_of_le h] at hdrop; cases hdrop
  have hx : b.sts[j]? = some x := by
    rw [List.drop_eq_getElem_cons hj] at hdrop
    rw [List.getElem?_eq_getElem hj]
    injection hdrop with h1 _
    rw [h1]
  have hrest : b.sts.drop (j + 1) = rest := by
    rw [List.drop_eq_getElem_cons hj] at hdrop
    injection hdrop
  have hxb := idx_bd hb hx
  have hcb := hb.co wn
  have hl3 := hb.bd.l3
  have hj3 : j < 3 := by omega
  obtain ⟨sa, scap, es, hs1, hs2, hs3, hs4⟩ := hE.hs
  have hsl : (stCells b.sts).length = b.sts.length := by simp [stCells]
  obtain ⟨g, q, hsa, hg, hcs⟩ := sl_at hs4 (show (stCells b.sts)[j]? = some x.cells by simp [stCells, hx])
  rw [hsa, hsl] at es
  subst es
  have hBW : Bb < W.heap.size := (Array.getElem?_eq_some_iff.1 hE.hb).1
  obtain ⟨V, hV⟩ : ∃ V, W.alloc (Obj.cells t.cells.toArray 87) = V := ⟨_, rfl⟩
  have hBV : Below W.heap.size W V := by rw [← hV]; exact (Below.refl _ _).alloc (Nat.le_refl _) _
  have hVz : V.heap.size = W.heap.size + 1 := by rw [← hV]; simp
  have hVt : V.heap[W.heap.size]? = some (.cells t.cells.toArray 87) := by rw [← hV]; exact World.alloc_heap_new _ _
  have hEV := hE.below hBV
  have v0 : V.cell? ⟨Bb, 0, none⟩ = some (.slice (some ⟨g, q, none⟩) b.sts.length scap) := by rw [blk_cell hEV.hb]; rfl
  have hr : ∀ i c, x.cells[i]? = some c → V.cell? ⟨g, q + j * 7 + i, none⟩ = some c := fun i c hi =>
    (hBV.cell (p := ⟨g, q + j * 7 + i, none⟩) (by have := hE.hn; show g < _; omega)).trans (hcs i c hi)
  have r0 : V.cell? ⟨g, q + j * 7, none⟩ = some (.int .i64 x.due) := hr 0 _ rfl
  have r1 : V.cell? ⟨g, q + j * 7 + 1, none⟩ = some (.int .i64 x.dl) := hr 1 _ rfl
  have r2 : V.cell? ⟨g, q + j * 7 + 2, none⟩ = some (.int .i64 x.dh) := hr 2 _ rfl
  have r3 : V.cell? ⟨g, q + j * 7 + 3, none⟩ = some (.int .i64 x.rl) := hr 3 _ rfl
  have r4 : V.cell? ⟨g, q + j * 7 + 4, none⟩ = some (.int .i64 x.rh) := hr 4 _ rfl
  have r5 : V.cell? ⟨g, q + j * 7 + 5, none⟩ = some (.int .i64 x.sl) := hr 5 _ rfl
  have r6 : V.cell? ⟨g, q + j * 7 + 6, none⟩ = some (.int .i64 x.sh) := hr 6 _ rfl
  have ne1 : ((j : Int) == (b.sts.length : Int)) = false := by simp; omega
  have i1 : (j : Int) < (b.sts.length : Int) := by omega
  obtain ⟨V2, hV2⟩ : ∃ V2, V.alloc (Obj.cells x.cells.toArray 56) = V2 := ⟨_, rfl⟩
  have hBV2 : Below V.heap.size V V2 := by rw [← hV2]; exact (Below.refl _ _).alloc (Nat.le_refl _) _
  have hW2 : Below W.heap.size W V2 := hBV.trans (hBV2.mono (by omega))
  have hE2 := hE.below hW2
  have hx2 : V2.heap[W.heap.size + 1]? = some (.cells x.cells.toArray 56) := by rw [← hV2, ← hVz]; exact World.alloc_heap_new _ _
  have hLoc : Loc b M l Bt Acc W.heap.size (W.heap.size + 1) x W t pre V2 :=
    ⟨acc_below hA hacc hE.ll hE.lB hW2, Eff.of_below hE.lB hW2, hE2.hM, (hBV2.block _ (by omega)).trans hVt, hx2,
     Safe.new' hE hW2 (Nat.le_refl _), Safe.new' hE hW2 (by omega)⟩
  have x1 : V2.cell? ⟨W.heap.size + 1, 1, none⟩ = some (.int .i64 x.dl) := blk_cell hx2
  have x2 : V2.cell? ⟨W.heap.size + 1, 2, none⟩ = some (.int .i64 x.dh) := blk_cell hx2
  have HE := Lib.hid hE
  have HA := Lib.hid hA
  have HI := Lib.hid hI
  have HL := Lib.hid hLoc
  have HTW := Lib.hid htw
  have HRest := Lib.hid hrest
  rw [goes_cons] at hlen ⊢
  obtain ⟨TA, hTA⟩ : ∃ TA, pre ++ goDrives (b.cost wn) b.cks x rest j t fr (upto x.dl x.dh) = TA := ⟨_, rfl⟩
  rw [hTA] at hlen ⊢
  have HTA := Lib.hid hTA
  have HTL := Lib.hid hlen
  clear hE hA hI hLoc htw hrest hs1 hs2 hs3 hs4 hcs hr hx hdrop hE2 hEV hVt hx2 hsl hTA hlen hacc
  simp only [Tr.cells, St.cells] at hV hV2
  simp only [Tr.cells]
  go_enter Tryd.func104, Tryd.ntmps104
  go_wp2_with fail
  clear r0 r1 r2 r3 r4 r5 r6 v0 x1 x2 hV hV2
  go_loopg [45] (x.dh - x.dl + 1).toNat (fun n i wx => ∃ (d : Nat) (t' : Tr) (cur : List Tr), (d : Int) ≤ x.dh - x.dl + 1 ∧ n = (x.dh - x.dl + 1).toNat - d ∧ i = .int .i64 d ∧ Loc b M l Bt Acc W.heap.size (W.heap.size + 1) x W t' cur wx ∧
    TrOk t' ∧ t'.w = (wn : Int) ∧ (∀ m r, t'.put j m r = t.put j m r) ∧ cur ++ goDrives (b.cost wn) b.cks x rest j t fr (upto (x.dl + d) x.dh) = TA)
  case atStart => exact ⟨0, t, pre, by omega, rfl, rfl, HL.out, ht, HTW.out, fun _ _ => rfl, by simpa using HTA.out⟩
  case round =>
    obtain ⟨d, t1, cur, hd, hgk, rfl, hL1, hok1, htw1, htp1, hT1⟩ := hrel
    have HG := Lib.hid hgk
    have HT1 := Lib.hid hT1
    have HL1 := Lib.hid hL1
    have HTW1 := Lib.hid htw1
    have HTP1 := Lib.hid htp1
    clear hgk hT1 htw1 htp1
    by_cases hlt : (d : Int) < x.dh - x.dl + 1
    · have x3 : wr.cell? ⟨W.heap.size + 1, 3, none⟩ = some (.int .i64 x.rl) := blk_cell hL1.xb
      clear hL1
      obtain ⟨TB, hTB⟩ : ∃ TB, cur ++ goRoads (b.cost wn) b.cks x rest j t fr (x.dl + d) (upto x.rl x.rh) = TB := ⟨_, rfl⟩
      have HTB := Lib.hid hTB
      clear hTB
      go_wp2_with fail
      go_step3
      go_wp2_with fail
      go_step3
      go_wp2_with fail
      go_loopg [13] (x.rh - x.rl + 1).toNat (fun n i wx => ∃ (r : Int) (t' : Tr) (cur : List Tr), (x.rl ≤ r ∧ r ≤ x.rh + 1) ∧ n = (x.rh + 1 - r).toNat ∧ i = .int .i64 r ∧ Loc b M l Bt Acc W.heap.size (W.heap.size + 1) x W t' cur wx ∧
        TrOk t' ∧ t'.w = (wn : Int) ∧ (∀ m r, t'.put j m r = t.put j m r) ∧ cur ++ goRoads (b.cost wn) b.cks x rest j t fr (x.dl + d) (upto r x.rh) = TB)
      case atStart => exact ⟨x.rl, t1, cur, by omega, by omega, rfl, HL1.out, hok1, HTW1.out, HTP1.out, HTB.out⟩
      case round =>
        rename_i gk1 wr1 _ _
        obtain ⟨r, t2, cur2, hr, hgk2, rfl, hL2, hok2, htw2, htp2, hT2⟩ := hrel
        have HG2 := Lib.hid hgk2
        have HT2 := Lib.hid hT2
        have HL2 := Lib.hid hL2
        have HTW2 := Lib.hid htw2
        have HTP2 := Lib.hid htp2
        have x4 : wr.cell? ⟨W.heap.size + 1, 4, none⟩ = some (.int .i64 x.rh) := blk_cell hL2.xb
        clear hgk2 hT2 htw2 htp2 hL2
        by_cases hlr : r ≤ x.rh
        · go_upto_region 10 with fail
          have hEr := HL2.out.env HA.out HE.out
          have t0 : wr.cell? ⟨W.heap.size, 0, none⟩ = some (.int .i64 (wn : Int)) := by rw [blk_cell HL2.out.tb, ← HTW2.out]; rfl
          have x1 : wr.cell? ⟨W.heap.size + 1, 1, none⟩ = some (.int .i64 x.dl) := blk_cell HL2.out.xb
          have c2 : wr.cell? ⟨Bb, 2 + wn, none⟩ = some (.int .i64 (b.cost wn)) := by
            rw [blk_cell hEr.hb]
            have hkk : wn = 0 ∨ wn = 1 ∨ wn = 2 := by omega
            rcases hkk with rfl | rfl | rfl <;> rfl
          have iw : (wn : Int) < 3 := by omega
          have HER := Lib.hid hEr
          clear hEr
          refine wp_region_det (S := fun L w' => w' = if L 12 then (wr.alloc (.cells #[.int .i64 fr, .int .i64 x.dl, .int .i64 (d : Int), .int .i64 r, .int .i64 (b.cost wn)] 3)).drew else wr.drew) (by kernel_rfl) (by kernel_rfl) rfl ?_
          apply det_cons
          · refine ⟨by rfl, fun L w hN hS => ?_⟩
            have h7 : L 12 = false := (hN.chain hN.free (k := 12) (by kernel_rfl))
            rw [h7, if_neg (by simp)] at hS
            subst hS
            have H7 := Lib.hid h7
            clear h7
            go_simp
            exact ⟨rfl, fun L' _ h2 => by show _ = if L' 12 = true then _ else _; rw [h2 12 (by decide), H7.out, if_neg (by simp)]⟩
          try simp only [Act.put, List.setIfInBounds_toArray, List.set_cons_zero, List.set_cons_succ]
          apply det_cons
          · refine ⟨by rfl, fun L w hN hS => ?_⟩
            have h7 : L 12 = false := (hN.chain (hN.chain (hN.chain hN.free (k := 2) (by kernel_rfl)) (k := 3) (by kernel_rfl)) (k := 12) (by kernel_rfl))
            rw [h7, if_neg (by simp)] at hS
            subst hS
            have H7 := Lib.hid h7
            clear h7
            go_simp
            exact ⟨rfl, fun L' _ h2 => by show _ = if L' 12 = true then _ else _; rw [h2 12 (by decide), H7.out, if_neg (by simp)]⟩
          try simp only [Act.put, List.setIfInBounds_toArray, List.set_cons_zero, List.set_cons_succ]
          apply det_cons
          · refine ⟨by rfl, fun L w hN hS => ?_⟩
            have h7 : L 12 = false := (hN.chain (hN.chain hN.free (k := 3) (by kernel_rfl)) (k := 12) (by kernel_rfl))
            rw [h7, if_neg (by simp)] at hS
            subst hS
            have H7 := Lib.hid h7
            clear h7
            go_simp
            exact ⟨rfl, fun L' _ h2 => by show _ = if L' 12 = true then _ else _; rw [h2 12 (by decide), H7.out, if_neg (by simp)]⟩
          try simp only [Act.put, List.setIfInBounds_toArray, List.set_cons_zero, List.set_cons_succ]
          apply det_cons
          · refine ⟨by rfl, fun L w hN hS => ?_⟩
            have h7 : L 12 = false := (hN.chain hN.free (k := 12) (by kernel_rfl))
            rw [h7, if_neg (by simp)] at hS
            subst hS
            have H7 := Lib.hid h7
            clear h7
            go_simp
            exact ⟨rfl, fun L' _ h2 => by show _ = if L' 12 = true then _ else _; rw [h2 12 (by decide), H7.out, if_neg (by simp)]⟩
          try simp only [Act.put, List.setIfInBounds_toArray, List.set_cons_zero, List.set_cons_succ]
          apply det_cons
          · refine ⟨by rfl, fun L w hN hS => ?_⟩
            have h7 : L 12 = false := (hN.chain hN.free (k := 12) (by kernel_rfl))
            rw [h7, if_neg (by simp)] at hS
            subst hS
            have H7 := Lib.hid h7
            clear h7
            go_simp
            exact ⟨rfl, fun L' _ h2 => by show _ = if L' 12 = true then _ else _; rw [h2 12 (by decide), H7.out, if_neg (by simp)]⟩
          try simp only [Act.put, List.setIfInBounds_toArray, List.set_cons_zero, List.set_cons_succ]
          apply det_cons
          · refine ⟨by rfl, fun L w hN hS => ?_⟩
            have h7 : L 12 = false := (hN.chain hN.free (k := 12) (by kernel_rfl))
            rw [h7, if_neg (by simp)] at hS
            subst hS
            have H7 := Lib.hid h7
            clear h7
            go_simp
            exact ⟨rfl, fun L' _ h2 => by show _ = if L' 12 = true then _ else _; rw [h2 12 (by decide), H7.out, if_neg (by simp)]⟩
          try simp only [Act.put, List.setIfInBounds_toArray, List.set_cons_zero, List.set_cons_succ]
          apply det_cons
          · refine ⟨by rfl, fun L w hN hS => ?_⟩
            have h7 : L 12 = false := (hN.chain (hN.chain (hN.chain (hN.chain hN.free (k := 7) (by kernel_rfl)) (k := 10) (by kernel_rfl)) (k := 11) (by kernel_rfl)) (k := 12) (by kernel_rfl))
            rw [h7, if_neg (by simp)] at hS
            subst hS
            have H7 := Lib.hid h7
            clear h7
            go_simp
            exact ⟨rfl, fun L' _ h2 => by show _ = if L' 12 = true then _ else _; rw [h2 12 (by decide), H7.out, if_neg (by simp)]⟩
          try simp only [Act.put, List.setIfInBounds_toArray, List.set_cons_zero, List.set_cons_succ]
          apply det_cons
          · refine ⟨by rfl, fun L w hN hS => ?_⟩
            have h7 : L 12 = false := (hN.chain (hN.chain (hN.chain hN.free (k := 10) (by kernel_rfl)) (k := 11) (by kernel_rfl)) (k := 12) (by kernel_rfl))
            rw [h7, if_neg (by simp)] at hS
            subst hS
            have H7 := Lib.hid h7
            clear h7
            go_simp
            exact ⟨rfl, fun L' _ h2 => by show _ = if L' 12 = true then _ else _; rw [h2 12 (by decide), H7.out, if_neg (by simp)]⟩
          try simp only [Act.put, List.setIfInBounds_toArray, List.set_cons_zero, List.set_cons_succ]
          apply det_cons
          · refine ⟨by rfl, fun L w hN hS => ?_⟩
            have h7 : L 12 = false := (hN.chain (hN.chain (hN.chain (hN.chain hN.free (k := 9) (by kernel_rfl)) (k := 10) (by kernel_rfl)) (k := 11) (by kernel_rfl)) (k := 12) (by kernel_rfl))
            rw [h7, if_neg (by simp)] at hS
            subst hS
            have H7 := Lib.hid h7
            clear h7
            go_simp
            exact ⟨rfl, fun L' _ h2 => by show _ = if L' 12 = true then _ else _; rw [h2 12 (by decide), H7.out, if_neg (by simp)]⟩
          try simp only [Act.put, List.setIfInBounds_toArray, List.set_cons_zero, List.set_cons_succ]
          apply det_cons
          · refine ⟨by rfl, fun L w hN hS => ?_⟩
            have h7 : L 12 = false := (hN.chain (hN.chain (hN.chain hN.free (k := 10) (by kernel_rfl)) (k := 11) (by kernel_rfl)) (k := 12) (by kernel_rfl))
            rw [h7, if_neg (by simp)] at hS
            subst hS
            have H7 := Lib.hid h7
            clear h7
            go_simp
            exact ⟨rfl, fun L' _ h2 => by show _ = if L' 12 = true then _ else _; rw [h2 12 (by decide), H7.out, if_neg (by simp)]⟩
          try simp only [Act.put, List.setIfInBounds_toArray, List.set_cons_zero, List.set_cons_succ]
          apply det_cons
          · refine ⟨by rfl, fun L w hN hS => ?_⟩
            have h7 : L 12 = false := (hN.chain (hN.chain hN.free (k := 11) (by kernel_rfl)) (k := 12) (by kernel_rfl))
            rw [h7, if_neg (by simp)] at hS
            subst hS
            have H7 := Lib.hid h7
            clear h7
            go_simp
            exact ⟨rfl, fun L' _ h2 => by show _ = if L' 12 = true then _ else _; rw [h2 12 (by decide), H7.out, if_neg (by simp)]⟩
          try simp only [Act.put, List.setIfInBounds_toArray, List.set_cons_zero, List.set_cons_succ]
          apply det_cons
          · refine ⟨by rfl, fun L w hN hS => ?_⟩
            have h7 : L 12 = false := (hN.chain hN.free (k := 12) (by kernel_rfl))
            rw [h7, if_neg (by simp)] at hS
            subst hS
            have H7 := Lib.hid h7
            clear h7
            go_simp
            exact ⟨rfl, fun L' _ h2 => by show _ = if L' 12 = true then _ else _; rw [h2 12 (by decide), H7.out, if_neg (by simp)]⟩
          try simp only [Act.put, List.setIfInBounds_toArray, List.set_cons_zero, List.set_cons_succ]
          apply det_cons
          · refine ⟨by rfl, fun L w hN hS => ?_⟩
            have h7 : L 12 = false := hN.free
            rw [h7, if_neg (by simp)] at hS
            subst hS
            have H7 := Lib.hid h7
            clear h7
            go_simp
            exact ⟨rfl, fun L' h1 _ => by show _ = if L' 12 = true then _ else _; rw [h1, if_pos rfl]⟩
          try simp only [Act.put, List.setIfInBounds_toArray, List.set_cons_zero, List.set_cons_succ]
          apply det_cons
          · refine ⟨by rfl, fun L w hN hS => ?_⟩
            have h7 : L 12 = true := hN.was (by kernel_rfl)
            rw [h7, if_pos rfl] at hS
            subst hS
            have H7 := Lib.hid h7
            clear h7
            go_simp
            have hsl : SlOf (wr.alloc (.cells #[.int .i64 fr, .int .i64 x.dl, .int .i64 (d : Int), .int .i64 r, .int .i64 (b.cost wn)] 3)).drew (wr.heap.size + 1) 1 (.slice (some ⟨wr.heap.size, 0, none⟩) 5 5) (intCells [fr, x.dl, (d : Int), r, b.cost wn]) := five_slice wr _ _ _ _ _
            refine (sum_any _ _ _ _ hsl (by intro y hy; simp at hy; omega) (by simp)).mono ?_
            rintro e w' ⟨rfl, rfl⟩
            exact ⟨congrArg Ending.returned (congrArg (Value.int .i64) (five_sum fr x.dl d r (b.cost wn))), fun L' _ h2 => by show _ = if L' 12 = true then _ else _; rw [h2 12 (by decide), H7.out, if_pos rfl]⟩
          try simp only [Act.put, List.setIfInBounds_toArray, List.set_cons_zero, List.set_cons_succ]
          apply det_cons
          · refine ⟨by rfl, fun L w hN hS => ?_⟩
            have h7 : L 12 = true := hN.up (hN.was (j := 13) (by kernel_rfl)) (by kernel_rfl)
            rw [h7, if_pos rfl] at hS
            subst hS
            have H7 := Lib.hid h7
            clear h7
            go_simp
            exact ⟨rfl, fun L' _ h2 => by show _ = if L' 12 = true then _ else _; rw [h2 12 (by decide), H7.out, if_pos rfl]⟩
          try simp only [Act.put, List.setIfInBounds_toArray, List.set_cons_zero, List.set_cons_succ]
          refine det_nil ?_
          rintro L W3 hL hW3
          rw [hL 12 (by decide), if_pos rfl] at hW3
          have hB3 : Below wr.heap.size wr W3 := by rw [hW3]; exact ((Below.refl _ wr).alloc (Nat.le_refl _) _).drew
          have hL3 := HL2.out.below HA.out HE.out hB3
          have hE3 := hL3.env HA.out HE.out
          have HL3 := Lib.hid hL3
          have HE3 := Lib.hid hE3
          obtain ⟨mi, hmi⟩ : ∃ mi, fr + (x.dl + d) + r + b.cost wn = mi := ⟨_, rfl⟩
          rw [hmi]
          have hmb : 1 ≤ mi ∧ mi ≤ 170 * j + 150 := by omega
          have HMI := Lib.hid hmi
          have q0 : W3.cell? ⟨Br, 0, none⟩ = some (.func (.func 103) #[.agg (b.cells9 (.slice (some ⟨g, q, none⟩) b.sts.length scap) k (.map (some M)) tv).toArray] #[]) := blk_cell hE3.hr
          clear hL3 hE3 hmi hL hW3 t0 x1 c2
          go_wp2_with fail
          refine (right_any _ b _ k tv M n (j : Int) mi HE3.out.hn HE3.out.hk HE3.out.hM HE3.out.hG hb.ck hb.nc (by omega) (by omega)).mono ?_
          rintro e W4 ⟨rfl, hu4, hC4⟩
          have hL4 := HL3.out.right HA.out HE.out hu4 hC4
          have HL4 := Lib.hid hL4
          clear hL4 hu4 hC4 q0
          have hcon := goRoads_cons (b.cost wn) b.cks x rest j t fr (x.dl + d) hlr
          rw [HMI.out] at hcon
          obtain ⟨rb, hrb⟩ : ∃ rb, rightL b.cks j mi = rb := ⟨_, rfl⟩
          rw [hrb] at hcon ⊢
          have HCON := Lib.hid hcon
          clear hrb hcon
          cases rb with
          | false =>
            go_wp2_with fail
            go_roundg (x.rh + 1 - (r + 1)).toNat
            case measure => rw [HG2.out]; omega
            case rel => exact ⟨r + 1, t2, cur2, by omega, rfl, by go_num, HL4.out, hok2, HTW2.out, HTP2.out, by rw [← HT2.out, HCON.out]; simp⟩
          | true =>
            obtain ⟨tp, htp⟩ : ∃ tp, t.put j mi r = tp := ⟨_, rfl⟩
            have hokp : TrOk tp := by rw [← htp]; exact put_ok ht (by omega) (by omega)
            have hwp : tp.w = (wn : Int) := by rw [← htp, put_w]; exact HTW.out
            have hap : 0 < j + 1 → 1 ≤ tp.a0 := fun _ => by rw [← htp]; exact put_a0 (by omega) h0
            have hpp : ∀ m r', tp.put j m r' = t.put j m r' := fun m r' => by rw [← htp, put_put]
            have HTPP := Lib.hid htp
            have HPP := Lib.hid hpp
            have HWP := Lib.hid hwp
            have ca : W4.cell? ⟨W.heap.size, 1 + j, none⟩ = some (.int .i64 (t2.comes j)) := tr_cell_a t2 HL4.out.tb hj3
            have cb : W4.cell? ⟨W.heap.size, 4 + j, none⟩ = some (.int .i64 (t2.rough j)) := tr_cell_b t2 HL4.out.tb hj3
            have fz := blk_frozen HL4.out.tb
            have ij : (j : Int) < 3 := by omega
            clear htp hpp hwp
            go_upto_region 13 with fail
            obtain ⟨W5, hW5⟩ : ∃ W5, (W4.setCell ⟨W.heap.size, 1 + j, none⟩ (.int .i64 mi)).setCell ⟨W.heap.size, 4 + j, none⟩ (.int .i64 r) = W5 := ⟨_, rfl⟩
            have hL5 := HL4.out.put HA.out hj3 mi r (by omega) (Nat.le_refl _)
            rw [hW5] at hL5 ⊢
            rw [HTP2.out mi r, HTPP.out] at hL5
            have x5 : W5.cell? ⟨W.heap.size + 1, 5, none⟩ = some (.int .i64 x.sl) := blk_cell hL5.xb
            have HL5 := Lib.hid hL5
            clear hL5 hW5 ca cb fz
            obtain ⟨TC, hTC⟩ : ∃ TC, cur2 ++ goStops (b.cost wn) b.cks rest j t mi r (upto x.sl x.sh) = TC := ⟨_, rfl⟩
            have HTC := Lib.hid hTC
            clear hTC
            go_wp2_with fail
            go_loopg [15] (x.sh - x.sl + 1).toNat (fun n i wx => ∃ (s : Int) (cur : List Tr), (x.sl ≤ s ∧ s ≤ x.sh + 1) ∧ n = (x.sh + 1 - s).toNat ∧ i = .int .i64 s ∧ Loc b M l Bt Acc W.heap.size (W.heap.size + 1) x W tp cur wx ∧
              cur ++ goStops (b.cost wn) b.cks rest j t mi r (upto s x.sh) = TC)
            case atStart => exact ⟨x.sl, cur2, by omega, by omega, rfl, HL5.out, HTC.out⟩
            case round =>
              rename_i gk3 wr3 _ _
              obtain ⟨s, cur3, hs, hgk3, rfl, hL6, hT3⟩ := hrel
              have HG3 := Lib.hid hgk3
              have HT3 := Lib.hid hT3
              have HL6 := Lib.hid hL6
              have x6 : wr.cell? ⟨W.heap.size + 1, 6, none⟩ = some (.int .i64 x.sh) := blk_cell hL6.xb
              clear hgk3 hT3 hL6
              by_cases hls : s ≤ x.sh
              · have hE6 := HL6.out.env HA.out HE.out
                have d0 : wr.cell? ⟨Bd, 0, none⟩ = some (.func (.func 104) #[] #[.pointer (some ⟨Bb, 0, none⟩), .pointer (some ⟨By, 0, none⟩), .pointer (some ⟨Br, 0, none⟩), .pointer (some ⟨Bd, 0, none⟩)]) := blk_cell hE6.hd
                have p0 : wr.cell? ⟨W.heap.size, 0, none⟩ = some (.int .i64 tp.w) := blk_cell HL6.out.tb
                have p1 : wr.cell? ⟨W.heap.size, 1, none⟩ = some (.int .i64 tp.a0) := blk_cell HL6.out.tb
                have p2 : wr.cell? ⟨W.heap.size, 2, none⟩ = some (.int .i64 tp.a1) := blk_cell HL6.out.tb
                have p3 : wr.cell? ⟨W.heap.size, 3, none⟩ = some (.int .i64 tp.a2) := blk_cell HL6.out.tb
                have p4 : wr.cell? ⟨W.heap.size, 4, none⟩ = some (.int .i64 tp.b0) := blk_cell HL6.out.tb
                have p5 : wr.cell? ⟨W.heap.size, 5, none⟩ = some (.int .i64 tp.b1) := blk_cell HL6.out.tb
                have p6 : wr.cell? ⟨W.heap.size, 6, none⟩ = some (.int .i64 tp.b2) := blk_cell HL6.out.tb
                have HE6 := Lib.hid hE6
                clear hE6
                have hconS := goStops_cons (b.cost wn) b.cks rest j t mi r hls
                rw [HTPP.out] at hconS
                have HCONS := Lib.hid hconS
                clear hconS
                go_wp2_with fail
                have hcall := HI.out (j + 1) tp (mi + s) cur3 wr HRest.out (by omega) hokp HWP.out hap ⟨by omega, by rw [show ((j + 1 : Nat) : Int) = (j : Int) + 1 by omega]; omega⟩ HE6.out HL6.out.acc (by
                  have l1 := congrArg List.length HT3.out
                  have l2 := congrArg List.length HTC.out
                  have l3 := congrArg List.length HT2.out
                  have l4 := congrArg List.length HTB.out
                  have l5 := congrArg List.length HT1.out
                  have l6 := HTL.out
                  rw [HCONS.out] at l1
                  rw [HCON.out] at l3
                  rw [goDrives_cons _ _ _ _ _ _ _ (by omega)] at l5
                  simp only [if_true, List.length_append] at l1 l2 l3 l4 l5 ⊢
                  omega)
                rw [show ((j + 1 : Nat) : Int) = (j : Int) + 1 by omega] at hcall
                simp only [Tr.cells] at hcall
                refine hcall.mono ?_
                clear hcall
                rintro e W7 ⟨rfl, ha7, he7, hC7⟩
                have hL7 := HL6.out.step he7 ha7 hC7
                have HL7 := Lib.hid hL7
                clear hL7 ha7 he7 hC7
                go_wp2_with fail
                go_roundg (x.sh + 1 - (s + 1)).toNat
                case measure => rw [HG3.out]; omega
                case rel => exact ⟨s + 1, _, by omega, rfl, by go_num, HL7.out, by rw [← HT3.out, HCONS.out, List.append_assoc]⟩
              · have hT4 : cur3 = TC := by have := HT3.out; rw [upto_nil (by omega)] at this; simpa [goStops] using this
                have HT4 := Lib.hid hT4
                clear hT4
                go_wp2_with fail
                go_roundg (x.rh + 1 - (r + 1)).toNat
                case measure => rw [HG2.out]; omega
                case rel => exact ⟨r + 1, tp, cur3, by omega, rfl, by go_num, HL6.out, hokp, HWP.out, HPP.out, by rw [← HT2.out, HCON.out, HT4.out, ← HTC.out]; simp⟩
        · have hT4 : cur2 = TB := by have := HT2.out; rw [upto_nil (by omega)] at this; simpa [goRoads] using this
          have HT4 := Lib.hid hT4
          clear hT4
          go_wp2_with fail
          go_roundg ((x.dh - x.dl + 1).toNat - (d + 1))
          case measure => rw [HG.out]; omega
          case rel => exact ⟨d + 1, t2, cur2, by omega, rfl, by go_num, HL2.out, hok2, HTW2.out, HTP2.out, by
            rw [HT4.out, ← HTB.out, ← HT1.out, goDrives_cons (d := x.dl + d) _ _ _ _ _ _ _ (by omega), List.append_assoc, show x.dl + ((d + 1 : Nat) : Int) = x.dl + d + 1 by omega]⟩
    · have hT4 : cur = TA := by have := HT1.out; rw [upto_nil (by omega)] at this; simpa [goDrives] using this
      have HT4 := Lib.hid hT4
      clear hT4
      go_wp2
      go_ret
      exact ⟨rfl, HT4.out ▸ HL1.out.acc, HL1.out.eff, HL1.out.cache⟩

theorem drive_any (hA : AccLaw l Bt Acc) (hY : YieldsTo l Bt N Acc) (hb : Big b) (hl : 0 < b.sts.length) {wn : Nat} (hwn : wn < 3) : ∀ (rest : List St), (∃ j, b.sts.drop j = rest) → DriveAt b s k tv n M l Bt Bb By Br Bd (N - 1) wn Acc rest := by
  intro rest
  induction rest with
  | nil =>
    intro _ j t fr pre W hdrop hjl ht htw h0 hfr hE hacc hlen
    have hj : j = b.sts.length := by
      have := List.drop_eq_nil_iff.1 hdrop
      omega
    have hg : goes (b.cost wn) b.cks [] j t fr = [t] := rfl
    rw [hg] at hlen ⊢
    have hlt : pre.length < N := by simp at hlen; omega
    exact (drive_leaf hA hY hb j t fr pre W hj ht (h0 (by omega)) hE hacc hlt).mono fun e w' ⟨h1, h2, h3, h4, _⟩ => ⟨h1, h2, h3, h4⟩
  | cons x rest ih =>
    rintro ⟨j, hj⟩
    refine drive_step hA hb hwn (ih ⟨j + 1, ?_⟩)
    have h := congrArg List.tail hj
    simpa [List.tail_drop] using h
end
end Go.Proofs.YtbhjfojbjpbdbaaDoor
