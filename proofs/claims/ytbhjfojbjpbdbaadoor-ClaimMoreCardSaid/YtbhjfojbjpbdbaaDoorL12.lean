/-
  ClaimDue walked: it answers true. Written by this session; printed by wip/tools/l12.py.
-/
import Derived.Test.YtbhjfojbjpbdbaaDoorL10
import Derived.Test.YtbhjfojbjpbdbaaDoorK7
namespace Go.Proofs.YtbhjfojbjpbdbaaDoor
open Go.RowKit

theorem later_flat_set (l : List St) (y : Int) (q : Nat) (x : St) (hx : l[q]? = some x) : (stCells ((l.take q).map (St.later y) ++ l.drop q)).flatten.set (q * 7) (.int .i64 (x.due + y)) = (stCells ((l.take (q + 1)).map (St.later y) ++ l.drop (q + 1))).flatten := by
  obtain ⟨hlt, hxe⟩ := List.getElem?_eq_some_iff.1 hx
  have hA : (stCells ((l.take q).map (St.later y))).flatten.length = q * 7 := by
    rw [flat_len (sz := 7) _ (fun r hr => by obtain ⟨z, _, rfl⟩ := List.mem_map.1 hr; rfl)]
    simp [stCells]
    omega
  rw [List.drop_eq_getElem_cons hlt, hxe, List.take_add_one, hx]
  simp only [stCells, List.map_append, List.flatten_append, List.map_cons, List.flatten_cons, Option.toList_some, List.map_nil, List.flatten_nil, List.append_nil, List.append_assoc]
  rw [show (List.map St.cells (List.map (St.later y) (List.take q l))).flatten = (stCells ((l.take q).map (St.later y))).flatten from rfl]
  rw [List.set_append_right _ _ (by omega), hA, Nat.sub_self]
  rfl
theorem later_flat (l : List St) (y : Int) (q : Nat) (x : St) (hx : l[q]? = some x) : (stCells ((l.take q).map (St.later y) ++ l.drop q)).flatten[q * 7]? = some (.int .i64 x.due) := by
  obtain ⟨hlt, hxe⟩ := List.getElem?_eq_some_iff.1 hx
  have hA : (stCells ((l.take q).map (St.later y))).flatten.length = q * 7 := by
    rw [flat_len (sz := 7) _ (fun r hr => by obtain ⟨z, _, rfl⟩ := List.mem_map.1 hr; rfl)]
    simp [stCells]
    omega
  rw [List.drop_eq_getElem_cons hlt, hxe]
  simp only [stCells, List.map_append, List.flatten_append, List.map_cons, List.flatten_cons]
  rw [show (List.map St.cells (List.map (St.later y) (List.take q l))).flatten = (stCells ((l.take q).map (St.later y))).flatten from rfl]
  rw [List.getElem?_append_right (by omega), hA, Nat.sub_self]
  rfl

theorem info56z : (Tryd.prog.info? 56).map (fun i => (i.zero, i.size, i.bytes)) = some (some (.agg #[.int .i64 0, .int .i64 0, .int .i64 0, .int .i64 0, .int .i64 0, .int .i64 0, .int .i64 0]), 7, 56) := by kernel_rfl
theorem empty_row (X : World) (T : TypeId) (sz : Nat) : (X.alloc (.cells #[] T)).ownsRow X.heap.size T sz (.slice (some ⟨X.heap.size, 0, none⟩) 0 0) 0 [] :=
  ⟨by simp, .inr ⟨X.heap.size, 0, #[], rfl, Nat.le_refl _, World.alloc_heap_new _ _, Nat.le_refl _, by simp [maxLen], by simp, by simp⟩⟩

set_option maxRecDepth 100000 in
set_option maxHeartbeats 8000000 in
theorem due_walk (W : World) (m1 m2 : Int) (b : Bk) (n : Nat) (sa ka : Option Addr) (n1 sc n2 kc : Nat) (hv : BookW W n sa ka n1 sc n2 kc b) (hG : Glob W) :
    Calls Tryd.prog 12 #[.agg (b.cells (.slice sa n1 sc) (.slice ka n2 kc)).toArray, .agg #[.int .i64 m1, .int .i64 m2]] W fun e W' => e = .returned (.bool true) ∧ Below W.heap.size W W' := by
  obtain ⟨V, hV⟩ : ∃ V, (W.alloc (Obj.cells #[.slice sa n1 sc, .int .i64 b.wth, .int .i64 b.c0, .int .i64 b.c1, .int .i64 b.c2, .slice ka n2 kc, .int .i64 b.rate] 26)).alloc (Obj.cells #[Value.int .i64 m1, Value.int .i64 m2] 60) = V := ⟨_, rfl⟩
  have hBV : Below W.heap.size W V := by rw [← hV]; exact ((Below.refl _ _).alloc (Nat.le_refl _) _).alloc (by simp) _
  have hb0 : V.heap[W.heap.size]? = some (Obj.cells #[.slice sa n1 sc, .int .i64 b.wth, .int .i64 b.c0, .int .i64 b.c1, .int .i64 b.c2, .slice ka n2 kc, .int .i64 b.rate] 26) := by rw [← hV]; exact (heap_alloc_old _ _ (by simp)).trans (World.alloc_heap_new _ _)
  have hVz : W.heap.size < V.heap.size := (Array.getElem?_eq_some_iff.1 hb0).1
  have HGV := Lib.hid (hG.below hG.lt hBV)
  have HVB := Lib.hid (hv.below hv.hn hBV)
  have HN := Lib.hid hv.hn
  have c0 : V.cell? ⟨W.heap.size, 0, none⟩ = some (.slice sa n1 sc) := blk_cell hb0
  have c1 : V.cell? ⟨W.heap.size, 1, none⟩ = some (.int .i64 b.wth) := blk_cell hb0
  have c2 : V.cell? ⟨W.heap.size, 2, none⟩ = some (.int .i64 b.c0) := blk_cell hb0
  have c3 : V.cell? ⟨W.heap.size, 3, none⟩ = some (.int .i64 b.c1) := blk_cell hb0
  have c4 : V.cell? ⟨W.heap.size, 4, none⟩ = some (.int .i64 b.c2) := blk_cell hb0
  have c5 : V.cell? ⟨W.heap.size, 5, none⟩ = some (.slice ka n2 kc) := blk_cell hb0
  have c6 : V.cell? ⟨W.heap.size, 6, none⟩ = some (.int .i64 b.rate) := blk_cell hb0
  have hi0 : V.heap[W.heap.size + 1]? = some (Obj.cells #[Value.int .i64 m1, Value.int .i64 m2] 60) := by rw [← hV]; have := World.alloc_heap_new (W.alloc (Obj.cells #[.slice sa n1 sc, .int .i64 b.wth, .int .i64 b.c0, .int .i64 b.c1, .int .i64 b.c2, .slice ka n2 kc, .int .i64 b.rate] 26)) (Obj.cells #[Value.int .i64 m1, Value.int .i64 m2] 60); rwa [World.size_alloc] at this
  have hVx : W.heap.size + 1 < V.heap.size := (Array.getElem?_eq_some_iff.1 hi0).1
  have d0 : V.cell? ⟨W.heap.size + 1, 0, none⟩ = some (.int .i64 m1) := blk_cell hi0
  have d1 : V.cell? ⟨W.heap.size + 1, 1, none⟩ = some (.int .i64 m2) := blk_cell hi0
  clear hi0
  have HB0 := Lib.hid hb0
  have BZ := Lib.hid (show ∀ w, Below V.heap.size V w → BookW w n sa ka n1 sc n2 kc b from fun w h => HVB.out.below HVB.out.hn h)
  have GZ := Lib.hid (show ∀ w, Below V.heap.size V w → Glob w from fun w h => HGV.out.below HGV.out.lt h)
  have HX := Lib.hid (Below.refl V.heap.size V)
  have hn1 : n1 ≤ 9223372036854775807 := by obtain ⟨_, _, e, h1, h2, _⟩ := hv.hs; injection e with _ e2 _; unfold maxLen at h2; omega
  have HL1 := Lib.hid hv.l1
  have HL2 := Lib.hid hv.l2
  clear hb0 hv hG
  simp only [Bk.cells]
  by_cases hok : bkOk b = true
  rotate_left
  · have hok' : bkOk b = false := by simpa using hok
    have HS := Lib.hid hok'
    clear hok hok'
    go_enter Tryd.func12, Tryd.ntmps12
    go_upto_region 1 with fail
    try rw [hV]
    clear hV
    go_wp2_with (first
      | (go_at_call 41; refine (sound_any _ b n _ _ _ _ _ _ (BZ.out _ (by first | exact HX.out | exact HX.out.alloc HX.out.size _))).mono ?_; rintro e ws ⟨rfl, hb⟩; rw [HS.out]; have HX := Lib.hid (show Below V.heap.size V ws from by first | exact HX.out.trans (hb.mono HX.out.size) | exact (HX.out.alloc HX.out.size _).trans (hb.mono (HX.out.alloc HX.out.size _).size)); have hk := (bcell HX.out).1; have hlt := Nat.lt_of_lt_of_le hVz HX.out.size; have HBE := Lib.hid hb; clear hb)
      | (go_at_call 25; refine (billed_any _ (GZ.out _ (by first | exact HX.out | exact HX.out.alloc HX.out.size _))).mono ?_; rintro e wz ⟨rfl, hb⟩; have HX := Lib.hid (show Below V.heap.size V wz from by first | exact HX.out.trans (hb.mono HX.out.size) | exact (HX.out.alloc HX.out.size _).trans (hb.mono (HX.out.alloc HX.out.size _).size)); have hk := (bcell HX.out).1; have hlt := Nat.lt_of_lt_of_le hVz HX.out.size; have HBE := Lib.hid hb; clear hb)
      | fail)
    go_ret
    exact ⟨rfl, hBV.trans (HX.out.mono hBV.size)⟩
  · have HF := Lib.hid hok
    have h13 := (bkOk_head hok).1
    have hn13 : 1 ≤ n1 ∧ n1 ≤ 3 := by have := HL1.out; omega
    obtain ⟨k, hkw, hk1⟩ := wrap_at m1 (show 0 < n1 by omega)
    obtain ⟨y, hyw, hy1⟩ := wrap_at m2 (show 0 < 12 by decide)
    have HK1 := Lib.hid hkw
    have HK2 := Lib.hid (show wrapS m2 12 = (y : Int) from hyw)
    have hkn : k < b.sts.length := by have := HL1.out; omega
    clear hkw hyw h13
    go_enter Tryd.func12, Tryd.ntmps12
    go_upto_region 1 with fail
    try rw [hV]
    clear hV
    go_upto_region 3 with (first
      | (go_at_call 41; refine (sound_any _ b n _ _ _ _ _ _ (BZ.out _ (by first | exact HX.out | exact HX.out.alloc HX.out.size _))).mono ?_; rintro e ws ⟨rfl, hb⟩; rw [HF.out]; have HX := Lib.hid (show Below V.heap.size V ws from by first | exact HX.out.trans (hb.mono HX.out.size) | exact (HX.out.alloc HX.out.size _).trans (hb.mono (HX.out.alloc HX.out.size _).size)); have hk := (bcell HX.out).1; have hlt := Nat.lt_of_lt_of_le hVz HX.out.size; have HBE := Lib.hid hb; clear hb)
      | fail)
    obtain ⟨X0, hX0⟩ : ∃ X, ws = X := ⟨_, rfl⟩
    rw [hX0] at HX hk hlt ⊢
    clear hX0 HBE
    have y0 : X0.cell? ⟨W.heap.size, 0, none⟩ = some (.slice sa n1 sc) := (HX.out.cell (p := ⟨W.heap.size, 0, none⟩) hVz).trans c0
    have y1 : X0.cell? ⟨W.heap.size, 1, none⟩ = some (.int .i64 b.wth) := (HX.out.cell (p := ⟨W.heap.size, 1, none⟩) hVz).trans c1
    have y2 : X0.cell? ⟨W.heap.size, 2, none⟩ = some (.int .i64 b.c0) := (HX.out.cell (p := ⟨W.heap.size, 2, none⟩) hVz).trans c2
    have y3 : X0.cell? ⟨W.heap.size, 3, none⟩ = some (.int .i64 b.c1) := (HX.out.cell (p := ⟨W.heap.size, 3, none⟩) hVz).trans c3
    have y4 : X0.cell? ⟨W.heap.size, 4, none⟩ = some (.int .i64 b.c2) := (HX.out.cell (p := ⟨W.heap.size, 4, none⟩) hVz).trans c4
    have y5 : X0.cell? ⟨W.heap.size, 5, none⟩ = some (.slice ka n2 kc) := (HX.out.cell (p := ⟨W.heap.size, 5, none⟩) hVz).trans c5
    have y6 : X0.cell? ⟨W.heap.size, 6, none⟩ = some (.int .i64 b.rate) := (HX.out.cell (p := ⟨W.heap.size, 6, none⟩) hVz).trans c6
    have z0 : X0.cell? ⟨W.heap.size + 1, 0, none⟩ = some (.int .i64 m1) := (HX.out.cell (p := ⟨W.heap.size + 1, 0, none⟩) hVx).trans d0
    have z1 : X0.cell? ⟨W.heap.size + 1, 1, none⟩ = some (.int .i64 m2) := (HX.out.cell (p := ⟨W.heap.size + 1, 1, none⟩) hVx).trans d1
    have lx : W.heap.size + 1 < X0.heap.size := Nat.lt_of_lt_of_le hVx HX.out.size
    have HHK := Lib.hid hk
    have HX00 := HX
    clear hk
    have hz0 : ∀ L : Nat → Bool, (∀ i, L i = false) → (fun (L : Nat → Bool) (w' : World) => ((∀ b o, b < X0.heap.size → w'.cell? ⟨b, o, none⟩ = X0.cell? ⟨b, o, none⟩) ∧ Below X0.heap.size X0 w') ∧ (L 10 = false → w'.heap.size = X0.heap.size) ∧ (L 10 = true → L 11 = false → w'.heap[X0.heap.size]? = some (.cells #[.slice none 0 0, .int .i64 0, .int .i64 0, .int .i64 0, .int .i64 0, .slice none 0 0, .int .i64 0] 26)) ∧ (L 11 = true → w'.heap[X0.heap.size]? = some (Obj.cells #[.slice sa n1 sc, .int .i64 b.wth, .int .i64 b.c0, .int .i64 b.c1, .int .i64 b.c2, .slice ka n2 kc, .int .i64 b.rate] 26))) L X0.drew := fun L h => ⟨hs0 _, (fun _ => rfl), (fun h' => by rw [h 10] at h'; cases h'), fun h' => by rw [h 11] at h'; cases h'⟩
    refine wp_region_det (S := fun L w' => ((∀ b o, b < X0.heap.size → w'.cell? ⟨b, o, none⟩ = X0.cell? ⟨b, o, none⟩) ∧ Below X0.heap.size X0 w') ∧ (L 10 = false → w'.heap.size = X0.heap.size) ∧ (L 10 = true → L 11 = false → w'.heap[X0.heap.size]? = some (.cells #[.slice none 0 0, .int .i64 0, .int .i64 0, .int .i64 0, .int .i64 0, .slice none 0 0, .int .i64 0] 26)) ∧ (L 11 = true → w'.heap[X0.heap.size]? = some (Obj.cells #[.slice sa n1 sc, .int .i64 b.wth, .int .i64 b.c0, .int .i64 b.c1, .int .i64 b.c2, .slice ka n2 kc, .int .i64 b.rate] 26))) (by kernel_rfl) (by kernel_rfl) (hz0 _ fun _ => rfl) ?_
    clear hz0
    apply det_cons
    · refine ⟨by rfl, fun L w hN hS => ?_⟩
      obtain ⟨⟨hcc, hu⟩, hz, hy, hq⟩ := hS
      have HZ := Lib.hid hz
      have HY := Lib.hid hy
      have HQ := Lib.hid hq
      clear hz hy hq
      go_simp
      exact ⟨rfl, fun L' h1 h2 => ⟨⟨hcc, hu⟩, (fun h => by rw [h2 10 (by decide)] at h; exact HZ.out h), (fun h h' => by rw [h2 10 (by decide)] at h; rw [h2 11 (by decide)] at h'; exact HY.out h h'), fun h => by rw [h2 11 (by decide)] at h; exact HQ.out h⟩⟩
    try simp only [Act.put, List.setIfInBounds_toArray, List.set_cons_zero, List.set_cons_succ]
    apply det_cons
    · refine ⟨by rfl, fun L w hN hS => ?_⟩
      obtain ⟨⟨hcc, hu⟩, hz, hy, hq⟩ := hS
      have HZ := Lib.hid hz
      have HY := Lib.hid hy
      have HQ := Lib.hid hq
      clear hz hy hq
      go_simp
      exact ⟨rfl, fun L' h1 h2 => ⟨⟨hcc, hu⟩, (fun h => by rw [h2 10 (by decide)] at h; exact HZ.out h), (fun h h' => by rw [h2 10 (by decide)] at h; rw [h2 11 (by decide)] at h'; exact HY.out h h'), fun h => by rw [h2 11 (by decide)] at h; exact HQ.out h⟩⟩
    try simp only [Act.put, List.setIfInBounds_toArray, List.set_cons_zero, List.set_cons_succ]
    apply det_cons
    · refine ⟨by rfl, fun L w hN hS => ?_⟩
      obtain ⟨⟨hcc, hu⟩, hz, hy, hq⟩ := hS
      have HZ := Lib.hid hz
      have HY := Lib.hid hy
      have HQ := Lib.hid hq
      clear hz hy hq
      go_simp
      exact ⟨rfl, fun L' h1 h2 => ⟨⟨hcc, hu⟩, (fun h => by rw [h2 10 (by decide)] at h; exact HZ.out h), (fun h h' => by rw [h2 10 (by decide)] at h; rw [h2 11 (by decide)] at h'; exact HY.out h h'), fun h => by rw [h2 11 (by decide)] at h; exact HQ.out h⟩⟩
    try simp only [Act.put, List.setIfInBounds_toArray, List.set_cons_zero, List.set_cons_succ]
    apply det_cons
    · refine ⟨by rfl, fun L w hN hS => ?_⟩
      obtain ⟨⟨hcc, hu⟩, hz, hy, hq⟩ := hS
      have HZ := Lib.hid hz
      have HY := Lib.hid hy
      have HQ := Lib.hid hq
      clear hz hy hq
      go_simp
      exact ⟨rfl, fun L' h1 h2 => ⟨⟨hcc, hu⟩, (fun h => by rw [h2 10 (by decide)] at h; exact HZ.out h), (fun h h' => by rw [h2 10 (by decide)] at h; rw [h2 11 (by decide)] at h'; exact HY.out h h'), fun h => by rw [h2 11 (by decide)] at h; exact HQ.out h⟩⟩
    try simp only [Act.put, List.setIfInBounds_toArray, List.set_cons_zero, List.set_cons_succ]
    apply det_cons
    · refine ⟨by rfl, fun L w hN hS => ?_⟩
      obtain ⟨⟨hcc, hu⟩, hz, hy, hq⟩ := hS
      have HZ := Lib.hid hz
      have HY := Lib.hid hy
      have HQ := Lib.hid hq
      clear hz hy hq
      go_simp
      exact ⟨rfl, fun L' h1 h2 => ⟨⟨hcc, hu⟩, (fun h => by rw [h2 10 (by decide)] at h; exact HZ.out h), (fun h h' => by rw [h2 10 (by decide)] at h; rw [h2 11 (by decide)] at h'; exact HY.out h h'), fun h => by rw [h2 11 (by decide)] at h; exact HQ.out h⟩⟩
    try simp only [Act.put, List.setIfInBounds_toArray, List.set_cons_zero, List.set_cons_succ]
    apply det_cons
    · refine ⟨by rfl, fun L w hN hS => ?_⟩
      obtain ⟨⟨hcc, hu⟩, hz, hy, hq⟩ := hS
      have HZ := Lib.hid hz
      have HY := Lib.hid hy
      have HQ := Lib.hid hq
      clear hz hy hq
      go_simp
      exact ⟨rfl, fun L' h1 h2 => ⟨⟨hcc, hu⟩, (fun h => by rw [h2 10 (by decide)] at h; exact HZ.out h), (fun h h' => by rw [h2 10 (by decide)] at h; rw [h2 11 (by decide)] at h'; exact HY.out h h'), fun h => by rw [h2 11 (by decide)] at h; exact HQ.out h⟩⟩
    try simp only [Act.put, List.setIfInBounds_toArray, List.set_cons_zero, List.set_cons_succ]
    apply det_cons
    · refine ⟨by rfl, fun L w hN hS => ?_⟩
      obtain ⟨⟨hcc, hu⟩, hz, hy, hq⟩ := hS
      have HZ := Lib.hid hz
      have HY := Lib.hid hy
      have HQ := Lib.hid hq
      clear hz hy hq
      go_simp
      (refine (wrap_any _ _ (by omega) _).mono ?_; rintro e w' ⟨rfl, rfl⟩; exact ⟨congrArg Ending.returned (congrArg (Value.int .i64) HK1.out), fun L' h1 h2 => ⟨⟨hcc, hu⟩, (fun h => by rw [h2 10 (by decide)] at h; exact HZ.out h), (fun h h' => by rw [h2 10 (by decide)] at h; rw [h2 11 (by decide)] at h'; exact HY.out h h'), fun h => by rw [h2 11 (by decide)] at h; exact HQ.out h⟩⟩)
    try simp only [Act.put, List.setIfInBounds_toArray, List.set_cons_zero, List.set_cons_succ]
    apply det_cons
    · refine ⟨by rfl, fun L w hN hS => ?_⟩
      obtain ⟨⟨hcc, hu⟩, hz, hy, hq⟩ := hS
      have HZ := Lib.hid hz
      have HY := Lib.hid hy
      have HQ := Lib.hid hq
      clear hz hy hq
      go_simp
      exact ⟨rfl, fun L' h1 h2 => ⟨⟨hcc, hu⟩, (fun h => by rw [h2 10 (by decide)] at h; exact HZ.out h), (fun h h' => by rw [h2 10 (by decide)] at h; rw [h2 11 (by decide)] at h'; exact HY.out h h'), fun h => by rw [h2 11 (by decide)] at h; exact HQ.out h⟩⟩
    try simp only [Act.put, List.setIfInBounds_toArray, List.set_cons_zero, List.set_cons_succ]
    apply det_cons
    · refine ⟨by rfl, fun L w hN hS => ?_⟩
      obtain ⟨⟨hcc, hu⟩, hz, hy, hq⟩ := hS
      have HZ := Lib.hid hz
      have HY := Lib.hid hy
      have HQ := Lib.hid hq
      clear hz hy hq
      go_simp
      exact ⟨rfl, fun L' h1 h2 => ⟨⟨hcc, hu⟩, (fun h => by rw [h2 10 (by decide)] at h; exact HZ.out h), (fun h h' => by rw [h2 10 (by decide)] at h; rw [h2 11 (by decide)] at h'; exact HY.out h h'), fun h => by rw [h2 11 (by decide)] at h; exact HQ.out h⟩⟩
    try simp only [Act.put, List.setIfInBounds_toArray, List.set_cons_zero, List.set_cons_succ]
    apply det_cons
    · refine ⟨by rfl, fun L w hN hS => ?_⟩
      obtain ⟨⟨hcc, hu⟩, hz, hy, hq⟩ := hS
      have HZ := Lib.hid hz
      have HY := Lib.hid hy
      have HQ := Lib.hid hq
      clear hz hy hq
      go_simp
      (refine (wrap_any _ _ (by omega) _).mono ?_; rintro e w' ⟨rfl, rfl⟩; exact ⟨congrArg Ending.returned (congrArg (Value.int .i64) HK2.out), fun L' h1 h2 => ⟨⟨hcc, hu⟩, (fun h => by rw [h2 10 (by decide)] at h; exact HZ.out h), (fun h h' => by rw [h2 10 (by decide)] at h; rw [h2 11 (by decide)] at h'; exact HY.out h h'), fun h => by rw [h2 11 (by decide)] at h; exact HQ.out h⟩⟩)
    try simp only [Act.put, List.setIfInBounds_toArray, List.set_cons_zero, List.set_cons_succ]
    apply det_cons
    · refine ⟨by rfl, fun L w hN hS => ?_⟩
      obtain ⟨⟨hcc, hu⟩, hz, hy, hq⟩ := hS
      have HZ := Lib.hid hz
      have HY := Lib.hid hy
      have HQ := Lib.hid hq
      clear hz hy hq
      have h11 : L 11 = false := (hN.chain hN.free (k := 11) (by kernel_rfl))
      have hsz := HZ.out hN.free
      have HSZ := Lib.hid hsz
      have HP := Lib.hid (congrArg (fun k => Value.pointer (some ⟨k, 0, none⟩)) hsz)
      have H11 := Lib.hid h11
      clear h11 hsz
      go_simp
      refine ⟨HP.out, fun L' h1 h2 => ⟨⟨?_, hu.alloc hu.size _⟩, (fun h => by rw [h1] at h; cases h), (fun _ _ => ?_), fun h => by rw [h2 11 (by decide), H11.out] at h; cases h⟩⟩
      · intro b o hb
        have h3 := ((Below.refl _ w).alloc (Nat.le_refl _) (.cells #[.slice none 0 0, .int .i64 0, .int .i64 0, .int .i64 0, .int .i64 0, .slice none 0 0, .int .i64 0] 26)).cell (p := ⟨b, o, none⟩) (show b < w.heap.size by have := HSZ.out; omega)
        exact h3.trans (hcc b o hb)
      · rw [← HSZ.out]
        exact World.alloc_heap_new _ _
    try simp only [Act.put, List.setIfInBounds_toArray, List.set_cons_zero, List.set_cons_succ]
    apply det_cons
    · refine ⟨by rfl, fun L w hN hS => ?_⟩
      obtain ⟨⟨hcc, hu⟩, hz, hy, hq⟩ := hS
      have HZ := Lib.hid hz
      have HY := Lib.hid hy
      have HQ := Lib.hid hq
      clear hz hy hq
      have h10 : L 10 = true := hN.was (by kernel_rfl)
      have hq := HY.out h10 hN.free
      have e0 : w.cell? ⟨X0.heap.size, 0, none⟩ = some (.slice none 0 0) := blk_cell hq
      have e1 : w.cell? ⟨X0.heap.size, 1, none⟩ = some (.int .i64 0) := blk_cell hq
      have e2 : w.cell? ⟨X0.heap.size, 2, none⟩ = some (.int .i64 0) := blk_cell hq
      have e3 : w.cell? ⟨X0.heap.size, 3, none⟩ = some (.int .i64 0) := blk_cell hq
      have e4 : w.cell? ⟨X0.heap.size, 4, none⟩ = some (.int .i64 0) := blk_cell hq
      have e5 : w.cell? ⟨X0.heap.size, 5, none⟩ = some (.slice none 0 0) := blk_cell hq
      have e6 : w.cell? ⟨X0.heap.size, 6, none⟩ = some (.int .i64 0) := blk_cell hq
      have f0 := blk_frozen hq 0
      have f1 := blk_frozen hq 1
      have f2 := blk_frozen hq 2
      have f3 := blk_frozen hq 3
      have f4 := blk_frozen hq 4
      have f5 := blk_frozen hq 5
      have f6 := blk_frozen hq 6
      have H10 := Lib.hid h10
      have HQQ := Lib.hid hq
      clear hq h10
      go_simp
      obtain ⟨j1, j2, j3⟩ := stored7 HQQ.out (.slice sa n1 sc) (.int .i64 b.wth) (.int .i64 b.c0) (.int .i64 b.c1) (.int .i64 b.c2) (.slice ka n2 kc) (.int .i64 b.rate) hu (Nat.le_refl X0.heap.size)
      exact ⟨rfl, fun L' h1 h2 => ⟨⟨(fun b o hb => (j2.cell (p := ⟨b, o, none⟩) hb)), j2⟩, (fun h => by rw [h2 10 (by decide), H10.out] at h; cases h), (fun _ h => by rw [h1] at h; cases h), fun _ => j1⟩⟩
    try simp only [Act.put]
    apply det_cons
    · refine ⟨by rfl, fun L w hN hS => ?_⟩
      obtain ⟨⟨hcc, hu⟩, hz, hy, hq⟩ := hS
      have HZ := Lib.hid hz
      have HY := Lib.hid hy
      have HQ := Lib.hid hq
      clear hz hy hq
      go_simp
      exact ⟨rfl, fun L' h1 h2 => ⟨⟨hcc, hu⟩, (fun h => by rw [h2 10 (by decide)] at h; exact HZ.out h), (fun h h' => by rw [h2 10 (by decide)] at h; rw [h2 11 (by decide)] at h'; exact HY.out h h'), fun h => by rw [h2 11 (by decide)] at h; exact HQ.out h⟩⟩
    try simp only [Act.put, List.setIfInBounds_toArray, List.set_cons_zero, List.set_cons_succ]
    apply det_cons
    · refine ⟨by rfl, fun L w hN hS => ?_⟩
      obtain ⟨⟨hcc, hu⟩, hz, hy, hq⟩ := hS
      have HZ := Lib.hid hz
      have HY := Lib.hid hy
      have HQ := Lib.hid hq
      clear hz hy hq
      go_simp
      exact ⟨rfl, fun L' h1 h2 => ⟨⟨hcc, hu⟩, (fun h => by rw [h2 10 (by decide)] at h; exact HZ.out h), (fun h h' => by rw [h2 10 (by decide)] at h; rw [h2 11 (by decide)] at h'; exact HY.out h h'), fun h => by rw [h2 11 (by decide)] at h; exact HQ.out h⟩⟩
    try simp only [Act.put, List.setIfInBounds_toArray, List.set_cons_zero, List.set_cons_succ]
    refine det_nil ?_
    rintro L X hL ⟨⟨hcc, hu⟩, _, _, hq⟩
    have hqx := hq (hL 11 (by decide))
    have HX := Lib.hid (HX.out.trans (hu.mono HX.out.size))
    have hlx := Nat.lt_of_lt_of_le hVz HX.out.size
    have y0' : X.cell? ⟨W.heap.size, 0, none⟩ = some (.slice sa n1 sc) := (HX.out.cell (p := ⟨W.heap.size, 0, none⟩) hVz).trans c0
    obtain ⟨P5, hP5⟩ : ∃ P, X0.heap.size = P := ⟨_, rfl⟩
    have hVP : V.heap.size ≤ P5 := by rw [← hP5]; exact HX00.out.size
    rw [hP5] at hqx ⊢
    clear y0 y1 y2 y3 y4 y5 y6 z0 z1 lx hcc hu hq hL
    have w0 : X.cell? ⟨P5, 0, none⟩ = some (.slice sa n1 sc) := blk_cell hqx
    have w0f := blk_frozen hqx 0
    have lp : P5 < X.heap.size := (Array.getElem?_eq_some_iff.1 hqx).1
    have HQ5 := Lib.hid hqx
    clear hqx
    obtain ⟨i56, i56a, i56b, i56c, i56d⟩ := info_parts info56z
    obtain ⟨_, cap, e, hs1, hs2, hs3, hs4⟩ := (BZ.out _ HX.out).hs
    injection e with e1 e2 e3
    subst e1
    clear e2 e3
    obtain ⟨g, o, hsa, hg, hcs⟩ := hs4 (by simp [stCells]; have := HL1.out; omega)
    subst hsa
    have hnl : n1 = (stCells b.sts).length := by simp [stCells]; exact HL1.out
    have HNL := Lib.hid hnl
    have HCS := Lib.hid hcs
    have HS3 := Lib.hid hs3
    have hgX : g < X.heap.size := Nat.lt_of_lt_of_le hg (Nat.le_trans (BZ.out _ (Below.refl _ V)).hn HX.out.size)
    have HXB := Lib.hid (Below.refl X.heap.size X)
    clear hcs hs1 hs2 hs3 hs4 hg hnl
    go_wp2_with (first
      | (at_builtin; refine wpList_append_own _ rfl (.tmp 34) (.tmp 36) 22 rfl X.heap.size 56 i56 _ 7 56 Tryd.underlying22 i56a i56b i56c i56d rfl (by decide) (.slice (some ⟨X.heap.size, 0, none⟩) 0 0) 0 [] rfl (empty_row X 56 7) ⟨g, o, none⟩ n1 sc (stCells b.sts).flatten rfl ?c1 ?c2 ?c3 ?c4 ?c5 ?c6 ?_)
      | fail)
    case c1 => rw [flat_len _ HS3.out, ← HNL.out]
    case c2 =>
      intro j u hj
      obtain ⟨q, r, row, h1, h2, h3⟩ := flat_at' (by decide) _ HS3.out j u hj
      rw [Go.WideShapes.add_plain, h3, ← Nat.add_assoc]
      exact (((Below.refl _ X).alloc (Nat.le_refl _) _).cell (p := ⟨g, o + q * 7 + r, none⟩) hgX).trans (HCS.out q r row u h1 h2)
    case c3 =>
      intro u hu
      obtain ⟨row, hrow, hu2⟩ := List.mem_flatten.1 hu
      obtain ⟨x, _, rfl⟩ := List.mem_map.1 hrow
      simp [St.cells] at hu2
      rcases hu2 with rfl | rfl | rfl | rfl | rfl | rfl | rfl <;> rfl
    case c4 => unfold maxLen; omega
    case c5 => omega
    case c6 => simp
    intro v' w4 hown hgrow _
    obtain ⟨g', cap', cur, hv', hgb, hgh, hgc, hgm, hgs, hgt⟩ : ∃ g' cap' cur, v' = .slice (some ⟨g', 0, none⟩) n1 cap' ∧ X.heap.size ≤ g' ∧ w4.heap[g']? = some (.cells cur 56) ∧ n1 ≤ cap' ∧ cap' ≤ maxLen ∧ cur.size = cap' * 7 ∧ cur.toList.take (n1 * 7) = (stCells b.sts).flatten := by
      rcases hown.2 with ⟨_, h0⟩ | ⟨g', cap', cur, h1, h2, h3, h4, h5, h6, h7⟩
      · omega
      · exact ⟨g', cap', cur, h1, h2, h3, h4, h5, h6, h7⟩
    subst hv'
    have hb4 : Below X.heap.size X w4 := (((Below.refl _ X).alloc (Nat.le_refl _) _)).trans ⟨hgrow.os, hgrow.tape, hgrow.output, hgrow.size, fun k hk => hgrow.block k (by simp; omega) (by simp [Value.ownBlock]; omega)⟩
    have hq4 := (hb4.block P5 lp).trans HQ5.out
    have p50 : w4.cell? ⟨P5, 0, none⟩ = some (.slice (some ⟨g, o, none⟩) n1 sc) := blk_cell hq4
    have p50f := blk_frozen hq4 0
    have hg4 : g' < w4.heap.size := (Array.getElem?_eq_some_iff.1 hgh).1
    have hne : P5 ≠ g' := by omega
    have hq5 := blk_set (j := 0) (v := .slice (some ⟨g', 0, none⟩) n1 cap') hq4
    have hg5 : (w4.setCell ⟨P5, 0, none⟩ (.slice (some ⟨g', 0, none⟩) n1 cap')).heap[g']? = some (.cells cur 56) := (Below.heap_setCell _ _ _ _ (Ne.symm hne)).trans hgh
    have hb5 : Below V.heap.size V (w4.setCell ⟨P5, 0, none⟩ (.slice (some ⟨g', 0, none⟩) n1 cap')) := (HX.out.trans (hb4.mono HX.out.size)).setCell hVP _
    obtain ⟨X5, hX5⟩ : ∃ X5, w4.setCell ⟨P5, 0, none⟩ (.slice (some ⟨g', 0, none⟩) n1 cap') = X5 := ⟨_, rfl⟩
    rw [hX5] at hq5 hg5 hb5
    have hgV : V.heap.size ≤ g' := Nat.le_trans HX.out.size hgb
    have HQ5b := Lib.hid hq5
    have HG5 := Lib.hid hg5
    have HB5 := Lib.hid hb5
    have HGS := Lib.hid hgs
    have HGT := Lib.hid hgt
    have HGC := Lib.hid hgc
    have HGM := Lib.hid hgm
    have HX5 := Lib.hid hX5
    have HOKX := Lib.hid (bkOk_sts hok)
    have hgcap : n1 ≤ cap' := hgc
    have hcapm : cap' ≤ 9223372036854775807 := by unfold maxLen at hgm; omega
    clear hown hgrow hgb hgh hgc hgm hgs hgt hq5 hg5 hb5 hX5 hb4 hq4
    go_wp2_with fail
    rw [HX5.out]
    go_loopg [8] n1 (fun n0 i wx => ∃ (q : Nat) (cu : Array Value), q ≤ n1 ∧ n0 = n1 - q ∧ i = .int .i64 (q : Int) ∧ Below V.heap.size V wx ∧ wx.heap[P5]? = some (Obj.cells #[.slice (some ⟨g', 0, none⟩) n1 cap', .int .i64 b.wth, .int .i64 b.c0, .int .i64 b.c1, .int .i64 b.c2, .slice ka n2 kc, .int .i64 b.rate] 26) ∧
      wx.heap[g']? = some (.cells cu 56) ∧ cu.size = cap' * 7 ∧ cu.toList.take (n1 * 7) = (stCells ((b.sts.take q).map (St.later y) ++ b.sts.drop q)).flatten)
    case atStart => exact ⟨0, cur, by omega, rfl, rfl, HB5.out, HQ5b.out, HG5.out, HGS.out, by simpa using HGT.out⟩
    case round =>
      clear p50 p50f y0' w0 w0f
      obtain ⟨q, cu, hq, hgk, rfl, hbv, hp5, hgh, hcs, hct⟩ := hrel
      have HG2 := Lib.hid hgk
      have HX := Lib.hid hbv
      have HP5 := Lib.hid hp5
      have HGH := Lib.hid hgh
      have HCU := Lib.hid hcs
      have HCT := Lib.hid hct
      have p50 : wr.cell? ⟨P5, 0, none⟩ = some (.slice (some ⟨g', 0, none⟩) n1 cap') := blk_cell hp5
      clear hgk hbv hp5 hcs hct
      by_cases hqn : q < n1
      · obtain ⟨x, hx⟩ : ∃ x, b.sts[q]? = some x := ⟨_, List.getElem?_eq_getElem (by have := HL1.out; omega)⟩
        have hxd := (HOKX.out x (List.mem_of_getElem? hx)).1
        have hw : IntKind.i64.wrap (x.due + (y : Int)) = x.due + (y : Int) := IntWalk.i64_in _ (by omega)
        have hcx : wr.cell? ⟨g', q * 7, none⟩ = some (.int .i64 x.due) := by
          rw [blk_cell hgh]
          have h1 := later_flat b.sts y q x hx
          rw [← HCT.out, List.getElem?_take] at h1
          split at h1
          · rwa [Array.getElem?_toList] at h1
          · cases h1
        have hcf : wr.frozen? ⟨g', q * 7, none⟩ = false := blk_frozen hgh _
        have hqi : (q : Int) < (n1 : Int) := by omega
        have hset := blk_set (j := q * 7) (v := .int .i64 (x.due + (y : Int))) hgh
        have HSET := Lib.hid hset
        have HXX := Lib.hid hx
        clear hgh hset hx hxd
        go_wp2_with fail
        go_roundg (n1 - (q + 1))
        case measure => rw [HG2.out]; omega
        case rel =>
          refine ⟨q + 1, cu.setIfInBounds (q * 7) (.int .i64 (x.due + (y : Int))), by omega, rfl, by go_num, HX.out.setCell hgV _, (Below.heap_setCell _ _ _ _ (by show P5 ≠ g'; exact hne)).trans HP5.out, HSET.out, by simpa using HCU.out, ?_⟩
          rw [Array.toList_setIfInBounds, List.take_set, HCT.out, later_flat_set b.sts y q x HXX.out]
      · have hqi : ¬ (q : Int) < (n1 : Int) := by omega
        have hq1 : q = n1 := by omega
        have hrows : stCells ((b.sts.take q).map (St.later y) ++ b.sts.drop q) = stCells (b.later (y : Int)).sts := by
          rw [hq1, HL1.out, List.take_length, List.drop_length, List.append_nil]; rfl
        have hlen : (stCells (b.later (y : Int)).sts).length = n1 := by simp [stCells, Bk.later]; exact HL1.out.symm
        have hr7 : ∀ r ∈ stCells (b.later (y : Int)).sts, r.length = 7 := fun r hr => by
          obtain ⟨z, _, rfl⟩ := List.mem_map.1 hr; rfl
        have hown : wr.ownsRow 0 56 7 (.slice (some ⟨g', 0, none⟩) n1 cap') n1 (stCells (b.later (y : Int)).sts).flatten :=
          ⟨by rw [flat_len _ hr7, hlen], .inr ⟨g', cap', cu, rfl, Nat.zero_le _, hgh, HGC.out, HGM.out, HCU.out, by rw [HCT.out, hrows]⟩⟩
        have hbk : BookW wr wr.heap.size (some ⟨g', 0, none⟩) ka n1 cap' n2 kc (b.later (y : Int)) :=
          ⟨Nat.le_refl _, SlOf.own (by rw [hlen]; exact hown) hr7, (BZ.out _ HX.out).hk.mono (BZ.out _ HX.out).hn, by rw [len_later]; exact HL1.out, HL2.out⟩
        have BZ1 := Lib.hid (show ∀ w, Below wr.heap.size wr w → BookW w n (some ⟨g, o, none⟩) ka n1 sc n2 kc b from fun w h => (BZ.out _ HX.out).below (BZ.out _ HX.out).hn h)
        have BZ2 := Lib.hid (show ∀ w, Below wr.heap.size wr w → BookW w wr.heap.size (some ⟨g', 0, none⟩) ka n1 cap' n2 kc (b.later (y : Int)) from fun w h => hbk.below hbk.hn h)
        have GZ1 := Lib.hid (show ∀ w, Below wr.heap.size wr w → Glob w from fun w h => (GZ.out _ HX.out).below (GZ.out _ HX.out).lt h)
        have HBW := Lib.hid (hBV.trans (HX.out.mono hBV.size))
        have hVw := Nat.lt_of_lt_of_le hVz HX.out.size
        have c0w : wr.cell? ⟨W.heap.size, 0, none⟩ = some (.slice (some ⟨g, o, none⟩) n1 sc) := (HX.out.cell (p := ⟨W.heap.size, 0, none⟩) hVz).trans c0
        have c1w : wr.cell? ⟨W.heap.size, 1, none⟩ = some (.int .i64 b.wth) := (HX.out.cell (p := ⟨W.heap.size, 1, none⟩) hVz).trans c1
        have c2w : wr.cell? ⟨W.heap.size, 2, none⟩ = some (.int .i64 b.c0) := (HX.out.cell (p := ⟨W.heap.size, 2, none⟩) hVz).trans c2
        have c3w : wr.cell? ⟨W.heap.size, 3, none⟩ = some (.int .i64 b.c1) := (HX.out.cell (p := ⟨W.heap.size, 3, none⟩) hVz).trans c3
        have c4w : wr.cell? ⟨W.heap.size, 4, none⟩ = some (.int .i64 b.c2) := (HX.out.cell (p := ⟨W.heap.size, 4, none⟩) hVz).trans c4
        have c5w : wr.cell? ⟨W.heap.size, 5, none⟩ = some (.slice ka n2 kc) := (HX.out.cell (p := ⟨W.heap.size, 5, none⟩) hVz).trans c5
        have c6w : wr.cell? ⟨W.heap.size, 6, none⟩ = some (.int .i64 b.rate) := (HX.out.cell (p := ⟨W.heap.size, 6, none⟩) hVz).trans c6
        have p51 : wr.cell? ⟨P5, 1, none⟩ = some (.int .i64 b.wth) := blk_cell HP5.out
        have p52 : wr.cell? ⟨P5, 2, none⟩ = some (.int .i64 b.c0) := blk_cell HP5.out
        have p53 : wr.cell? ⟨P5, 3, none⟩ = some (.int .i64 b.c1) := blk_cell HP5.out
        have p54 : wr.cell? ⟨P5, 4, none⟩ = some (.int .i64 b.c2) := blk_cell HP5.out
        have p55 : wr.cell? ⟨P5, 5, none⟩ = some (.slice ka n2 kc) := blk_cell HP5.out
        have p56 : wr.cell? ⟨P5, 6, none⟩ = some (.int .i64 b.rate) := blk_cell HP5.out
        have hp5 : P5 < wr.heap.size := (Array.getElem?_eq_some_iff.1 HP5.out).1
        have HX := Lib.hid (Below.refl wr.heap.size wr)
        clear hgh hown hbk hrows hlen hr7
        by_cases hokx : bkOk (b.later (y : Int)) = true
        rotate_left
        · have HCK := Lib.hid (show checkS (b.later (y : Int)) = 60 by simp [checkS, hokx])
          go_wp2_with (first
            | (go_at_call 17; refine (check_any _ _ (b.later (y : Int)) (BZ2.out _ (by first | exact HX.out | exact HX.out.alloc HX.out.size _)).v).mono ?_; rintro e wc ⟨rfl, hb⟩; rw [HCK.out]; have HX := Lib.hid (show Below wr.heap.size wr wc from by first | exact HX.out.trans (hb.mono HX.out.size) | exact (HX.out.alloc HX.out.size _).trans (hb.mono (HX.out.alloc HX.out.size _).size)); have hk := (bcell HX.out).1; have hlt := Nat.lt_of_lt_of_le hVw HX.out.size; have hlt5 := Nat.lt_of_lt_of_le hp5 HX.out.size; have HBE := Lib.hid hb; clear hb)
            | (go_at_call 25; refine (billed_any _ (GZ1.out _ (by first | exact HX.out | exact HX.out.alloc HX.out.size _))).mono ?_; rintro e wz ⟨rfl, hb⟩; have HX := Lib.hid (show Below wr.heap.size wr wz from by first | exact HX.out.trans (hb.mono HX.out.size) | exact (HX.out.alloc HX.out.size _).trans (hb.mono (HX.out.alloc HX.out.size _).size)); have hk := (bcell HX.out).1; have hlt := Nat.lt_of_lt_of_le hVw HX.out.size; have hlt5 := Nat.lt_of_lt_of_le hp5 HX.out.size; have HBE := Lib.hid hb; clear hb)
            | fail)
          go_ret
          exact ⟨rfl, HBW.out.trans (HX.out.mono HBW.out.size)⟩
        · have HCK := Lib.hid (show checkS (b.later (y : Int)) = 0 by simp [checkS, hokx])
          by_cases hT : truths b = []
          · obtain ⟨f1, f2, f3, f4⟩ := due_false hok hokx hT hkn
            have F1 := Lib.hid f1
            have F2 := Lib.hid f2
            have F3 := Lib.hid f3
            have F4 := Lib.hid f4
            clear f1 f2 f3 f4 hT hokx hok hkn
            go_upto_region 13 with (first
              | (go_at_call 17; refine (check_any _ _ (b.later (y : Int)) (BZ2.out _ (by first | exact HX.out | exact HX.out.alloc HX.out.size _)).v).mono ?_; rintro e wc ⟨rfl, hb⟩; rw [HCK.out]; have HX := Lib.hid (show Below wr.heap.size wr wc from by first | exact HX.out.trans (hb.mono HX.out.size) | exact (HX.out.alloc HX.out.size _).trans (hb.mono (HX.out.alloc HX.out.size _).size)); have hk := (bcell HX.out).1; have hlt := Nat.lt_of_lt_of_le hVw HX.out.size; have hlt5 := Nat.lt_of_lt_of_le hp5 HX.out.size; have HBE := Lib.hid hb; clear hb)
              | (go_at_call 19; refine (comes_ex _ b _ n _ _ _ _ _ _ (BZ1.out _ (by first | exact HX.out | exact HX.out.alloc HX.out.size _)) (GZ1.out _ (by first | exact HX.out | exact HX.out.alloc HX.out.size _))).mono ?_; rintro e wa ⟨rfl, hb⟩; rw [F1.out]; have HX := Lib.hid (show Below wr.heap.size wr wa from by first | exact HX.out.trans (hb.mono HX.out.size) | exact (HX.out.alloc HX.out.size _).trans (hb.mono (HX.out.alloc HX.out.size _).size)); have hk := (bcell HX.out).1; have hlt := Nat.lt_of_lt_of_le hVw HX.out.size; have hlt5 := Nat.lt_of_lt_of_le hp5 HX.out.size; have HBE := Lib.hid hb; clear hb)
              | fail)
            go_upto_region 14 with (first
              | (go_at_call 19; refine (comes_ex _ (b.later (y : Int)) _ wr.heap.size _ _ _ _ _ _ (BZ2.out _ (by first | exact HX.out | exact HX.out.alloc HX.out.size _)) (GZ1.out _ (by first | exact HX.out | exact HX.out.alloc HX.out.size _))).mono ?_; rintro e wb ⟨rfl, hb⟩; rw [F2.out]; have HX := Lib.hid (show Below wr.heap.size wr wb from by first | exact HX.out.trans (hb.mono HX.out.size) | exact (HX.out.alloc HX.out.size _).trans (hb.mono (HX.out.alloc HX.out.size _).size)); have hk := (bcell HX.out).1; have hlt := Nat.lt_of_lt_of_le hVw HX.out.size; have hlt5 := Nat.lt_of_lt_of_le hp5 HX.out.size; have HBE := Lib.hid hb; clear hb)
              | fail)
            go_upto_region 15 with (first
              | (go_at_call 21; refine (late_ex _ b _ n _ _ _ _ _ _ (BZ1.out _ (by first | exact HX.out | exact HX.out.alloc HX.out.size _)) (GZ1.out _ (by first | exact HX.out | exact HX.out.alloc HX.out.size _))).mono ?_; rintro e wd ⟨rfl, hb⟩; rw [F3.out]; have HX := Lib.hid (show Below wr.heap.size wr wd from by first | exact HX.out.trans (hb.mono HX.out.size) | exact (HX.out.alloc HX.out.size _).trans (hb.mono (HX.out.alloc HX.out.size _).size)); have hk := (bcell HX.out).1; have hlt := Nat.lt_of_lt_of_le hVw HX.out.size; have hlt5 := Nat.lt_of_lt_of_le hp5 HX.out.size; have HBE := Lib.hid hb; clear hb)
              | fail)
            go_upto_region 16 with (first
              | (go_at_call 21; refine (late_ex _ (b.later (y : Int)) _ wr.heap.size _ _ _ _ _ _ (BZ2.out _ (by first | exact HX.out | exact HX.out.alloc HX.out.size _)) (GZ1.out _ (by first | exact HX.out | exact HX.out.alloc HX.out.size _))).mono ?_; rintro e we ⟨rfl, hb⟩; rw [F4.out]; have HX := Lib.hid (show Below wr.heap.size wr we from by first | exact HX.out.trans (hb.mono HX.out.size) | exact (HX.out.alloc HX.out.size _).trans (hb.mono (HX.out.alloc HX.out.size _).size)); have hk := (bcell HX.out).1; have hlt := Nat.lt_of_lt_of_le hVw HX.out.size; have hlt5 := Nat.lt_of_lt_of_le hp5 HX.out.size; have HBE := Lib.hid hb; clear hb)
              | fail)
            go_wp2_with (first
              | (go_at_call 25; refine (billed_any _ (GZ1.out _ (by first | exact HX.out | exact HX.out.alloc HX.out.size _))).mono ?_; rintro e wz ⟨rfl, hb⟩; have HX := Lib.hid (show Below wr.heap.size wr wz from by first | exact HX.out.trans (hb.mono HX.out.size) | exact (HX.out.alloc HX.out.size _).trans (hb.mono (HX.out.alloc HX.out.size _).size)); have hk := (bcell HX.out).1; have hlt := Nat.lt_of_lt_of_le hVw HX.out.size; have hlt5 := Nat.lt_of_lt_of_le hp5 HX.out.size; have HBE := Lib.hid hb; clear hb)
              | fail)
            go_ret
            exact ⟨rfl, HBW.out.trans (HX.out.mono HBW.out.size)⟩
          · obtain ⟨cl, ch, ul, uh, ol, oh, pl, ph, f1, f2, f3, f4, f5, f6, hpl, hph, hub, hfi⟩ := due_law hok hokx (show (0 : Int) ≤ (y : Int) by omega) hT hkn
            obtain ⟨vl, hvl⟩ : ∃ v, max 0 (ul - (y : Int)) = v := ⟨_, rfl⟩
            obtain ⟨vh, hvh⟩ : ∃ v, max 0 (uh - (y : Int)) = v := ⟨_, rfl⟩
            rw [hvl, hvh] at f4
            obtain ⟨⟨fb, eb⟩, hfb⟩ : ∃ p, firstS b = p := ⟨_, rfl⟩
            obtain ⟨⟨fx, ex⟩, hfx⟩ : ∃ p, firstS (b.later (y : Int)) = p := ⟨_, rfl⟩
            rw [hfb, hfx] at hfi
            have F1 := Lib.hid f1
            have F2 := Lib.hid f2
            have F3 := Lib.hid f3
            have F4 := Lib.hid f4
            have F5 := Lib.hid f5
            have F6 := Lib.hid f6
            have F7 := Lib.hid hfb
            have F8 := Lib.hid hfx
            have HFI := Lib.hid hfi
            have MX1 := Lib.hid (show Value.int .i64 (if (y : Int) < ul then ul - (y : Int) else 0) = Value.int .i64 vl by rw [← hvl]; congr 1; omega)
            have MX2 := Lib.hid (show Value.int .i64 (if (y : Int) < uh then uh - (y : Int) else 0) = Value.int .i64 vh by rw [← hvh]; congr 1; omega)
            have hw1 : IntKind.i64.wrap (ul - (y : Int)) = ul - (y : Int) := IntWalk.i64_in _ (by omega)
            have hw2 : IntKind.i64.wrap (uh - (y : Int)) = uh - (y : Int) := IntWalk.i64_in _ (by omega)
            clear f1 f2 f3 f4 f5 f6 hub hfi hvl hvh hfb hfx hT hokx hok hkn
            go_upto_region 13 with (first
              | (go_at_call 17; refine (check_any _ _ (b.later (y : Int)) (BZ2.out _ (by first | exact HX.out | exact HX.out.alloc HX.out.size _)).v).mono ?_; rintro e wc ⟨rfl, hb⟩; rw [HCK.out]; have HX := Lib.hid (show Below wr.heap.size wr wc from by first | exact HX.out.trans (hb.mono HX.out.size) | exact (HX.out.alloc HX.out.size _).trans (hb.mono (HX.out.alloc HX.out.size _).size)); have hk := (bcell HX.out).1; have hlt := Nat.lt_of_lt_of_le hVw HX.out.size; have hlt5 := Nat.lt_of_lt_of_le hp5 HX.out.size; have HBE := Lib.hid hb; clear hb)
              | (go_at_call 19; refine (comes_ex _ b _ n _ _ _ _ _ _ (BZ1.out _ (by first | exact HX.out | exact HX.out.alloc HX.out.size _)) (GZ1.out _ (by first | exact HX.out | exact HX.out.alloc HX.out.size _))).mono ?_; rintro e wa ⟨rfl, hb⟩; rw [F1.out]; have HX := Lib.hid (show Below wr.heap.size wr wa from by first | exact HX.out.trans (hb.mono HX.out.size) | exact (HX.out.alloc HX.out.size _).trans (hb.mono (HX.out.alloc HX.out.size _).size)); have hk := (bcell HX.out).1; have hlt := Nat.lt_of_lt_of_le hVw HX.out.size; have hlt5 := Nat.lt_of_lt_of_le hp5 HX.out.size; have HBE := Lib.hid hb; clear hb)
              | fail)
            obtain ⟨X10, hX⟩ : ∃ X, wa.alloc (.cells #[.int .i64 cl, .int .i64 ch] 32) = X := ⟨_, rfl⟩
            have hq : X10.heap[wa.heap.size]? = some (.cells #[.int .i64 cl, .int .i64 ch] 32) := by rw [← hX]; exact World.alloc_heap_new _ _
            have hbx : Below wr.heap.size wr X10 := by rw [← hX]; exact HX.out.alloc HX.out.size _
            have hbk : Below wa.heap.size wa X10 := by rw [← hX]; exact (Below.refl _ _).alloc (Nat.le_refl _) _
            have hvp : wr.heap.size ≤ wa.heap.size := HX.out.size
            rw [hX]
            clear hX
            obtain ⟨P10, hP⟩ : ∃ P, wa.heap.size = P := ⟨_, rfl⟩
            rw [hP] at hq hvp ⊢
            clear hP
            have HQ10 := Lib.hid hq
            have HVP10 := Lib.hid hvp
            have HBK10 := Lib.hid hbk
            clear hq hvp hbk
            have HX := Lib.hid hbx
            have hk := (bcell hbx).1
            clear hbx
            have hlt := Nat.lt_of_lt_of_le hVw HX.out.size
            have hlt5 := Nat.lt_of_lt_of_le hp5 HX.out.size
            go_upto_region 14 with (first
              | (go_at_call 19; refine (comes_ex _ (b.later (y : Int)) _ wr.heap.size _ _ _ _ _ _ (BZ2.out _ (by first | exact HX.out | exact HX.out.alloc HX.out.size _)) (GZ1.out _ (by first | exact HX.out | exact HX.out.alloc HX.out.size _))).mono ?_; rintro e wb ⟨rfl, hb⟩; rw [F2.out]; have HX := Lib.hid (show Below wr.heap.size wr wb from by first | exact HX.out.trans (hb.mono HX.out.size) | exact (HX.out.alloc HX.out.size _).trans (hb.mono (HX.out.alloc HX.out.size _).size)); have hk := (bcell HX.out).1; have hlt := Nat.lt_of_lt_of_le hVw HX.out.size; have hlt5 := Nat.lt_of_lt_of_le hp5 HX.out.size; have HBE := Lib.hid hb; clear hb)
              | fail)
            obtain ⟨X12, hX⟩ : ∃ X, wb.alloc (.cells #[.int .i64 cl, .int .i64 ch] 32) = X := ⟨_, rfl⟩
            have hq : X12.heap[wb.heap.size]? = some (.cells #[.int .i64 cl, .int .i64 ch] 32) := by rw [← hX]; exact World.alloc_heap_new _ _
            have hbx : Below wr.heap.size wr X12 := by rw [← hX]; exact HX.out.alloc HX.out.size _
            have hbk : Below wb.heap.size wb X12 := by rw [← hX]; exact (Below.refl _ _).alloc (Nat.le_refl _) _
            have hvp : wr.heap.size ≤ wb.heap.size := HX.out.size
            rw [hX]
            clear hX
            have hne := Nat.ne_of_lt (Nat.lt_of_lt_of_le (Array.getElem?_eq_some_iff.1 HQ10.out).1 HBE.out.size)
            obtain ⟨P12, hP⟩ : ∃ P, wb.heap.size = P := ⟨_, rfl⟩
            rw [hP] at hne
            have HNE := Lib.hid (Ne.symm hne)
            clear hne
            rw [hP] at hq hvp ⊢
            clear hP
            have HQ12 := Lib.hid hq
            have HVP12 := Lib.hid hvp
            have HBK12 := Lib.hid hbk
            clear hq hvp hbk
            have HX := Lib.hid hbx
            have hk := (bcell hbx).1
            clear hbx
            have hbn := HBE.out.trans (HBK12.out.mono HBE.out.size)
            have hqq := (hbn.block P10 (Array.getElem?_eq_some_iff.1 HQ10.out).1).trans HQ10.out
            have HQ10 := Lib.hid hqq
            clear hqq
            clear hbn
            have hlt := Nat.lt_of_lt_of_le hVw HX.out.size
            have hlt5 := Nat.lt_of_lt_of_le hp5 HX.out.size
            go_upto_region 15 with (first
              | (go_at_call 21; refine (late_ex _ b _ n _ _ _ _ _ _ (BZ1.out _ (by first | exact HX.out | exact HX.out.alloc HX.out.size _)) (GZ1.out _ (by first | exact HX.out | exact HX.out.alloc HX.out.size _))).mono ?_; rintro e wd ⟨rfl, hb⟩; rw [F3.out]; have HX := Lib.hid (show Below wr.heap.size wr wd from by first | exact HX.out.trans (hb.mono HX.out.size) | exact (HX.out.alloc HX.out.size _).trans (hb.mono (HX.out.alloc HX.out.size _).size)); have hk := (bcell HX.out).1; have hlt := Nat.lt_of_lt_of_le hVw HX.out.size; have hlt5 := Nat.lt_of_lt_of_le hp5 HX.out.size; have HBE := Lib.hid hb; clear hb)
              | fail)
            obtain ⟨X14, hX⟩ : ∃ X, wd.alloc (.cells #[.int .i64 ul, .int .i64 uh] 32) = X := ⟨_, rfl⟩
            have hq : X14.heap[wd.heap.size]? = some (.cells #[.int .i64 ul, .int .i64 uh] 32) := by rw [← hX]; exact World.alloc_heap_new _ _
            have hbx : Below wr.heap.size wr X14 := by rw [← hX]; exact HX.out.alloc HX.out.size _
            have hbk : Below wd.heap.size wd X14 := by rw [← hX]; exact (Below.refl _ _).alloc (Nat.le_refl _) _
            have hvp : wr.heap.size ≤ wd.heap.size := HX.out.size
            rw [hX]
            clear hX
            obtain ⟨P14, hP⟩ : ∃ P, wd.heap.size = P := ⟨_, rfl⟩
            rw [hP] at hq hvp ⊢
            clear hP
            have HQ14 := Lib.hid hq
            have HVP14 := Lib.hid hvp
            have HBK14 := Lib.hid hbk
            clear hq hvp hbk
            have HX := Lib.hid hbx
            have hk := (bcell hbx).1
            clear hbx
            have hbn := HBE.out.trans (HBK14.out.mono HBE.out.size)
            have hqq := (hbn.block P10 (Array.getElem?_eq_some_iff.1 HQ10.out).1).trans HQ10.out
            have HQ10 := Lib.hid hqq
            clear hqq
            have hqq := (hbn.block P12 (Array.getElem?_eq_some_iff.1 HQ12.out).1).trans HQ12.out
            have HQ12 := Lib.hid hqq
            clear hqq
            clear hbn
            have hlt := Nat.lt_of_lt_of_le hVw HX.out.size
            have hlt5 := Nat.lt_of_lt_of_le hp5 HX.out.size
            go_upto_region 16 with (first
              | (go_at_call 21; refine (late_ex _ (b.later (y : Int)) _ wr.heap.size _ _ _ _ _ _ (BZ2.out _ (by first | exact HX.out | exact HX.out.alloc HX.out.size _)) (GZ1.out _ (by first | exact HX.out | exact HX.out.alloc HX.out.size _))).mono ?_; rintro e we ⟨rfl, hb⟩; rw [F4.out]; have HX := Lib.hid (show Below wr.heap.size wr we from by first | exact HX.out.trans (hb.mono HX.out.size) | exact (HX.out.alloc HX.out.size _).trans (hb.mono (HX.out.alloc HX.out.size _).size)); have hk := (bcell HX.out).1; have hlt := Nat.lt_of_lt_of_le hVw HX.out.size; have hlt5 := Nat.lt_of_lt_of_le hp5 HX.out.size; have HBE := Lib.hid hb; clear hb)
              | fail)
            obtain ⟨X16, hX⟩ : ∃ X, we.alloc (.cells #[.int .i64 vl, .int .i64 vh] 32) = X := ⟨_, rfl⟩
            have hq : X16.heap[we.heap.size]? = some (.cells #[.int .i64 vl, .int .i64 vh] 32) := by rw [← hX]; exact World.alloc_heap_new _ _
            have hbx : Below wr.heap.size wr X16 := by rw [← hX]; exact HX.out.alloc HX.out.size _
            have hbk : Below we.heap.size we X16 := by rw [← hX]; exact (Below.refl _ _).alloc (Nat.le_refl _) _
            have hvp : wr.heap.size ≤ we.heap.size := HX.out.size
            rw [hX]
            clear hX
            obtain ⟨P16, hP⟩ : ∃ P, we.heap.size = P := ⟨_, rfl⟩
            rw [hP] at hq hvp ⊢
            clear hP
            have HQ16 := Lib.hid hq
            have HVP16 := Lib.hid hvp
            have HBK16 := Lib.hid hbk
            clear hq hvp hbk
            have HX := Lib.hid hbx
            have hk := (bcell hbx).1
            clear hbx
            have hbn := HBE.out.trans (HBK16.out.mono HBE.out.size)
            have hqq := (hbn.block P10 (Array.getElem?_eq_some_iff.1 HQ10.out).1).trans HQ10.out
            have HQ10 := Lib.hid hqq
            clear hqq
            have hqq := (hbn.block P12 (Array.getElem?_eq_some_iff.1 HQ12.out).1).trans HQ12.out
            have HQ12 := Lib.hid hqq
            clear hqq
            have hqq := (hbn.block P14 (Array.getElem?_eq_some_iff.1 HQ14.out).1).trans HQ14.out
            have HQ14 := Lib.hid hqq
            clear hqq
            clear hbn
            have hlt := Nat.lt_of_lt_of_le hVw HX.out.size
            have hlt5 := Nat.lt_of_lt_of_le hp5 HX.out.size
            have HHK := Lib.hid hk
            clear hk
            have q10a : X16.cell? ⟨P10, 0, none⟩ = _ := blk_cell HQ10.out
            have q10b : X16.cell? ⟨P10, 1, none⟩ = _ := blk_cell HQ10.out
            have l10 : P10 < X16.heap.size := (Array.getElem?_eq_some_iff.1 HQ10.out).1
            have q12a : X16.cell? ⟨P12, 0, none⟩ = _ := blk_cell HQ12.out
            have q12b : X16.cell? ⟨P12, 1, none⟩ = _ := blk_cell HQ12.out
            have l12 : P12 < X16.heap.size := (Array.getElem?_eq_some_iff.1 HQ12.out).1
            have q14a : X16.cell? ⟨P14, 0, none⟩ = _ := blk_cell HQ14.out
            have q14b : X16.cell? ⟨P14, 1, none⟩ = _ := blk_cell HQ14.out
            have l14 : P14 < X16.heap.size := (Array.getElem?_eq_some_iff.1 HQ14.out).1
            have q16a : X16.cell? ⟨P16, 0, none⟩ = _ := blk_cell HQ16.out
            have q16b : X16.cell? ⟨P16, 1, none⟩ = _ := blk_cell HQ16.out
            have l16 : P16 < X16.heap.size := (Array.getElem?_eq_some_iff.1 HQ16.out).1
            go_upto_region 18 with fail
            refine wp_region_det (S := fun _ w' => (∀ b o, b < X16.heap.size → w'.cell? ⟨b, o, none⟩ = X16.cell? ⟨b, o, none⟩) ∧ Below X16.heap.size X16 w') (by kernel_rfl) (by kernel_rfl) (hs0 X16) ?_
            repeat
              apply det_cons
              · refine ⟨by rfl, fun L w hN hS => ?_⟩
                obtain ⟨hcc, hu⟩ := hS
                go_simp
                first
                  | exact ⟨MX1.out, fun _ _ _ => ⟨hcc, hu⟩⟩
                  | exact ⟨MX2.out, fun _ _ _ => ⟨hcc, hu⟩⟩
                  | exact ⟨rfl, fun _ _ _ => ⟨hcc, hu⟩⟩
                  | (refine (reach_any _ _ _).mono ?_; rintro e w' ⟨rfl, hbb⟩; exact ⟨rfl, fun _ _ _ => hs1 hbb ⟨hcc, hu⟩⟩)
              try simp only [Act.put, List.setIfInBounds_toArray, List.set_cons_zero, List.set_cons_succ]
            refine det_nil ?_
            rintro L w9 hL ⟨hcc, hu⟩
            have HX := Lib.hid (HX.out.trans (hu.mono HX.out.size))
            have hk := (bcell HX.out).1
            have hlt := Nat.lt_of_lt_of_le hVw HX.out.size
            have hlt5 := Nat.lt_of_lt_of_le hp5 HX.out.size
            have hb10 := (hu.block P10 l10).trans HQ10.out
            have hb12 := (hu.block P12 l12).trans HQ12.out
            have HB10 := Lib.hid hb10
            have HB12 := Lib.hid hb12
            clear hL hcc hu q10a q10b q12a q12b q14a q14b q16a q16b hb10 hb12 HHK l10 l12 l14 l16
            go_upto_region 21 with (first
              | (go_at_call 30; refine (owes_ex _ b n _ _ _ _ _ _ (BZ1.out _ (by first | exact HX.out | exact HX.out.alloc HX.out.size _)) (GZ1.out _ (by first | exact HX.out | exact HX.out.alloc HX.out.size _))).mono ?_; rintro e wo ⟨rfl, hb⟩; rw [F5.out]; have HX := Lib.hid (show Below wr.heap.size wr wo from by first | exact HX.out.trans (hb.mono HX.out.size) | exact (HX.out.alloc HX.out.size _).trans (hb.mono (HX.out.alloc HX.out.size _).size)); have hk := (bcell HX.out).1; have hlt := Nat.lt_of_lt_of_le hVw HX.out.size; have hlt5 := Nat.lt_of_lt_of_le hp5 HX.out.size; have HBE := Lib.hid hb; clear hb; have e10q := (HBE.out.block P10 (Array.getElem?_eq_some_iff.1 HB10.out).1).trans HB10.out; have e10a := blk_cell (j := 0) e10q; have e10b := blk_cell (j := 1) e10q; have f10a := blk_frozen e10q 0; have f10b := blk_frozen e10q 1; clear e10q)
              | fail)
            have hbo := (HBE.out.block P10 (Array.getElem?_eq_some_iff.1 HB10.out).1).trans HB10.out
            have hbp := (HBE.out.block P12 (Array.getElem?_eq_some_iff.1 HB12.out).1).trans HB12.out
            obtain ⟨k0, k1, hBZ⟩ := stored2 hbo (.int .i64 ol) (.int .i64 oh) HX.out (show wr.heap.size ≤ P10 from HVP10.out)
            have hz12 : ((wo.setCell ⟨P10, 0, none⟩ (.int .i64 ol)).setCell ⟨P10, 1, none⟩ (.int .i64 oh)).heap[P12]? = some (.cells #[.int .i64 cl, .int .i64 ch] 32) := (Below.heap_setCell _ _ _ _ HNE.out).trans ((Below.heap_setCell _ _ _ _ HNE.out).trans hbp)
            obtain ⟨Z1, hZ1⟩ : ∃ Z, (wo.setCell ⟨P10, 0, none⟩ (.int .i64 ol)).setCell ⟨P10, 1, none⟩ (.int .i64 oh) = Z := ⟨_, rfl⟩
            rw [hZ1] at k0 k1 hBZ hz12 ⊢
            have HX := Lib.hid hBZ
            have HB12 := Lib.hid hz12
            have hk := (bcell hBZ).1
            have hlt := Nat.lt_of_lt_of_le hVw hBZ.size
            have hlt5 := Nat.lt_of_lt_of_le hp5 hBZ.size
            have K0 := Lib.hid k0
            have K1 := Lib.hid k1
            clear hBZ hz12 hZ1 k0 k1 hbo hbp e10a e10b f10a f10b
            go_upto_region 22 with (first
              | (go_at_call 30; refine (owes_ex _ (b.later (y : Int)) wr.heap.size _ _ _ _ _ _ (BZ2.out _ (by first | exact HX.out | exact HX.out.alloc HX.out.size _)) (GZ1.out _ (by first | exact HX.out | exact HX.out.alloc HX.out.size _))).mono ?_; rintro e wp ⟨rfl, hb⟩; rw [F6.out]; have HX := Lib.hid (show Below wr.heap.size wr wp from by first | exact HX.out.trans (hb.mono HX.out.size) | exact (HX.out.alloc HX.out.size _).trans (hb.mono (HX.out.alloc HX.out.size _).size)); have hk := (bcell HX.out).1; have hlt := Nat.lt_of_lt_of_le hVw HX.out.size; have hlt5 := Nat.lt_of_lt_of_le hp5 HX.out.size; have HBE := Lib.hid hb; clear hb; have e12q := (HBE.out.block P12 (Array.getElem?_eq_some_iff.1 HB12.out).1).trans HB12.out; have e12a := blk_cell (j := 0) e12q; have e12b := blk_cell (j := 1) e12q; have f12a := blk_frozen e12q 0; have f12b := blk_frozen e12q 1; clear e12q)
              | fail)
            have hbp := (HBE.out.block P12 (Array.getElem?_eq_some_iff.1 HB12.out).1).trans HB12.out
            have k0 := (HBE.out.cell (p := ⟨P10, 0, none⟩) (lt_of_cell K0.out)).trans K0.out
            have k1 := (HBE.out.cell (p := ⟨P10, 1, none⟩) (lt_of_cell K1.out)).trans K1.out
            obtain ⟨j0, j1, hBZ⟩ := stored2 hbp (.int .i64 pl) (.int .i64 ph) HX.out (show wr.heap.size ≤ P12 from HVP12.out)
            have i0 : ((wp.setCell ⟨P12, 0, none⟩ (.int .i64 pl)).setCell ⟨P12, 1, none⟩ (.int .i64 ph)).cell? ⟨P10, 0, none⟩ = some (.int .i64 ol) := (World.cell?_of_block ((Below.heap_setCell _ _ _ _ (Ne.symm HNE.out)).trans (Below.heap_setCell _ _ _ _ (Ne.symm HNE.out)))).trans k0
            have i1 : ((wp.setCell ⟨P12, 0, none⟩ (.int .i64 pl)).setCell ⟨P12, 1, none⟩ (.int .i64 ph)).cell? ⟨P10, 1, none⟩ = some (.int .i64 oh) := (World.cell?_of_block ((Below.heap_setCell _ _ _ _ (Ne.symm HNE.out)).trans (Below.heap_setCell _ _ _ _ (Ne.symm HNE.out)))).trans k1
            obtain ⟨Z2, hZ2⟩ : ∃ Z, (wp.setCell ⟨P12, 0, none⟩ (.int .i64 pl)).setCell ⟨P12, 1, none⟩ (.int .i64 ph) = Z := ⟨_, rfl⟩
            rw [hZ2] at j0 j1 i0 i1 hBZ ⊢
            have HX := Lib.hid hBZ
            have hk := (bcell hBZ).1
            have hlt := Nat.lt_of_lt_of_le hVw hBZ.size
            have hlt5 := Nat.lt_of_lt_of_le hp5 hBZ.size
            have l10 : P10 < Z2.heap.size := lt_of_cell i0
            have l12 : P12 < Z2.heap.size := lt_of_cell j0
            clear hBZ hZ2 k0 k1 hbp e12a e12b f12a f12b
            rcases HFI.out with ⟨hx4, hb0⟩ | ⟨hx0, hb0, hle⟩
            · replace hx4 : ex = 4 := hx4
              subst hx4
              clear hb0
              go_upto_region 23 with (first
                | (go_at_call 34; refine (first_ex _ b n _ _ _ _ _ _ (BZ1.out _ (by first | exact HX.out | exact HX.out.alloc HX.out.size _)) (GZ1.out _ (by first | exact HX.out | exact HX.out.alloc HX.out.size _))).mono ?_; rintro e wq ⟨rfl, hb⟩; rw [F7.out]; have HX := Lib.hid (show Below wr.heap.size wr wq from by first | exact HX.out.trans (hb.mono HX.out.size) | exact (HX.out.alloc HX.out.size _).trans (hb.mono (HX.out.alloc HX.out.size _).size)); have hk := (bcell HX.out).1; have hlt := Nat.lt_of_lt_of_le hVw HX.out.size; have hlt5 := Nat.lt_of_lt_of_le hp5 HX.out.size; have HBE := Lib.hid hb; clear hb; have i0 := (HBE.out.cell (p := ⟨P10, 0, none⟩) l10).trans i0; have i1 := (HBE.out.cell (p := ⟨P10, 1, none⟩) l10).trans i1; have j0 := (HBE.out.cell (p := ⟨P12, 0, none⟩) l12).trans j0; have j1 := (HBE.out.cell (p := ⟨P12, 1, none⟩) l12).trans j1; have l10 := Nat.lt_of_lt_of_le l10 HBE.out.size; have l12 := Nat.lt_of_lt_of_le l12 HBE.out.size)
                | fail)
              go_upto_region 24 with (first
                | (go_at_call 34; refine (first_ex _ (b.later (y : Int)) wr.heap.size _ _ _ _ _ _ (BZ2.out _ (by first | exact HX.out | exact HX.out.alloc HX.out.size _)) (GZ1.out _ (by first | exact HX.out | exact HX.out.alloc HX.out.size _))).mono ?_; rintro e wu ⟨rfl, hb⟩; rw [F8.out]; have HX := Lib.hid (show Below wr.heap.size wr wu from by first | exact HX.out.trans (hb.mono HX.out.size) | exact (HX.out.alloc HX.out.size _).trans (hb.mono (HX.out.alloc HX.out.size _).size)); have hk := (bcell HX.out).1; have hlt := Nat.lt_of_lt_of_le hVw HX.out.size; have hlt5 := Nat.lt_of_lt_of_le hp5 HX.out.size; have HBE := Lib.hid hb; clear hb; have i0 := (HBE.out.cell (p := ⟨P10, 0, none⟩) l10).trans i0; have i1 := (HBE.out.cell (p := ⟨P10, 1, none⟩) l10).trans i1; have j0 := (HBE.out.cell (p := ⟨P12, 0, none⟩) l12).trans j0; have j1 := (HBE.out.cell (p := ⟨P12, 1, none⟩) l12).trans j1; have l10 := Nat.lt_of_lt_of_le l10 HBE.out.size; have l12 := Nat.lt_of_lt_of_le l12 HBE.out.size)
                | fail)
              go_wp2_with (first
                | (go_at_call 25; refine (billed_any _ (GZ1.out _ (by first | exact HX.out | exact HX.out.alloc HX.out.size _))).mono ?_; rintro e wz ⟨rfl, hb⟩; have HX := Lib.hid (show Below wr.heap.size wr wz from by first | exact HX.out.trans (hb.mono HX.out.size) | exact (HX.out.alloc HX.out.size _).trans (hb.mono (HX.out.alloc HX.out.size _).size)); have hk := (bcell HX.out).1; have hlt := Nat.lt_of_lt_of_le hVw HX.out.size; have hlt5 := Nat.lt_of_lt_of_le hp5 HX.out.size; have HBE := Lib.hid hb; clear hb)
                | fail)
              go_ret
              exact ⟨rfl, HBW.out.trans (HX.out.mono HBW.out.size)⟩
            · replace hx0 : ex = 0 := hx0
              replace hb0 : eb = 0 := hb0
              replace hle : fb ≤ fx := hle
              subst hx0
              subst hb0
              go_upto_region 23 with (first
                | (go_at_call 34; refine (first_ex _ b n _ _ _ _ _ _ (BZ1.out _ (by first | exact HX.out | exact HX.out.alloc HX.out.size _)) (GZ1.out _ (by first | exact HX.out | exact HX.out.alloc HX.out.size _))).mono ?_; rintro e wq ⟨rfl, hb⟩; rw [F7.out]; have HX := Lib.hid (show Below wr.heap.size wr wq from by first | exact HX.out.trans (hb.mono HX.out.size) | exact (HX.out.alloc HX.out.size _).trans (hb.mono (HX.out.alloc HX.out.size _).size)); have hk := (bcell HX.out).1; have hlt := Nat.lt_of_lt_of_le hVw HX.out.size; have hlt5 := Nat.lt_of_lt_of_le hp5 HX.out.size; have HBE := Lib.hid hb; clear hb; have i0 := (HBE.out.cell (p := ⟨P10, 0, none⟩) l10).trans i0; have i1 := (HBE.out.cell (p := ⟨P10, 1, none⟩) l10).trans i1; have j0 := (HBE.out.cell (p := ⟨P12, 0, none⟩) l12).trans j0; have j1 := (HBE.out.cell (p := ⟨P12, 1, none⟩) l12).trans j1; have l10 := Nat.lt_of_lt_of_le l10 HBE.out.size; have l12 := Nat.lt_of_lt_of_le l12 HBE.out.size)
                | fail)
              go_upto_region 24 with (first
                | (go_at_call 34; refine (first_ex _ (b.later (y : Int)) wr.heap.size _ _ _ _ _ _ (BZ2.out _ (by first | exact HX.out | exact HX.out.alloc HX.out.size _)) (GZ1.out _ (by first | exact HX.out | exact HX.out.alloc HX.out.size _))).mono ?_; rintro e wu ⟨rfl, hb⟩; rw [F8.out]; have HX := Lib.hid (show Below wr.heap.size wr wu from by first | exact HX.out.trans (hb.mono HX.out.size) | exact (HX.out.alloc HX.out.size _).trans (hb.mono (HX.out.alloc HX.out.size _).size)); have hk := (bcell HX.out).1; have hlt := Nat.lt_of_lt_of_le hVw HX.out.size; have hlt5 := Nat.lt_of_lt_of_le hp5 HX.out.size; have HBE := Lib.hid hb; clear hb; have i0 := (HBE.out.cell (p := ⟨P10, 0, none⟩) l10).trans i0; have i1 := (HBE.out.cell (p := ⟨P10, 1, none⟩) l10).trans i1; have j0 := (HBE.out.cell (p := ⟨P12, 0, none⟩) l12).trans j0; have j1 := (HBE.out.cell (p := ⟨P12, 1, none⟩) l12).trans j1; have l10 := Nat.lt_of_lt_of_le l10 HBE.out.size; have l12 := Nat.lt_of_lt_of_le l12 HBE.out.size)
                | fail)
              go_wp2_with (first
                | (go_at_call 25; refine (billed_any _ (GZ1.out _ (by first | exact HX.out | exact HX.out.alloc HX.out.size _))).mono ?_; rintro e wz ⟨rfl, hb⟩; have HX := Lib.hid (show Below wr.heap.size wr wz from by first | exact HX.out.trans (hb.mono HX.out.size) | exact (HX.out.alloc HX.out.size _).trans (hb.mono (HX.out.alloc HX.out.size _).size)); have hk := (bcell HX.out).1; have hlt := Nat.lt_of_lt_of_le hVw HX.out.size; have hlt5 := Nat.lt_of_lt_of_le hp5 HX.out.size; have HBE := Lib.hid hb; clear hb)
                | fail)
              go_ret
              exact ⟨rfl, HBW.out.trans (HX.out.mono HBW.out.size)⟩
end Go.Proofs.YtbhjfojbjpbdbaaDoor
