/-
  Merged: A3, A4, A5, A6, A7, A8. Written by sessions of this seat.
-/
import Derived.Test.YtbhjfojbjpbdbaaDoorK0
import Derived.Deep.RegionHeld3
import Derived.Laws.EntriesVeiled
import Derived.Deep.DeepFit
import Derived.Deep.DeepMust
import Derived.ChangeKeysEq

-- A3: Contracts of package claim on truths in memory: sum, waiting, last, late, told. Written by a session.
namespace Go.Proofs.YtbhjfojbjpbdbaaDoor
open Go.RowKit

def Tr.cells (t : Tr) : List Value := [.int .i64 t.w, .int .i64 t.a0, .int .i64 t.a1, .int .i64 t.a2, .int .i64 t.b0, .int .i64 t.b1, .int .i64 t.b2]
def trCells (l : List Tr) : List (List Value) := l.map Tr.cells
/-- the cells of a book in the calculation. -/
def Bk.cells9 (b : Bk) (s k m t : Value) : List Value := [s, .int .i64 b.wth, .int .i64 b.c0, .int .i64 b.c1, .int .i64 b.c2, k, .int .i64 b.rate, m, t]

/-- the bounds of a truth's numbers. -/
def TrOk (t : Tr) : Prop := (0 ≤ t.w ∧ t.w ≤ 2) ∧ (0 ≤ t.a0 ∧ t.a0 ≤ 1000) ∧ (0 ≤ t.a1 ∧ t.a1 ≤ 1000) ∧ (0 ≤ t.a2 ∧ t.a2 ≤ 1000) ∧ (0 ≤ t.b0 ∧ t.b0 ≤ 30) ∧ (0 ≤ t.b1 ∧ t.b1 ≤ 30) ∧ (0 ≤ t.b2 ∧ t.b2 ≤ 30)

/-- the value of a function of a truth: what it computes, from this world on. -/
def FnOf (W : World) (g : Nat) (first captured : Array Value) (f : Tr → Int) : Prop :=
  ∀ (t : Tr) (W1 : World), TrOk t → Below W.heap.size W W1 → Calls Tryd.prog g (first.push (.agg t.cells.toArray) ++ captured) W1 fun e W2 => e = .returned (.int .i64 (f t)) ∧ Below W1.heap.size W1 W2
def Enters (g : Nat) : Prop := ∀ args w, (callFunc g args).run Tryd.prog w = .ok (.enter g args) w

theorem cell_old {w : World} {o : Obj} {p : Addr} (h : p.block < w.heap.size) : (w.alloc o).cell? p = w.cell? p := World.cell?_of_block (w := w) (Below.heap_alloc w o p.block h)
theorem cell_new {w : World} {c : Array Value} {T : TypeId} {j : Nat} : (w.alloc (.cells c T)).cell? ⟨w.heap.size, j, none⟩ = c[j]? := by
  unfold World.cell?
  rw [World.alloc_heap_new]
  rfl
theorem cell_new' {w : World} {c : Array Value} {T : TypeId} {b j : Nat} (h : b = w.heap.size) : (w.alloc (.cells c T)).cell? ⟨b, j, none⟩ = c[j]? := by subst h; exact cell_new

/-- what a region's loads read lies below the heap's size at its begin. -/
theorem hs0 (W0 : World) : (∀ b o, b < W0.heap.size → W0.drew.cell? ⟨b, o, none⟩ = W0.cell? ⟨b, o, none⟩) ∧ Below W0.heap.size W0 W0.drew :=
  ⟨fun _ _ _ => rfl, (Below.refl _ _).drew⟩
theorem hs1 {W0 w1 w2 : World} (h2 : Below w1.heap.size w1 w2) (h : (∀ b o, b < W0.heap.size → w1.cell? ⟨b, o, none⟩ = W0.cell? ⟨b, o, none⟩) ∧ Below W0.heap.size W0 w1) : (∀ b o, b < W0.heap.size → w2.cell? ⟨b, o, none⟩ = W0.cell? ⟨b, o, none⟩) ∧ Below W0.heap.size W0 w2 :=
  have hb := h.2.trans (h2.mono h.2.size)
  ⟨fun b o hlt => hb.cell (p := ⟨b, o, none⟩) hlt, hb⟩

/-- the same, where one block may be written. -/
theorem hu0 (B : Nat) (V : World) : (∀ b o, b < V.heap.size → b ≠ B → V.drew.cell? ⟨b, o, none⟩ = V.cell? ⟨b, o, none⟩) ∧ Upd (· = B) V V.drew :=
  ⟨fun _ _ _ _ => rfl, (Upd.refl _ _).drew⟩
theorem hu1 {B : Nat} {V w1 w2 : World} (h2 : Below w1.heap.size w1 w2) (h : (∀ b o, b < V.heap.size → b ≠ B → w1.cell? ⟨b, o, none⟩ = V.cell? ⟨b, o, none⟩) ∧ Upd (· = B) V w1) :
    (∀ b o, b < V.heap.size → b ≠ B → w2.cell? ⟨b, o, none⟩ = V.cell? ⟨b, o, none⟩) ∧ Upd (· = B) V w2 :=
  have hb := h.2.trans (Upd.of_below h2)
  ⟨fun b o hlt hne => hb.cell (p := ⟨b, o, none⟩) hlt hne, hb⟩
theorem hu2 {B : Nat} {V w1 : World} {j : Nat} {v : Value} (h : (∀ b o, b < V.heap.size → b ≠ B → w1.cell? ⟨b, o, none⟩ = V.cell? ⟨b, o, none⟩) ∧ Upd (· = B) V w1) :
    (∀ b o, b < V.heap.size → b ≠ B → (w1.setCell ⟨B, j, none⟩ v).cell? ⟨b, o, none⟩ = V.cell? ⟨b, o, none⟩) ∧ Upd (· = B) V (w1.setCell ⟨B, j, none⟩ v) :=
  have hb := h.2.setCell (p := ⟨B, j, none⟩) (.inl rfl) v
  ⟨fun b o hlt hne => hb.cell (p := ⟨b, o, none⟩) hlt hne, hb⟩

theorem mn_eq (a b : Int) : (if b < a then b else a) = min a b := by omega
theorem mx_eq (a b : Int) : (if a < b then b else a) = max a b := by omega

/-- a block of its own: its cells. -/
theorem blk_cell {w : World} {B j : Nat} {c : Array Value} {T : TypeId} (h : w.heap[B]? = some (.cells c T)) : w.cell? ⟨B, j, none⟩ = c[j]? := by unfold World.cell?; rw [h]; rfl
theorem blk_frozen {w : World} {B : Nat} {c : Array Value} {T : TypeId} (h : w.heap[B]? = some (.cells c T)) (j : Nat) : w.frozen? ⟨B, j, none⟩ = false := by unfold World.frozen?; rw [h]; simp
theorem blk_set {w : World} {B j : Nat} {c : Array Value} {T : TypeId} {v : Value} (h : w.heap[B]? = some (.cells c T)) : (w.setCell ⟨B, j, none⟩ v).heap[B]? = some (.cells (c.setIfInBounds j v) T) := by
  have hlt := (Array.getElem?_eq_some_iff.1 h).1
  show (w.heap.modify B _)[B]? = _
  rw [Array.getElem?_modify, if_pos rfl, h]
  rfl

set_option maxRecDepth 100000 in
set_option maxHeartbeats 400000 in
theorem told_any (W : World) (b : Bk) (s k m tv : Value) (l : List Tr) (n g : Nat) (first captured : Array Value) (f : Tr → Int) (hn : n ≤ W.heap.size)
    (ht : SlOf W n 7 tv (trCells l)) (hl : l ≠ []) (hok : ∀ t ∈ l, TrOk t) (hf : FnOf W g first captured f) (he : Enters g) :
    Calls Tryd.prog 83 #[.agg (b.cells9 s k m tv).toArray, .agg #[.func (.func g) first captured]] W fun e W' =>
      e = .returned (.agg #[.int .i64 (toldLo f l), .int .i64 (toldHi f l)]) ∧ Below W.heap.size W W' := by
  obtain ⟨ta, tcap, rfl, ht1, ht2, ht3, ht4⟩ := ht
  have H4 := Lib.hid ht4
  clear ht4 ht3
  unfold maxLen at ht2
  simp only [Bk.cells9]
  go_enter Tryd.func83, Tryd.ntmps83
  go_wp2_with fail
  obtain ⟨t0, l', rfl⟩ : ∃ t0 l', l = t0 :: l' := by cases l with | nil => exact absurd rfl hl | cons a b => exact ⟨a, b, rfl⟩
  have HOK := Lib.hid hok
  have ok0 := hok t0 (by simp)
  clear hok
  obtain ⟨g0, q0, e0, hg0, hc0⟩ := sl_at (k := 0) H4.out (show (trCells (t0 :: l'))[0]? = some t0.cells by simp [trCells])
  subst e0
  obtain ⟨W0, hW0⟩ : ∃ W0, ((W.alloc (Obj.cells #[s, Value.int IntKind.i64 b.wth, Value.int IntKind.i64 b.c0, Value.int IntKind.i64 b.c1, Value.int IntKind.i64 b.c2, k, Value.int IntKind.i64 b.rate, m, Value.slice (some ⟨g0, q0, none⟩) (trCells (t0 :: l')).length tcap] 79)).alloc (Obj.cells #[Value.func (Fn.func g) first captured] 107)).alloc (Obj.cells #[Value.int IntKind.i64 0, Value.int IntKind.i64 0] 32) = W0 := ⟨_, rfl⟩
  rw [hW0]
  have hB0 : Below W.heap.size W W0 := by rw [← hW0]; exact (((Below.refl _ _).alloc (Nat.le_refl _) _).alloc (by simp) _).alloc (by simp; omega) _
  have hz0 : W0.heap.size = W.heap.size + 1 + 1 + 1 := by rw [← hW0]; simp
  have z0 : W0.cell? ⟨W.heap.size, 8, none⟩ = some (Value.slice (some ⟨g0, q0, none⟩) (trCells (t0 :: l')).length tcap) := by rw [← hW0, cell_old (by simp; omega), cell_old (by simp), cell_new]; rfl
  have z1 : W0.cell? ⟨W.heap.size + 1, 0, none⟩ = some (Value.func (Fn.func g) first captured) := by rw [← hW0, cell_old (by simp), cell_new' (by simp)]; rfl
  have hr : ∀ j c, t0.cells[j]? = some c → W0.cell? ⟨g0, q0 + 0 * 7 + j, none⟩ = some c := fun j c hj => (hB0.cell (p := ⟨g0, _, none⟩) (by show g0 < _; omega)).trans (hc0 j c hj)
  have r0 : W0.cell? ⟨g0, q0, none⟩ = some (.int .i64 t0.w) := hr 0 _ rfl
  have r1 : W0.cell? ⟨g0, q0 + 1, none⟩ = some (.int .i64 t0.a0) := hr 1 _ rfl
  have r2 : W0.cell? ⟨g0, q0 + 2, none⟩ = some (.int .i64 t0.a1) := hr 2 _ rfl
  have r3 : W0.cell? ⟨g0, q0 + 3, none⟩ = some (.int .i64 t0.a2) := hr 3 _ rfl
  have r4 : W0.cell? ⟨g0, q0 + 4, none⟩ = some (.int .i64 t0.b0) := hr 4 _ rfl
  have r5 : W0.cell? ⟨g0, q0 + 5, none⟩ = some (.int .i64 t0.b1) := hr 5 _ rfl
  have r6 : W0.cell? ⟨g0, q0 + 6, none⟩ = some (.int .i64 t0.b2) := hr 6 _ rfl
  have l0 : W.heap.size < W0.heap.size := by omega
  have l1 : W.heap.size + 1 < W0.heap.size := by omega
  have l2 : g0 < W0.heap.size := by omega
  have hlen : 0 < (trCells (t0 :: l')).length := by simp [trCells]
  have HF := Lib.hid hf
  have HW := Lib.hid hW0
  have HZ := Lib.hid hz0
  clear hr hf hW0 hz0
  unfold Enters at he
  go_upto_region 1 with fail
  go_cut [5] (fun s5 wx => s5 = .int .i64 (f t0) ∧ Below W0.heap.size W0 wx)
  case first =>
    go_region_held3 (fun w' => (∀ b o, b < W0.heap.size → w'.cell? ⟨b, o, none⟩ = W0.cell? ⟨b, o, none⟩) ∧ Below W0.heap.size W0 w') (first | exact hs0 _ | exact hs1 (by assumption) (by assumption))
      (first | (refine (HF.out t0 _ ok0 (hB0.trans (Below.mono (And.right (by assumption)) hB0.size))).mono ?_; rintro e w' ⟨rfl, hbb⟩))
    go_wp2_with fail
    go_meet
    exact ⟨rfl, And.right (by assumption)⟩
  case rest =>
    obtain ⟨rfl, hbx⟩ := hcut
    have hsz := hbx.size
    have z0 : wc.cell? ⟨W.heap.size, 8, none⟩ = some (Value.slice (some ⟨g0, q0, none⟩) (trCells (t0 :: l')).length tcap) := (hbx.cell (p := ⟨W.heap.size, 8, none⟩) l0).trans z0
    have z1 : wc.cell? ⟨W.heap.size + 1, 0, none⟩ = some (Value.func (Fn.func g) first captured) := (hbx.cell (p := ⟨W.heap.size + 1, 0, none⟩) l1).trans z1
    have l0 : W.heap.size < wc.heap.size := by omega
    have l1 : W.heap.size + 1 < wc.heap.size := by omega
    have hbw : Below W.heap.size W wc := hB0.trans (hbx.mono hB0.size)
    have hR : wc.heap[W.heap.size + 1 + 1]? = some (.cells #[Value.int IntKind.i64 0, Value.int IntKind.i64 0] 32) := by
      rw [hbx.block _ (by have := HZ.out; omega), ← HW.out]
      exact (by simp : (((W.alloc _).alloc _).heap.size) = W.heap.size + 1 + 1) ▸ World.alloc_heap_new _ _
    have l3 : W.heap.size + 1 + 1 < wc.heap.size := (Array.getElem?_eq_some_iff.1 hR).1
    have HR := Lib.hid hR
    clear r0 r1 r2 r3 r4 r5 r6 hbx hB0 HW hR
    go_wp2_with fail
    go_loopg [22] (trCells (t0 :: l')).length (fun n i wx => ∃ (k : Nat) (lo hi : Int), k ≤ (trCells (t0 :: l')).length ∧ n = (trCells (t0 :: l')).length - k ∧ i = .int .i64 k ∧ Below wc.heap.size wc wx ∧ wx.heap[wc.heap.size]? = some (.cells #[.int .i64 lo, .int .i64 hi] 32) ∧ minL f lo ((t0 :: l').drop k) = toldLo f (t0 :: l') ∧ maxL f hi ((t0 :: l').drop k) = toldHi f (t0 :: l'))
    case atStart => exact ⟨0, _, _, by omega, rfl, rfl, (Below.refl _ _).alloc (Nat.le_refl _) _, World.alloc_heap_new _ _, rfl, rfl⟩
    case round =>
      obtain ⟨k, lo, hi, hk, hgk, rfl, hbr, hO, hlo, hhi⟩ := hrel
      have HG := Lib.hid hgk
      have HLO := Lib.hid hlo
      have HHI := Lib.hid hhi
      clear hgk hlo hhi
      by_cases hlt : k < (trCells (t0 :: l')).length
      · have hlt' : k < (t0 :: l').length := by simpa [trCells] using hlt
        obtain ⟨x, hx⟩ : ∃ x, (t0 :: l')[k]? = some x := ⟨_, List.getElem?_eq_getElem hlt'⟩
        obtain ⟨g1, q1, e1, hg1, hcs⟩ := sl_at H4.out (show (trCells (t0 :: l'))[k]? = some x.cells by rw [trCells, List.getElem?_map, hx]; rfl)
        cases e1
        have okx := HOK.out x (List.mem_of_getElem? hx)
        have hdr : (t0 :: l').drop k = x :: (t0 :: l').drop (k + 1) := by
          rw [List.drop_eq_getElem_cons hlt']; rw [List.getElem?_eq_getElem hlt'] at hx; cases hx; rfl
        have HD := Lib.hid hdr
        clear hx hdr
        have hr : ∀ j c, x.cells[j]? = some c → wr.cell? ⟨g0, q0 + k * 7 + j, none⟩ = some c := fun j c hj =>
          (hbr.cell (p := ⟨g0, q0 + k * 7 + j, none⟩) (by show g0 < _; omega)).trans ((hbw.cell (p := ⟨g0, q0 + k * 7 + j, none⟩) (by show g0 < _; omega)).trans (hcs j c hj))
        have r0 : wr.cell? ⟨g0, q0 + k * 7, none⟩ = some (.int .i64 x.w) := hr 0 _ rfl
        have r1 : wr.cell? ⟨g0, q0 + k * 7 + 1, none⟩ = some (.int .i64 x.a0) := hr 1 _ rfl
        have r2 : wr.cell? ⟨g0, q0 + k * 7 + 2, none⟩ = some (.int .i64 x.a1) := hr 2 _ rfl
        have r3 : wr.cell? ⟨g0, q0 + k * 7 + 3, none⟩ = some (.int .i64 x.a2) := hr 3 _ rfl
        have r4 : wr.cell? ⟨g0, q0 + k * 7 + 4, none⟩ = some (.int .i64 x.b0) := hr 4 _ rfl
        have r5 : wr.cell? ⟨g0, q0 + k * 7 + 5, none⟩ = some (.int .i64 x.b1) := hr 5 _ rfl
        have r6 : wr.cell? ⟨g0, q0 + k * 7 + 6, none⟩ = some (.int .i64 x.b2) := hr 6 _ rfl
        have hrz := hbr.size
        have hOl : wc.heap.size < wr.heap.size := (Array.getElem?_eq_some_iff.1 hO).1
        have o0 : wr.cell? ⟨wc.heap.size, 0, none⟩ = some (.int .i64 lo) := by unfold World.cell?; rw [hO]; rfl
        have o1 : wr.cell? ⟨wc.heap.size, 1, none⟩ = some (.int .i64 hi) := by unfold World.cell?; rw [hO]; rfl
        have fO : ∀ j, wr.frozen? ⟨wc.heap.size, j, none⟩ = false := fun j => by unfold World.frozen?; rw [hO]; simp
        have z2 : wr.cell? ⟨W.heap.size + 1, 0, none⟩ = some (Value.func (Fn.func g) first captured) := (hbr.cell (p := ⟨W.heap.size + 1, 0, none⟩) l1).trans z1
        clear hr hcs
        go_upto_region 6 with fail
        obtain ⟨V, hV⟩ : ∃ V, wr.alloc (Obj.cells #[Value.int IntKind.i64 x.w, Value.int IntKind.i64 x.a0, Value.int IntKind.i64 x.a1, Value.int IntKind.i64 x.a2, Value.int IntKind.i64 x.b0, Value.int IntKind.i64 x.b1, Value.int IntKind.i64 x.b2] 87) = V := ⟨_, rfl⟩
        rw [hV]
        have hVz : V.heap.size = wr.heap.size + 1 := by rw [← hV]; simp
        have hVB : Below wc.heap.size wc V := by rw [← hV]; exact hbr.alloc hrz _
        have hVO : V.heap[wc.heap.size]? = some (.cells #[.int .i64 lo, .int .i64 hi] 32) := by rw [← hV]; exact (Below.heap_alloc _ _ _ hOl).trans hO
        have hVx : V.heap[wr.heap.size]? = some (.cells #[Value.int IntKind.i64 x.w, Value.int IntKind.i64 x.a0, Value.int IntKind.i64 x.a1, Value.int IntKind.i64 x.a2, Value.int IntKind.i64 x.b0, Value.int IntKind.i64 x.b1, Value.int IntKind.i64 x.b2] 87) := by rw [← hV]; exact World.alloc_heap_new _ _
        have x0 : V.cell? ⟨wr.heap.size, 0, none⟩ = some (.int .i64 x.w) := blk_cell hVx
        have x1 : V.cell? ⟨wr.heap.size, 1, none⟩ = some (.int .i64 x.a0) := blk_cell hVx
        have x2 : V.cell? ⟨wr.heap.size, 2, none⟩ = some (.int .i64 x.a1) := blk_cell hVx
        have x3 : V.cell? ⟨wr.heap.size, 3, none⟩ = some (.int .i64 x.a2) := blk_cell hVx
        have x4 : V.cell? ⟨wr.heap.size, 4, none⟩ = some (.int .i64 x.b0) := blk_cell hVx
        have x5 : V.cell? ⟨wr.heap.size, 5, none⟩ = some (.int .i64 x.b1) := blk_cell hVx
        have x6 : V.cell? ⟨wr.heap.size, 6, none⟩ = some (.int .i64 x.b2) := blk_cell hVx
        have o0 : V.cell? ⟨wc.heap.size, 0, none⟩ = some (.int .i64 lo) := blk_cell hVO
        have o1 : V.cell? ⟨wc.heap.size, 1, none⟩ = some (.int .i64 hi) := blk_cell hVO
        have fO := blk_frozen hVO
        have y1 : V.cell? ⟨W.heap.size + 1, 0, none⟩ = some (Value.func (Fn.func g) first captured) := (hVB.cell (p := ⟨W.heap.size + 1, 0, none⟩) l1).trans z1
        have m0 : wr.heap.size < V.heap.size := by omega
        have m1 : W.heap.size + 1 < V.heap.size := by omega
        have m2 : wr.heap.size ≠ wc.heap.size := by omega
        have m3 : W.heap.size + 1 ≠ wc.heap.size := by omega
        have hBO := Lib.hid hVO
        clear r0 r1 r2 r3 r4 r5 r6 hV hVO hVx hO z1 z2 z0 hbr hVz
        refine wp_region_det (S := fun L w' => ((∀ b o, b < V.heap.size → b ≠ wc.heap.size → w'.cell? ⟨b, o, none⟩ = V.cell? ⟨b, o, none⟩) ∧ Upd (· = wc.heap.size) V w') ∧
          w'.heap[wc.heap.size]? = some (.cells #[.int .i64 (bif L 15 then min lo (f x) else lo), .int .i64 (bif L 17 then max hi (f x) else hi)] 32)) (by kernel_rfl) (by kernel_rfl) ⟨hu0 _ _, hBO.out⟩ ?_
        apply det_cons
        · refine ⟨by rfl, fun L w hN hS => ?_⟩
          obtain ⟨⟨hcc, hu⟩, hb⟩ := hS
          go_simp
          exact ⟨rfl, fun L' _ h2 => ⟨⟨hcc, hu⟩, by rw [h2 15 (by decide), h2 17 (by decide)]; exact hb⟩⟩
        try simp only [Act.put, List.setIfInBounds_toArray, List.set_cons_zero, List.set_cons_succ]
        apply det_cons
        · refine ⟨by rfl, fun L w hN hS => ?_⟩
          obtain ⟨⟨hcc, hu⟩, hb⟩ := hS
          have e := hN.not_yet (j := 15) (by kernel_rfl)
          have o0 : w.cell? ⟨wc.heap.size, 0, none⟩ = some (.int .i64 lo) := by have h := blk_cell (j := 0) hb; rw [e] at h; exact h
          go_simp
          exact ⟨rfl, fun L' _ h2 => ⟨⟨hcc, hu⟩, by rw [h2 15 (by decide), h2 17 (by decide)]; exact hb⟩⟩
        try simp only [Act.put, List.setIfInBounds_toArray, List.set_cons_zero, List.set_cons_succ]
        apply det_cons
        · refine ⟨by rfl, fun L w hN hS => ?_⟩
          obtain ⟨⟨hcc, hu⟩, hb⟩ := hS
          go_simp
          exact ⟨rfl, fun L' _ h2 => ⟨⟨hcc, hu⟩, by rw [h2 15 (by decide), h2 17 (by decide)]; exact hb⟩⟩
        try simp only [Act.put, List.setIfInBounds_toArray, List.set_cons_zero, List.set_cons_succ]
        apply det_cons
        · refine ⟨by rfl, fun L w hN hS => ?_⟩
          obtain ⟨⟨hcc, hu⟩, hb⟩ := hS
          go_simp
          exact ⟨rfl, fun L' _ h2 => ⟨⟨hcc, hu⟩, by rw [h2 15 (by decide), h2 17 (by decide)]; exact hb⟩⟩
        try simp only [Act.put, List.setIfInBounds_toArray, List.set_cons_zero, List.set_cons_succ]
        apply det_cons
        · refine ⟨by rfl, fun L w hN hS => ?_⟩
          obtain ⟨⟨hcc, hu⟩, hb⟩ := hS
          go_simp
          exact ⟨rfl, fun L' _ h2 => ⟨⟨hcc, hu⟩, by rw [h2 15 (by decide), h2 17 (by decide)]; exact hb⟩⟩
        try simp only [Act.put, List.setIfInBounds_toArray, List.set_cons_zero, List.set_cons_succ]
        apply det_cons
        · refine ⟨by rfl, fun L w hN hS => ?_⟩
          obtain ⟨⟨hcc, hu⟩, hb⟩ := hS
          go_simp
          refine (HF.out x _ okx ((hbw.trans (hVB.mono (by omega))).trans (hu.below (by omega) (by intro k hk1 hk2; omega)))).mono ?_
          rintro e w' ⟨rfl, hbb⟩
          have hq := hu1 hbb ⟨hcc, hu⟩
          exact ⟨rfl, fun L' _ h2 => ⟨hq, by rw [h2 15 (by decide), h2 17 (by decide), hbb.block _ ((Array.getElem?_eq_some_iff.1 hb).1)]; exact hb⟩⟩
        try simp only [Act.put, List.setIfInBounds_toArray, List.set_cons_zero, List.set_cons_succ]
        apply det_cons
        · refine ⟨by rfl, fun L w hN hS => ?_⟩
          obtain ⟨⟨hcc, hu⟩, hb⟩ := hS
          go_simp
          exact ⟨congrArg _ (mn_eq _ _), fun L' _ h2 => ⟨⟨hcc, hu⟩, by rw [h2 15 (by decide), h2 17 (by decide)]; exact hb⟩⟩
        try simp only [Act.put, List.setIfInBounds_toArray, List.set_cons_zero, List.set_cons_succ]
        apply det_cons
        · refine ⟨by rfl, fun L w hN hS => ?_⟩
          obtain ⟨⟨hcc, hu⟩, hb⟩ := hS
          go_simp
          exact ⟨rfl, fun L' _ h2 => ⟨⟨hcc, hu⟩, by rw [h2 15 (by decide), h2 17 (by decide)]; exact hb⟩⟩
        try simp only [Act.put, List.setIfInBounds_toArray, List.set_cons_zero, List.set_cons_succ]
        apply det_cons
        · refine ⟨by rfl, fun L w hN hS => ?_⟩
          obtain ⟨⟨hcc, hu⟩, hb⟩ := hS
          have e := hN.not_yet (j := 17) (by kernel_rfl)
          have o1 : w.cell? ⟨wc.heap.size, 1, none⟩ = some (.int .i64 hi) := by have h := blk_cell (j := 1) hb; rw [e] at h; exact h
          go_simp
          exact ⟨rfl, fun L' _ h2 => ⟨⟨hcc, hu⟩, by rw [h2 15 (by decide), h2 17 (by decide)]; exact hb⟩⟩
        try simp only [Act.put, List.setIfInBounds_toArray, List.set_cons_zero, List.set_cons_succ]
        apply det_cons
        · refine ⟨by rfl, fun L w hN hS => ?_⟩
          obtain ⟨⟨hcc, hu⟩, hb⟩ := hS
          go_simp
          exact ⟨rfl, fun L' _ h2 => ⟨⟨hcc, hu⟩, by rw [h2 15 (by decide), h2 17 (by decide)]; exact hb⟩⟩
        try simp only [Act.put, List.setIfInBounds_toArray, List.set_cons_zero, List.set_cons_succ]
        apply det_cons
        · refine ⟨by rfl, fun L w hN hS => ?_⟩
          obtain ⟨⟨hcc, hu⟩, hb⟩ := hS
          go_simp
          exact ⟨rfl, fun L' _ h2 => ⟨⟨hcc, hu⟩, by rw [h2 15 (by decide), h2 17 (by decide)]; exact hb⟩⟩
        try simp only [Act.put, List.setIfInBounds_toArray, List.set_cons_zero, List.set_cons_succ]
        apply det_cons
        · refine ⟨by rfl, fun L w hN hS => ?_⟩
          obtain ⟨⟨hcc, hu⟩, hb⟩ := hS
          go_simp
          exact ⟨rfl, fun L' _ h2 => ⟨⟨hcc, hu⟩, by rw [h2 15 (by decide), h2 17 (by decide)]; exact hb⟩⟩
        try simp only [Act.put, List.setIfInBounds_toArray, List.set_cons_zero, List.set_cons_succ]
        apply det_cons
        · refine ⟨by rfl, fun L w hN hS => ?_⟩
          obtain ⟨⟨hcc, hu⟩, hb⟩ := hS
          go_simp
          refine (HF.out x _ okx ((hbw.trans (hVB.mono (by omega))).trans (hu.below (by omega) (by intro k hk1 hk2; omega)))).mono ?_
          rintro e w' ⟨rfl, hbb⟩
          have hq := hu1 hbb ⟨hcc, hu⟩
          exact ⟨rfl, fun L' _ h2 => ⟨hq, by rw [h2 15 (by decide), h2 17 (by decide), hbb.block _ ((Array.getElem?_eq_some_iff.1 hb).1)]; exact hb⟩⟩
        try simp only [Act.put, List.setIfInBounds_toArray, List.set_cons_zero, List.set_cons_succ]
        apply det_cons
        · refine ⟨by rfl, fun L w hN hS => ?_⟩
          obtain ⟨⟨hcc, hu⟩, hb⟩ := hS
          go_simp
          exact ⟨congrArg _ (mx_eq _ _), fun L' _ h2 => ⟨⟨hcc, hu⟩, by rw [h2 15 (by decide), h2 17 (by decide)]; exact hb⟩⟩
        try simp only [Act.put, List.setIfInBounds_toArray, List.set_cons_zero, List.set_cons_succ]
        apply det_cons
        · refine ⟨by rfl, fun L w hN hS => ?_⟩
          obtain ⟨⟨hcc, hu⟩, hb⟩ := hS
          go_simp
          exact ⟨rfl, fun L' _ h2 => ⟨⟨hcc, hu⟩, by rw [h2 15 (by decide), h2 17 (by decide)]; exact hb⟩⟩
        try simp only [Act.put, List.setIfInBounds_toArray, List.set_cons_zero, List.set_cons_succ]
        apply det_cons
        · refine ⟨by rfl, fun L w hN hS => ?_⟩
          obtain ⟨⟨hcc, hu⟩, hb⟩ := hS
          have fz := blk_frozen hb
          have oc : w.cell? ⟨wc.heap.size, 0, none⟩ = some _ := blk_cell (j := 0) hb
          have hs := blk_set (j := 0) (v := .int .i64 (min lo (f x))) hb
          have HS := Lib.hid hs
          have HB := Lib.hid hb
          clear hs hb
          go_simp
          exact ⟨rfl, fun L' h1 h2 => ⟨⟨fun b o hb1 hb2 => ((hu.setCell (p := ⟨wc.heap.size, 0, none⟩) (.inl rfl) _).cell (p := ⟨b, o, none⟩) hb1 hb2), hu.setCell (p := ⟨wc.heap.size, 0, none⟩) (.inl rfl) _⟩, by rw [h1, h2 17 (by decide)]; exact HS.out⟩⟩
        try simp only [Act.put]
        apply det_cons
        · refine ⟨by rfl, fun L w hN hS => ?_⟩
          obtain ⟨⟨hcc, hu⟩, hb⟩ := hS
          go_simp
          exact ⟨rfl, fun L' _ h2 => ⟨⟨hcc, hu⟩, by rw [h2 15 (by decide), h2 17 (by decide)]; exact hb⟩⟩
        try simp only [Act.put, List.setIfInBounds_toArray, List.set_cons_zero, List.set_cons_succ]
        apply det_cons
        · refine ⟨by rfl, fun L w hN hS => ?_⟩
          obtain ⟨⟨hcc, hu⟩, hb⟩ := hS
          have fz := blk_frozen hb
          have oc : w.cell? ⟨wc.heap.size, 1, none⟩ = some _ := blk_cell (j := 1) hb
          have hs := blk_set (j := 1) (v := .int .i64 (max hi (f x))) hb
          have HS := Lib.hid hs
          have HB := Lib.hid hb
          clear hs hb
          go_simp
          exact ⟨rfl, fun L' h1 h2 => ⟨⟨fun b o hb1 hb2 => ((hu.setCell (p := ⟨wc.heap.size, 1, none⟩) (.inl rfl) _).cell (p := ⟨b, o, none⟩) hb1 hb2), hu.setCell (p := ⟨wc.heap.size, 1, none⟩) (.inl rfl) _⟩, by rw [h1, h2 15 (by decide)]; exact HS.out⟩⟩
        try simp only [Act.put]
        refine det_nil ?_
        rintro L w' hL ⟨⟨hcc, hu⟩, hb⟩
        rw [hL 15 (by decide), hL 17 (by decide)] at hb
        have HBF := Lib.hid hb
        clear hb hcc
        go_wp2_with fail
        go_roundg ((trCells (t0 :: l')).length - (k + 1))
        case measure => rw [HG.out]; omega
        case rel =>
          refine ⟨k + 1, _, _, hlt, rfl, by go_num, ?_, HBF.out, ?_, ?_⟩
          · exact hVB.trans (hu.below hVB.size (by intro k hk1 hk2; omega))
          · rw [← HLO.out, HD.out]; rfl
          · rw [← HHI.out, HD.out]; rfl
      · have hkl : k = (trCells (t0 :: l')).length := by omega
        have e1 : (t0 :: l').drop k = [] := by rw [List.drop_eq_nil_iff]; rw [hkl]; simp [trCells]
        have e2 : lo = toldLo f (t0 :: l') := by rw [← HLO.out, e1]; rfl
        have e3 : hi = toldHi f (t0 :: l') := by rw [← HHI.out, e1]; rfl
        subst e2 e3
        have hrz := hbr.size
        have hOl : wc.heap.size < wr.heap.size := (Array.getElem?_eq_some_iff.1 hO).1
        have o0 : wr.cell? ⟨wc.heap.size, 0, none⟩ = some (.int .i64 (toldLo f (t0 :: l'))) := blk_cell hO
        have o1 : wr.cell? ⟨wc.heap.size, 1, none⟩ = some (.int .i64 (toldHi f (t0 :: l'))) := blk_cell hO
        have hR : wr.heap[W.heap.size + 1 + 1]? = some (.cells #[Value.int IntKind.i64 0, Value.int IntKind.i64 0] 32) := (hbr.block _ l3).trans HR.out
        have c0 : wr.cell? ⟨W.heap.size + 1 + 1, 0, none⟩ = some (.int .i64 0) := blk_cell hR
        have c1 : wr.cell? ⟨W.heap.size + 1 + 1, 1, none⟩ = some (.int .i64 0) := blk_cell hR
        have cf := blk_frozen hR
        clear hkl e1 hO HLO HHI hR
        go_wp2_with fail
        exact bodyPost_ret (v := .agg #[.int .i64 (toldLo f (t0 :: l')), .int .i64 (toldHi f (t0 :: l'))]) (by simp [results, Tryd.results83, go_sem, c0, c1]) rfl ⟨rfl, ((hbw.trans (hbr.mono (by omega))).setCell (by simp; omega) _).setCell (by simp; omega) _⟩
end Go.Proofs.YtbhjfojbjpbdbaaDoor

-- A4: Contracts of package claim: last, late, sum, owes, blame. Written by a session.
namespace Go.Proofs.YtbhjfojbjpbdbaaDoor
open Go.RowKit

set_option maxHeartbeats 400000 in
theorem last_any (W : World) (b : Bk) (s k m tv : Value) (n : Nat) (j : Nat) (hs : SlOf W n 7 s (stCells b.sts)) (hj : b.sts.length = j + 1) :
    Calls Tryd.prog 99 #[.agg (b.cells9 s k m tv).toArray] W fun e W' => e = .returned (.int .i64 (j : Int)) ∧ Below W.heap.size W W' := by
  obtain ⟨sa, scap, rfl, hs1, hs2, hs3, hs4⟩ := hs
  simp only [Bk.cells9, stCells, List.length_map] at *
  have hl : b.sts.length ≤ 9223372036854775807 := by unfold maxLen at hs2; omega
  have HJ := Lib.hid hj
  clear hs1 hs2 hs3 hs4 hj
  go_enter Tryd.func99, Tryd.ntmps99
  go_wp2
  go_ret
  exact ⟨ret_int (by have := HJ.out; omega), (Below.refl _ _).alloc (Nat.le_refl _) _⟩

theorem tr_cell_a {W : World} {B : Nat} (t : Tr) (h : W.heap[B]? = some (.cells t.cells.toArray 87)) {k : Nat} (hk : k < 3) : W.cell? ⟨B, 1 + k, none⟩ = some (.int .i64 (t.comes k)) := by
  rw [blk_cell h]
  have hkk : k = 0 ∨ k = 1 ∨ k = 2 := by omega
  rcases hkk with rfl | rfl | rfl <;> rfl

set_option maxRecDepth 100000 in
set_option maxHeartbeats 400000 in
theorem late_any (W : World) (b : Bk) (s k m tv : Value) (n : Nat) (t : Tr) (j : Nat) (hn : n ≤ W.heap.size) (hs : SlOf W n 7 s (stCells b.sts)) (hj : j < b.sts.length) (h3 : b.sts.length ≤ 3) (ht : TrOk t)
    (hd : 0 ≤ b.due j ∧ b.due j ≤ 1000) :
    Calls Tryd.prog 77 #[.agg (b.cells9 s k m tv).toArray, .agg t.cells.toArray, .int .i64 j] W fun e W' => e = .returned (.int .i64 (lateT b j t)) ∧ Below W.heap.size W W' := by
  obtain ⟨sa, scap, rfl, hs1, hs2, hs3, hs4⟩ := hs
  obtain ⟨x, hx⟩ : ∃ x, b.sts[j]? = some x := ⟨_, List.getElem?_eq_getElem hj⟩
  have hdue : b.due j = x.due := by simp [Bk.due, hx]
  rw [hdue] at hd
  obtain ⟨g, q, hsa, hg, hcs⟩ := sl_at hs4 (show (stCells b.sts)[j]? = some x.cells by simp [stCells, hx])
  subst hsa
  have hc : 0 ≤ t.comes j ∧ t.comes j ≤ 1000 := by
    have hkk : j = 0 ∨ j = 1 ∨ j = 2 := by omega
    obtain ⟨_, h0, h1, h2, _⟩ := ht
    rcases hkk with rfl | rfl | rfl <;> assumption
  have c0 : W.cell? ⟨g, q + j * 7, none⟩ = some (.int .i64 x.due) := hcs 0 _ rfl
  have hl : (j : Int) < (b.sts.length : Int) := by omega
  have hl3 : (j : Int) < 3 := by omega
  have HS : Hid (lateT b j t = max 0 (t.comes j - x.due)) := by show _ = _; unfold lateT; rw [hdue]
  clear hs1 hs2 hs3 hs4 hcs hdue hx
  simp only [Bk.cells9, stCells, List.length_map]
  go_enter Tryd.func77, Tryd.ntmps77
  go_upto_region 1 with fail
  obtain ⟨V, hV⟩ : ∃ V, (W.alloc (Obj.cells #[Value.slice (some ⟨g, q, none⟩) b.sts.length scap, Value.int IntKind.i64 b.wth, Value.int IntKind.i64 b.c0, Value.int IntKind.i64 b.c1, Value.int IntKind.i64 b.c2, k, Value.int IntKind.i64 b.rate, m, tv] 79)).alloc (Obj.cells t.cells.toArray 87) = V := ⟨_, rfl⟩
  have hBV : Below W.heap.size W V := by rw [← hV]; exact ((Below.refl _ _).alloc (Nat.le_refl _) _).alloc (by simp) _
  have hzV : V.heap.size = W.heap.size + 1 + 1 := by rw [← hV]; simp
  have v0 : V.cell? ⟨W.heap.size, 0, none⟩ = some (Value.slice (some ⟨g, q, none⟩) b.sts.length scap) := by rw [← hV, cell_old (by simp), cell_new]; rfl
  have v1 : V.cell? ⟨W.heap.size + 1, 1 + j, none⟩ = some (.int .i64 (t.comes j)) := tr_cell_a t (by rw [← hV]; exact (by simp : (W.alloc _).heap.size = W.heap.size + 1) ▸ World.alloc_heap_new _ _) (by omega)
  have v2 : V.cell? ⟨g, q + j * 7, none⟩ = some (.int .i64 x.due) := (hBV.cell (p := ⟨g, q + j * 7, none⟩) (by show g < _; omega)).trans c0
  have l0 : W.heap.size < V.heap.size := by omega
  have l1 : W.heap.size + 1 < V.heap.size := by omega
  have l2 : g < V.heap.size := by omega
  simp only [Tr.cells] at hV
  simp only [Tr.cells]
  rw [hV]
  clear hV c0 hzV
  have hw1 : IntKind.i64.wrap (t.comes j - x.due) = t.comes j - x.due := IntWalk.i64_in _ (by omega)
  refine wp_region_det (S := fun _ w' => (∀ b o, b < V.heap.size → w'.cell? ⟨b, o, none⟩ = V.cell? ⟨b, o, none⟩) ∧ Below V.heap.size V w') (by kernel_rfl) (by kernel_rfl) (hs0 V) ?_
  repeat
    apply det_cons
    · refine ⟨by rfl, fun L w hN hS => ?_⟩
      obtain ⟨hcc, hu⟩ := hS
      go_simp
      first
        | exact ⟨congrArg (Value.int .i64) (mx_eq _ _), fun _ _ _ => ⟨hcc, hu⟩⟩
        | exact ⟨rfl, fun _ _ _ => ⟨hcc, hu⟩⟩
    try simp only [Act.put, List.setIfInBounds_toArray, List.set_cons_zero, List.set_cons_succ]
  refine det_nil ?_
  rintro L w' hL ⟨hcc, hu⟩
  go_wp2
  all_goals (go_ret; exact ⟨ret_int (by rw [HS.out]; omega), hBV.trans (hu.mono (by omega))⟩)

def intCells (l : List Int) : List (List Value) := l.map fun x => [.int .i64 x]

set_option maxRecDepth 100000 in
set_option maxHeartbeats 400000 in
theorem sum_any (W : World) (v : Value) (xs : List Int) (n : Nat) (hs : SlOf W n 1 v (intCells xs)) (hb : ∀ x ∈ xs, -1000 ≤ x ∧ x ≤ 1000) (hl : xs.length ≤ 100) :
    Calls Tryd.prog 100 #[v] W fun e W' => e = .returned (.int .i64 xs.sum) ∧ W = W' := by
  obtain ⟨a, cap, rfl, h1, h2, h3, h4⟩ := hs
  simp only [intCells, List.length_map] at h1
  have H4 := Lib.hid h4
  have HB := Lib.hid hb
  clear h3 h4 hb h1 h2
  simp only [intCells, List.length_map]
  go_enter Tryd.func100, Tryd.ntmps100
  go_wp2_with fail
  go_loopg [3, 8] xs.length (fun n s i wx => W = wx ∧ ∃ (k : Nat) (acc : Int), k ≤ xs.length ∧ n = xs.length - k ∧ s = .int .i64 acc ∧ i = .int .i64 k ∧ acc + (xs.drop k).sum = xs.sum ∧ (-1000 * k ≤ acc ∧ acc ≤ 1000 * k))
  case atStart => exact ⟨rfl, 0, 0, by omega, rfl, rfl, rfl, by simp, by omega⟩
  case round =>
    obtain ⟨rfl, k, acc, hk, hgk, rfl, rfl, hs, hbd⟩ := hrel
    have HG := Lib.hid hgk
    have HS := Lib.hid hs
    clear hgk hs
    by_cases hlt : k < xs.length
    · obtain ⟨x, hx⟩ : ∃ x, xs[k]? = some x := ⟨_, List.getElem?_eq_getElem hlt⟩
      obtain ⟨g, q, e1, hg, hcs⟩ := sl_at H4.out (show (intCells xs)[k]? = some [.int .i64 x] by simp [intCells, hx])
      subst e1
      have hbx := HB.out x (List.mem_of_getElem? hx)
      have hdr : xs.drop k = x :: xs.drop (k + 1) := by
        rw [List.drop_eq_getElem_cons hlt]; rw [List.getElem?_eq_getElem hlt] at hx; cases hx; rfl
      have HD := Lib.hid hdr
      have r0 : W.cell? ⟨g, q + k * 1 + 0, none⟩ = some (.int .i64 x) := hcs 0 _ rfl
      simp only [Nat.mul_one, Nat.add_zero] at r0
      clear hx hdr hcs
      go_wp2_with fail
      go_roundg (xs.length - (k + 1))
      case measure => rw [HG.out]; omega
      case rel => exact ⟨rfl, k + 1, _, hlt, rfl, rfl, by go_num, by rw [← HS.out, HD.out]; simp [Int.add_assoc], by omega⟩
    · have hkl : k = xs.length := by omega
      have e1 : acc = xs.sum := by have := HS.out; rw [hkl, List.drop_length] at this; simpa using this
      subst e1
      clear hkl
      go_wp2_with fail
      go_ret
      exact ⟨rfl, rfl⟩

/-- a valid book's numbers, as the walks want them. -/
structure Bds (b : Bk) : Prop where
  l1 : 1 ≤ b.sts.length
  l3 : b.sts.length ≤ 3
  due : ∀ j, 0 ≤ b.due j ∧ b.due j ≤ 1000
  rate : 0 ≤ b.rate ∧ b.rate ≤ 99

theorem rough_slice {V : World} {B : Nat} (t : Tr) (h : V.heap[B]? = some (.cells t.cells.toArray 87)) : SlOf V V.heap.size 1 (.slice (some ⟨B, 4, none⟩) 3 3) (intCells [t.b0, t.b1, t.b2]) := by
  have hlt := (Array.getElem?_eq_some_iff.1 h).1
  refine ⟨_, 3, rfl, by simp [intCells], by simp [maxLen, intCells], by simp [intCells], fun _ => ⟨B, 4, rfl, hlt, fun i j r c hi hj => ?_⟩⟩
  rw [blk_cell h]
  have hi3 : i < 3 := by
    rcases Nat.lt_or_ge i 3 with h | h
    · exact h
    · rw [List.getElem?_eq_none (by simp [intCells]; omega)] at hi; cases hi
  have hii : i = 0 ∨ i = 1 ∨ i = 2 := by omega
  rcases hii with rfl | rfl | rfl <;> simp [intCells] at hi <;> subst hi <;> (rcases j with _ | j <;> simp at hj <;> subst hj <;> rfl)

theorem lateT_bd {b : Bk} {t : Tr} {j : Nat} (hj : j < 3) (ht : TrOk t) (hd : 0 ≤ b.due j ∧ b.due j ≤ 1000) : 0 ≤ lateT b j t ∧ lateT b j t ≤ 1000 := by
  have hc : 0 ≤ t.comes j ∧ t.comes j ≤ 1000 := by
    have hkk : j = 0 ∨ j = 1 ∨ j = 2 := by omega
    obtain ⟨_, h0, h1, h2, _⟩ := ht
    rcases hkk with rfl | rfl | rfl <;> assumption
  unfold lateT
  omega

theorem mul_bd {a x : Int} (h0 : 0 ≤ a) (h1 : a ≤ 99) (h2 : 0 ≤ x) (h3 : x ≤ 1000) : 0 ≤ a * x ∧ a * x ≤ 99000 :=
  ⟨Int.mul_nonneg h0 h2, by have := Int.mul_le_mul h1 h3 h2 (by omega); omega⟩

set_option maxRecDepth 100000 in
set_option maxHeartbeats 400000 in
theorem owes_any (W : World) (b : Bk) (s k m tv : Value) (n : Nat) (t : Tr) (hn : n ≤ W.heap.size) (hs : SlOf W n 7 s (stCells b.sts)) (hB : Bds b) (ht : TrOk t) :
    Calls Tryd.prog 84 #[.agg (b.cells9 s k m tv).toArray, .agg t.cells.toArray] W fun e W' => e = .returned (.int .i64 (owesT b t)) ∧ Below W.heap.size W W' := by
  obtain ⟨hl1, hl3, hdu, hr⟩ := hB
  have hlb := lateT_bd (b := b) (t := t) (j := b.sts.length - 1) (by omega) ht (hdu _)
  have hallb : 0 ≤ t.all ∧ t.all ≤ 1000 := by obtain ⟨_, _, _, _, h1, h2, h3⟩ := ht; unfold Tr.all; omega
  have hmb := mul_bd hr.1 hr.2 (x := min (lateT b (b.sts.length - 1) t) t.all) (by omega) (by omega)
  have hw : IntKind.i64.wrap (b.rate * min (lateT b (b.sts.length - 1) t) t.all) = owesT b t := IntWalk.i64_in _ (by omega)
  have hsum : ([t.b0, t.b1, t.b2] : List Int).sum = t.all := by simp [Tr.all]; omega
  simp only [Bk.cells9, Tr.cells]
  go_enter Tryd.func84, Tryd.ntmps84
  go_upto_region 1 with fail
  obtain ⟨V, hV⟩ : ∃ V, (W.alloc (Obj.cells (b.cells9 s k m tv).toArray 79)).alloc (Obj.cells t.cells.toArray 87) = V := ⟨_, rfl⟩
  have hBV : Below W.heap.size W V := by rw [← hV]; exact ((Below.refl _ _).alloc (Nat.le_refl _) _).alloc (by simp) _
  have hzV : V.heap.size = W.heap.size + 1 + 1 := by rw [← hV]; simp
  have hb0 : V.heap[W.heap.size]? = some (.cells (b.cells9 s k m tv).toArray 79) := by rw [← hV]; exact (Below.heap_alloc _ _ _ (by simp)).trans (World.alloc_heap_new _ _)
  have hb1 : V.heap[W.heap.size + 1]? = some (.cells t.cells.toArray 87) := by rw [← hV]; exact (by simp : (W.alloc _).heap.size = W.heap.size + 1) ▸ World.alloc_heap_new _ _
  have hsV : SlOf V W.heap.size 7 s (stCells b.sts) := (hs.below hn hBV).mono hn
  have hrs := rough_slice t hb1
  simp only [Bk.cells9, Tr.cells] at hV
  rw [hV]
  have v0 : V.cell? ⟨W.heap.size, 0, none⟩ = some s := blk_cell hb0
  have v1 : V.cell? ⟨W.heap.size, 1, none⟩ = some (.int .i64 b.wth) := blk_cell hb0
  have v2 : V.cell? ⟨W.heap.size, 2, none⟩ = some (.int .i64 b.c0) := blk_cell hb0
  have v3 : V.cell? ⟨W.heap.size, 3, none⟩ = some (.int .i64 b.c1) := blk_cell hb0
  have v4 : V.cell? ⟨W.heap.size, 4, none⟩ = some (.int .i64 b.c2) := blk_cell hb0
  have v5 : V.cell? ⟨W.heap.size, 5, none⟩ = some k := blk_cell hb0
  have v6 : V.cell? ⟨W.heap.size, 6, none⟩ = some (.int .i64 b.rate) := blk_cell hb0
  have v7 : V.cell? ⟨W.heap.size, 7, none⟩ = some m := blk_cell hb0
  have v8 : V.cell? ⟨W.heap.size, 8, none⟩ = some tv := blk_cell hb0
  have t0 : V.cell? ⟨W.heap.size + 1, 0, none⟩ = some (.int .i64 t.w) := blk_cell hb1
  have t1 : V.cell? ⟨W.heap.size + 1, 1, none⟩ = some (.int .i64 t.a0) := blk_cell hb1
  have t2 : V.cell? ⟨W.heap.size + 1, 2, none⟩ = some (.int .i64 t.a1) := blk_cell hb1
  have t3 : V.cell? ⟨W.heap.size + 1, 3, none⟩ = some (.int .i64 t.a2) := blk_cell hb1
  have t4 : V.cell? ⟨W.heap.size + 1, 4, none⟩ = some (.int .i64 t.b0) := blk_cell hb1
  have t5 : V.cell? ⟨W.heap.size + 1, 5, none⟩ = some (.int .i64 t.b1) := blk_cell hb1
  have t6 : V.cell? ⟨W.heap.size + 1, 6, none⟩ = some (.int .i64 t.b2) := blk_cell hb1
  have l0 : W.heap.size < V.heap.size := by omega
  have l1 : W.heap.size + 1 < V.heap.size := by omega
  have HSum := Lib.hid hsum
  have HSV := Lib.hid hsV
  have HRS := Lib.hid hrs
  clear hV hzV hsum hb0 hb1 hsV hrs hs
  refine wp_region_det (S := fun _ w' => (∀ b o, b < V.heap.size → w'.cell? ⟨b, o, none⟩ = V.cell? ⟨b, o, none⟩) ∧ Below V.heap.size V w') (by kernel_rfl) (by kernel_rfl) (hs0 V) ?_
  repeat
    apply det_cons
    · refine ⟨by rfl, fun L w hN hS => ?_⟩
      obtain ⟨hcc, hu⟩ := hS
      go_simp
      first
        | exact ⟨congrArg (Value.int .i64) (mn_eq _ _), fun _ _ _ => ⟨hcc, hu⟩⟩
        | exact ⟨rfl, fun _ _ _ => ⟨hcc, hu⟩⟩
        | (refine (last_any _ b s k m tv _ (b.sts.length - 1) (HSV.out.below (by omega) hu) (by omega)).mono ?_; rintro e w' ⟨rfl, hbb⟩; exact ⟨rfl, fun _ _ _ => hs1 hbb ⟨hcc, hu⟩⟩)
        | (refine (late_any _ b s k m tv W.heap.size t _ (by have := hu.size; omega) (HSV.out.below (by omega) hu) (by omega) hl3 ht (hdu _)).mono ?_; rintro e w' ⟨rfl, hbb⟩; exact ⟨rfl, fun _ _ _ => hs1 hbb ⟨hcc, hu⟩⟩)
        | (refine (sum_any _ _ [t.b0, t.b1, t.b2] _ (HRS.out.below (Nat.le_refl _) hu) (by obtain ⟨_, _, _, _, h1, h2, h3⟩ := ht; intro x hx; simp at hx; omega) (by simp)).mono ?_; rintro e w' ⟨rfl, rfl⟩; exact ⟨congrArg Ending.returned (congrArg (Value.int .i64) HSum.out), fun _ _ _ => ⟨hcc, hu⟩⟩)
    try simp only [Act.put, List.setIfInBounds_toArray, List.set_cons_zero, List.set_cons_succ]
  refine det_nil ?_
  rintro L w' hL ⟨hcc, hu⟩
  go_wp2
  all_goals (go_ret; exact ⟨rfl, hBV.trans (hu.mono (by omega))⟩)

set_option maxRecDepth 100000 in
set_option maxHeartbeats 400000 in
theorem blame_any (W : World) (b : Bk) (s k m tv : Value) (l : List Tr) (n : Nat) (hn : n ≤ W.heap.size) (hs : SlOf W n 7 s (stCells b.sts)) (hB : Bds b)
    (htv : SlOf W n 7 tv (trCells l)) (hok : ∀ t ∈ l, TrOk t) :
    Calls Tryd.prog 81 #[.agg (b.cells9 s k m tv).toArray] W fun e W' => e = .returned (.agg #[.int .i64 (l.countP (blamed b) : Nat), .int .i64 (l.length : Nat)]) ∧ Below W.heap.size W W' := by
  obtain ⟨ta, tcap, rfl, ht1, ht2, ht3, ht4⟩ := htv
  have H4 := Lib.hid ht4
  have HOK := Lib.hid hok
  have HS0 := Lib.hid hs
  obtain ⟨sa, scap, rfl, hs1, hs2, hs3, hs4⟩ := hs
  have H5 := Lib.hid hs4
  unfold maxLen at ht2
  have htl : (trCells l).length = l.length := by simp [trCells]
  rw [htl] at ht1 ht2
  have HTL := Lib.hid htl
  obtain ⟨hl1, hl3, hdu, hr⟩ := hB
  obtain ⟨j, hj⟩ : ∃ j, b.sts.length = j + 1 := ⟨b.sts.length - 1, by omega⟩
  have hj3 : j < 3 := by omega
  obtain ⟨x, hx⟩ : ∃ x, b.sts[j]? = some x := ⟨_, List.getElem?_eq_getElem (by omega)⟩
  have hdue : b.due j = x.due := by simp [Bk.due, hx]
  obtain ⟨g, q, hsa, hg, hcs⟩ := sl_at hs4 (show (stCells b.sts)[j]? = some x.cells by simp [stCells, hx])
  subst hsa
  have hxd := hdu j
  rw [hdue] at hxd
  have d0 : W.cell? ⟨g, q + j * 7, none⟩ = some (.int .i64 x.due) := hcs 0 _ rfl
  have HDU := Lib.hid hdu
  have HJ := Lib.hid hj
  have HDE := Lib.hid hdue
  have hsl : (stCells b.sts).length = j + 1 := by simp [stCells, hj]
  rw [hsl] at HS0
  clear ht4 ht3 hok hdu hs1 hs2 hs3 hs4 hcs hx hdue
  have hbl : ∀ t, blamed b t = (decide (0 < lateT b j t) && decide (t.comes j - t.all ≤ x.due)) := fun t => by
    unfold blamed; rw [hj, Nat.add_sub_cancel, HDE.out]
  have HBL := Lib.hid hbl
  clear hbl hj
  simp only [Bk.cells9, htl, hsl]
  clear htl hsl
  go_enter Tryd.func81, Tryd.ntmps81
  go_wp2_with fail
  obtain ⟨W1, hW1⟩ : ∃ W1, ((W.alloc (Obj.cells #[Value.slice (some ⟨g, q, none⟩) (j + 1) scap, Value.int IntKind.i64 b.wth, Value.int IntKind.i64 b.c0, Value.int IntKind.i64 b.c1, Value.int IntKind.i64 b.c2, k, Value.int IntKind.i64 b.rate, m, Value.slice ta l.length tcap] 79)).alloc (Obj.cells #[Value.int IntKind.i64 0, Value.int IntKind.i64 0] 99)).alloc (Obj.cells #[Value.int IntKind.i64 0, Value.int IntKind.i64 ↑l.length] 99) = W1 := ⟨_, rfl⟩
  rw [hW1]
  have hB1 : Below W.heap.size W W1 := by rw [← hW1]; exact (((Below.refl _ _).alloc (Nat.le_refl _) _).alloc (by simp) _).alloc (by simp; omega) _
  have hz1 : W1.heap.size = W.heap.size + 1 + 1 + 1 := by rw [← hW1]; simp
  have hx0 : W1.heap[W.heap.size]? = some (.cells #[Value.slice (some ⟨g, q, none⟩) (j + 1) scap, Value.int IntKind.i64 b.wth, Value.int IntKind.i64 b.c0, Value.int IntKind.i64 b.c1, Value.int IntKind.i64 b.c2, k, Value.int IntKind.i64 b.rate, m, Value.slice ta l.length tcap] 79) := by
    rw [← hW1, Below.heap_alloc _ _ _ (by simp; omega), Below.heap_alloc _ _ _ (by simp)]; exact World.alloc_heap_new _ _
  have hx1 : W1.heap[W.heap.size + 1]? = some (.cells #[Value.int IntKind.i64 0, Value.int IntKind.i64 0] 99) := by
    rw [← hW1, Below.heap_alloc _ _ _ (by simp)]; exact (by simp : (W.alloc _).heap.size = W.heap.size + 1) ▸ World.alloc_heap_new _ _
  have hx2 : W1.heap[W.heap.size + 1 + 1]? = some (.cells #[Value.int IntKind.i64 0, Value.int IntKind.i64 ↑l.length] 99) := by
    rw [← hW1]; exact (by simp : ((W.alloc _).alloc _).heap.size = W.heap.size + 1 + 1) ▸ World.alloc_heap_new _ _
  have HX0 := Lib.hid hx0
  have HX1 := Lib.hid hx1
  have HX2 := Lib.hid hx2
  have HZ1 := Lib.hid hz1
  clear hx0 hx1 hx2 hW1
  go_loopg [13] l.length (fun n i wx => ∃ (q : Nat) (so : Nat), q ≤ l.length ∧ n = l.length - q ∧ i = .int .i64 q ∧ so ≤ q ∧ so + (l.drop q).countP (blamed b) = l.countP (blamed b) ∧ Below (W.heap.size + 1 + 1) W1 wx ∧
    wx.heap[W.heap.size + 1 + 1]? = some (.cells #[.int .i64 so, .int .i64 l.length] 99))
  case atStart => exact ⟨0, 0, by omega, rfl, rfl, by omega, by simp, Below.refl _ _, HX2.out⟩
  case round =>
    obtain ⟨q1, so, hq1, hgk, rfl, hso, hcnt, hbr, hV2⟩ := hrel
    have HG := Lib.hid hgk
    have HC := Lib.hid hcnt
    have HV2 := Lib.hid hV2
    have hrz := hbr.size
    clear hgk hcnt
    have hz1 := HZ1.out
    have hz2 : W.heap.size + 1 + 1 < W1.heap.size := by omega
    by_cases hlt : q1 < l.length
    · obtain ⟨t, ht⟩ : ∃ t, l[q1]? = some t := ⟨_, List.getElem?_eq_getElem hlt⟩
      obtain ⟨g1, p1, e1, hg1, hcs⟩ := sl_at H4.out (show (trCells l)[q1]? = some t.cells by rw [trCells, List.getElem?_map, ht]; rfl)
      subst e1
      have okt := HOK.out t (List.mem_of_getElem? ht)
      have hdr : l.drop q1 = t :: l.drop (q1 + 1) := by
        rw [List.drop_eq_getElem_cons hlt]; rw [List.getElem?_eq_getElem hlt] at ht; cases ht; rfl
      have HD := Lib.hid hdr
      clear ht hdr
      have hWr : Below W.heap.size W wr := hB1.trans (hbr.mono (by omega))
      have hr : ∀ j c, t.cells[j]? = some c → wr.cell? ⟨g1, p1 + q1 * 7 + j, none⟩ = some c := fun j c hj =>
        (hWr.cell (p := ⟨g1, p1 + q1 * 7 + j, none⟩) (by show g1 < _; omega)).trans (hcs j c hj)
      have r0 : wr.cell? ⟨g1, p1 + q1 * 7, none⟩ = some (.int .i64 t.w) := hr 0 _ rfl
      have r1 : wr.cell? ⟨g1, p1 + q1 * 7 + 1, none⟩ = some (.int .i64 t.a0) := hr 1 _ rfl
      have r2 : wr.cell? ⟨g1, p1 + q1 * 7 + 2, none⟩ = some (.int .i64 t.a1) := hr 2 _ rfl
      have r3 : wr.cell? ⟨g1, p1 + q1 * 7 + 3, none⟩ = some (.int .i64 t.a2) := hr 3 _ rfl
      have r4 : wr.cell? ⟨g1, p1 + q1 * 7 + 4, none⟩ = some (.int .i64 t.b0) := hr 4 _ rfl
      have r5 : wr.cell? ⟨g1, p1 + q1 * 7 + 5, none⟩ = some (.int .i64 t.b1) := hr 5 _ rfl
      have r6 : wr.cell? ⟨g1, p1 + q1 * 7 + 6, none⟩ = some (.int .i64 t.b2) := hr 6 _ rfl
      clear hr hcs hV2
      go_upto_region 5 with fail
      obtain ⟨V, hV⟩ : ∃ V, wr.alloc (Obj.cells t.cells.toArray 87) = V := ⟨_, rfl⟩
      have hVW : Below W.heap.size W V := by rw [← hV]; exact hWr.alloc (by omega) _
      have hVz : V.heap.size = wr.heap.size + 1 := by rw [← hV]; simp
      have hV1 : Below (W.heap.size + 1 + 1) W1 V := by rw [← hV]; exact hbr.alloc (by omega) _
      have hV0 : V.heap[W.heap.size]? = _ := (hV1.block W.heap.size (by omega)).trans HX0.out
      have hVt : V.heap[wr.heap.size]? = some (.cells t.cells.toArray 87) := by rw [← hV]; exact World.alloc_heap_new _ _
      have hVv : V.heap[W.heap.size + 1 + 1]? = some (.cells #[.int .i64 so, .int .i64 l.length] 99) := by rw [← hV]; exact (Below.heap_alloc _ _ _ (by omega)).trans HV2.out
      simp only [Tr.cells] at hV
      rw [hV]
      have v0 : V.cell? ⟨W.heap.size, 0, none⟩ = some (.slice (some ⟨g, q, none⟩) (j + 1) scap) := blk_cell hV0
      have v1 : V.cell? ⟨W.heap.size, 1, none⟩ = some (.int .i64 b.wth) := blk_cell hV0
      have v2 : V.cell? ⟨W.heap.size, 2, none⟩ = some (.int .i64 b.c0) := blk_cell hV0
      have v3 : V.cell? ⟨W.heap.size, 3, none⟩ = some (.int .i64 b.c1) := blk_cell hV0
      have v4 : V.cell? ⟨W.heap.size, 4, none⟩ = some (.int .i64 b.c2) := blk_cell hV0
      have v5 : V.cell? ⟨W.heap.size, 5, none⟩ = some k := blk_cell hV0
      have v6 : V.cell? ⟨W.heap.size, 6, none⟩ = some (.int .i64 b.rate) := blk_cell hV0
      have v7 : V.cell? ⟨W.heap.size, 7, none⟩ = some m := blk_cell hV0
      have v8 : V.cell? ⟨W.heap.size, 8, none⟩ = some (.slice (some ⟨g1, p1, none⟩) l.length tcap) := blk_cell hV0
      have t0 : V.cell? ⟨wr.heap.size, 0, none⟩ = some (.int .i64 t.w) := blk_cell hVt
      have t1 : V.cell? ⟨wr.heap.size, 1, none⟩ = some (.int .i64 t.a0) := blk_cell hVt
      have t2 : V.cell? ⟨wr.heap.size, 2, none⟩ = some (.int .i64 t.a1) := blk_cell hVt
      have t3 : V.cell? ⟨wr.heap.size, 3, none⟩ = some (.int .i64 t.a2) := blk_cell hVt
      have t4 : V.cell? ⟨wr.heap.size, 4, none⟩ = some (.int .i64 t.b0) := blk_cell hVt
      have t5 : V.cell? ⟨wr.heap.size, 5, none⟩ = some (.int .i64 t.b1) := blk_cell hVt
      have t6 : V.cell? ⟨wr.heap.size, 6, none⟩ = some (.int .i64 t.b2) := blk_cell hVt
      have tj : V.cell? ⟨wr.heap.size, 1 + j, none⟩ = some (.int .i64 (t.comes j)) := tr_cell_a t hVt hj3
      have d1 : V.cell? ⟨g, q + j * 7, none⟩ = some (.int .i64 x.due) := (hVW.cell (p := ⟨g, q + j * 7, none⟩) (by show g < _; omega)).trans d0
      have l0 : W.heap.size < V.heap.size := by omega
      have l1 : wr.heap.size < V.heap.size := by omega
      have l2 : g < V.heap.size := by omega
      have i1 : (j : Int) < 3 := by omega
      have i2 : (j : Int) < (j : Int) + 1 := by omega
      have hsV : SlOf V W.heap.size 7 (.slice (some ⟨g, q, none⟩) (j + 1) scap) (stCells b.sts) := (HS0.out.below hn hVW).mono hn
      have hrs := rough_slice t hVt
      have hcb : 0 ≤ t.comes j ∧ t.comes j ≤ 1000 := by
        have hkk : j = 0 ∨ j = 1 ∨ j = 2 := by omega
        obtain ⟨_, h0, h1, h2, _⟩ := okt
        rcases hkk with rfl | rfl | rfl <;> assumption
      have hallb : 0 ≤ t.all ∧ t.all ≤ 1000 := by obtain ⟨_, _, _, _, h1, h2, h3⟩ := okt; unfold Tr.all; omega
      have hw1 : IntKind.i64.wrap (t.comes j - t.all) = t.comes j - t.all := IntWalk.i64_in _ (by omega)
      have hsum : ([t.b0, t.b1, t.b2] : List Int).sum = t.all := by simp [Tr.all]; omega
      have HSV := Lib.hid hsV
      have HRS := Lib.hid hrs
      have HSum := Lib.hid hsum
      have hzz3 := hV1.size
      have HVv := Lib.hid hVv
      have HV0 := Lib.hid hV0
      clear r0 r1 r2 r3 r4 r5 r6 hV hV0 hVt hVv hsV hrs hsum hVz hz1
      have hz3 : W.heap.size + 1 + 1 < V.heap.size := by have := hV1.size; omega
      by_cases hlate : 0 < lateT b j t
      · by_cases hle : t.comes j - t.all ≤ x.due
        · refine wp_region_det (S := fun _ w' => (∀ b o, b < V.heap.size → w'.cell? ⟨b, o, none⟩ = V.cell? ⟨b, o, none⟩) ∧ Below V.heap.size V w') (by kernel_rfl) (by kernel_rfl) (hs0 V) ?_
          repeat
            apply det_cons
            · refine ⟨by rfl, fun L w hN hS => ?_⟩
              obtain ⟨hcc, hu⟩ := hS
              go_simp
              first
                | exact ⟨rfl, fun _ _ _ => ⟨hcc, hu⟩⟩
                | (refine (last_any _ b _ k m _ _ j (HSV.out.below (by omega) hu) HJ.out).mono ?_; rintro e w' ⟨rfl, hbb⟩; exact ⟨rfl, fun _ _ _ => hs1 hbb ⟨hcc, hu⟩⟩)
                | (refine (late_any _ b _ k m _ W.heap.size t j (by have := hu.size; omega) (HSV.out.below (by omega) hu) (by have := HJ.out; omega) hl3 okt (HDU.out _)).mono ?_; rintro e w' ⟨rfl, hbb⟩; exact ⟨rfl, fun _ _ _ => hs1 hbb ⟨hcc, hu⟩⟩)
                | (refine (sum_any _ _ [t.b0, t.b1, t.b2] _ (HRS.out.below (Nat.le_refl _) hu) (by obtain ⟨_, _, _, _, h1, h2, h3⟩ := okt; intro x hx; simp at hx; omega) (by simp)).mono ?_; rintro e w' ⟨rfl, rfl⟩; exact ⟨congrArg Ending.returned (congrArg (Value.int .i64) HSum.out), fun _ _ _ => ⟨hcc, hu⟩⟩)
            try simp only [Act.put, List.setIfInBounds_toArray, List.set_cons_zero, List.set_cons_succ]
          refine det_nil ?_
          rintro L w' hL ⟨hcc, hu⟩
          have hv2 := (hu.block _ hz3).trans HVv.out
          have hsz := hu.size
          have c0 : w'.cell? ⟨W.heap.size + 1 + 1, 0, none⟩ = some (.int .i64 so) := blk_cell hv2
          have c1 : w'.cell? ⟨W.heap.size + 1 + 1, 1, none⟩ = some (.int .i64 l.length) := blk_cell hv2
          have cf := blk_frozen hv2
          have HV3 := Lib.hid hv2
          have hbb2 : Below (W.heap.size + 1 + 1) W1 w' := hV1.trans (hu.mono (by omega))
          clear hcc hL hv2
          go_wp2_with fail
          go_roundg (l.length - (q1 + 1))
          case measure => rw [HG.out]; omega
          case rel => exact ⟨q1 + 1, so + 1, hlt, rfl, by go_num, by omega, by rw [← HC.out, HD.out, List.countP_cons, HBL.out]; simp only [hlate, hle, decide_true, Bool.and_self, if_true]; omega, hbb2.setCell (by simp) _, by have := blk_set (j := 0) (v := .int .i64 ((so : Int) + 1)) HV3.out; exact this⟩
        · have hle' : x.due < t.comes j - t.all := by omega
          refine wp_region_det (S := fun _ w' => (∀ b o, b < V.heap.size → w'.cell? ⟨b, o, none⟩ = V.cell? ⟨b, o, none⟩) ∧ Below V.heap.size V w') (by kernel_rfl) (by kernel_rfl) (hs0 V) ?_
          repeat
            apply det_cons
            · refine ⟨by rfl, fun L w hN hS => ?_⟩
              obtain ⟨hcc, hu⟩ := hS
              go_simp
              first
                | exact ⟨rfl, fun _ _ _ => ⟨hcc, hu⟩⟩
                | (refine (last_any _ b _ k m _ _ j (HSV.out.below (by omega) hu) HJ.out).mono ?_; rintro e w' ⟨rfl, hbb⟩; exact ⟨rfl, fun _ _ _ => hs1 hbb ⟨hcc, hu⟩⟩)
                | (refine (late_any _ b _ k m _ W.heap.size t j (by have := hu.size; omega) (HSV.out.below (by omega) hu) (by have := HJ.out; omega) hl3 okt (HDU.out _)).mono ?_; rintro e w' ⟨rfl, hbb⟩; exact ⟨rfl, fun _ _ _ => hs1 hbb ⟨hcc, hu⟩⟩)
                | (refine (sum_any _ _ [t.b0, t.b1, t.b2] _ (HRS.out.below (Nat.le_refl _) hu) (by obtain ⟨_, _, _, _, h1, h2, h3⟩ := okt; intro x hx; simp at hx; omega) (by simp)).mono ?_; rintro e w' ⟨rfl, rfl⟩; exact ⟨congrArg Ending.returned (congrArg (Value.int .i64) HSum.out), fun _ _ _ => ⟨hcc, hu⟩⟩)
            try simp only [Act.put, List.setIfInBounds_toArray, List.set_cons_zero, List.set_cons_succ]
          refine det_nil ?_
          rintro L w' hL ⟨hcc, hu⟩
          have hv2 := (hu.block _ hz3).trans HVv.out
          have hsz := hu.size
          have c0 : w'.cell? ⟨W.heap.size + 1 + 1, 0, none⟩ = some (.int .i64 so) := blk_cell hv2
          have c1 : w'.cell? ⟨W.heap.size + 1 + 1, 1, none⟩ = some (.int .i64 l.length) := blk_cell hv2
          have cf := blk_frozen hv2
          have HV3 := Lib.hid hv2
          have hbb2 : Below (W.heap.size + 1 + 1) W1 w' := hV1.trans (hu.mono (by omega))
          clear hcc hL hv2
          go_wp2_with fail
          go_roundg (l.length - (q1 + 1))
          case measure => rw [HG.out]; omega
          case rel => exact ⟨q1 + 1, so, hlt, rfl, by go_num, by omega, by rw [← HC.out, HD.out, List.countP_cons, HBL.out]; simp [hlate, hle], hbb2, HV3.out⟩
      · have hlate' : lateT b j t ≤ 0 := by omega
        have hle : True := trivial
        refine wp_region_det (S := fun _ w' => (∀ b o, b < V.heap.size → w'.cell? ⟨b, o, none⟩ = V.cell? ⟨b, o, none⟩) ∧ Below V.heap.size V w') (by kernel_rfl) (by kernel_rfl) (hs0 V) ?_
        repeat
          first
            | (apply det_skip
               · exact ⟨by rfl, fun L w hN hS => fun _ _ _ => hS⟩)
            | (apply det_cons
               · refine ⟨by rfl, fun L w hN hS => ?_⟩
                 obtain ⟨hcc, hu⟩ := hS
                 go_simp
                 first
                   | exact ⟨rfl, fun _ _ _ => ⟨hcc, hu⟩⟩
                   | (refine (last_any _ b _ k m _ _ j (HSV.out.below (by omega) hu) HJ.out).mono ?_; rintro e w' ⟨rfl, hbb⟩; exact ⟨rfl, fun _ _ _ => hs1 hbb ⟨hcc, hu⟩⟩)
                   | (refine (late_any _ b _ k m _ W.heap.size t j (by have := hu.size; omega) (HSV.out.below (by omega) hu) (by have := HJ.out; omega) hl3 okt (HDU.out _)).mono ?_; rintro e w' ⟨rfl, hbb⟩; exact ⟨rfl, fun _ _ _ => hs1 hbb ⟨hcc, hu⟩⟩)
                   | (refine (sum_any _ _ [t.b0, t.b1, t.b2] _ (HRS.out.below (Nat.le_refl _) hu) (by obtain ⟨_, _, _, _, h1, h2, h3⟩ := okt; intro x hx; simp at hx; omega) (by simp)).mono ?_; rintro e w' ⟨rfl, rfl⟩; exact ⟨congrArg Ending.returned (congrArg (Value.int .i64) HSum.out), fun _ _ _ => ⟨hcc, hu⟩⟩))
          try simp only [Act.put, List.setIfInBounds_toArray, List.set_cons_zero, List.set_cons_succ]
        refine det_nil ?_
        rintro L w' hL ⟨hcc, hu⟩
        have hv2 := (hu.block _ hz3).trans HVv.out
        have hsz := hu.size
        have c0 : w'.cell? ⟨W.heap.size + 1 + 1, 0, none⟩ = some (.int .i64 so) := blk_cell hv2
        have c1 : w'.cell? ⟨W.heap.size + 1 + 1, 1, none⟩ = some (.int .i64 l.length) := blk_cell hv2
        have cf := blk_frozen hv2
        have HV3 := Lib.hid hv2
        have hbb2 : Below (W.heap.size + 1 + 1) W1 w' := hV1.trans (hu.mono (by omega))
        clear hcc hL hv2
        go_wp2_with fail
        go_roundg (l.length - (q1 + 1))
        case measure => rw [HG.out]; omega
        case rel => exact ⟨q1 + 1, so, hlt, rfl, by go_num, by omega, by rw [← HC.out, HD.out, List.countP_cons, HBL.out]; simp; omega, hbb2, HV3.out⟩
    · have hkl : q1 = l.length := by omega
      have e1 : so = l.countP (blamed b) := by have := HC.out; rw [hkl, List.drop_length] at this; simpa using this
      have hx1 := (hbr.block (W.heap.size + 1) (by omega)).trans HX1.out
      have c0 : wr.cell? ⟨W.heap.size + 1 + 1, 0, none⟩ = some (.int .i64 (l.countP (blamed b) : Nat)) := by rw [← e1]; exact blk_cell HV2.out
      have c1 : wr.cell? ⟨W.heap.size + 1 + 1, 1, none⟩ = some (.int .i64 l.length) := blk_cell HV2.out
      have r0 : wr.cell? ⟨W.heap.size + 1, 0, none⟩ = some (.int .i64 0) := blk_cell hx1
      have r1 : wr.cell? ⟨W.heap.size + 1, 1, none⟩ = some (.int .i64 0) := blk_cell hx1
      have rf := blk_frozen hx1
      clear hkl e1 hx1 hV2
      go_wp2_with fail
      exact bodyPost_ret (v := .agg #[.int .i64 (l.countP (blamed b) : Nat), .int .i64 l.length]) (by simp [results, Tryd.results81, go_sem, r0, r1]) rfl ⟨rfl, ((hB1.trans (hbr.mono (by omega))).setCell (by simp) _).setCell (by simp) _⟩
end Go.Proofs.YtbhjfojbjpbdbaaDoor

-- A5: Contracts of package claim: right (a method that keeps what it has found in a map). Written by a session.
namespace Go.Proofs.YtbhjfojbjpbdbaaDoor
open Go.RowKit

/-- the package-level variables: a table of two functions, and nowhere. -/
structure Glob (W : World) : Prop where
  k0 : W.cell? ⟨0, 0, none⟩ = some (.func (.func 125) #[] #[])
  k1 : W.cell? ⟨0, 1, none⟩ = some (.func (.func 123) #[] #[])
  n0 : W.cell? ⟨1, 0, none⟩ = some (.int .i64 (-1))
  n1 : W.cell? ⟨1, 1, none⟩ = some (.int .i64 (-1))

theorem lt_of_cell {W : World} {p : Addr} {v : Value} (h : W.cell? p = some v) : p.block < W.heap.size := by
  rcases Nat.lt_or_ge p.block W.heap.size with h1 | h1
  · exact h1
  · unfold World.cell? at h
    rw [Array.getElem?_eq_none h1] at h
    cases h
theorem Glob.below {W W' : World} {B : Nat} (h : Glob W) (hB : 2 ≤ B) (hb : Below B W W') : Glob W' :=
  ⟨(hb.cell (p := ⟨0, 0, none⟩) (by show 0 < B; omega)).trans h.k0, (hb.cell (p := ⟨0, 1, none⟩) (by show 0 < B; omega)).trans h.k1,
   (hb.cell (p := ⟨1, 0, none⟩) (by show 1 < B; omega)).trans h.n0, (hb.cell (p := ⟨1, 1, none⟩) (by show 1 < B; omega)).trans h.n1⟩
theorem Glob.size {W : World} (h : Glob W) : 2 ≤ W.heap.size := lt_of_cell h.n0

theorem ne_of_map {W : World} {M : Nat} {es : Array MapEntry} {c : Nat} {p : Addr} {v : Value} (hM : W.heap[M]? = some (.map es c)) (h : W.cell? p = some v) : p.block ≠ M := by
  intro e
  unfold World.cell? at h
  rw [e, hM] at h
  cases h
theorem SlOf.updM {w w' : World} {n sz M : Nat} {v : Value} {rows : List (List Value)} {es : Array MapEntry} {c : Nat} (hM : w.heap[M]? = some (.map es c)) (h : SlOf w n sz v rows) (hb : Upd (· = M) w w') : SlOf w' n sz v rows := by
  obtain ⟨a, cap, e, h1, h2, h3, h4⟩ := h
  refine ⟨a, cap, e, h1, h2, h3, fun hp => ?_⟩
  obtain ⟨b, o, e1, h5, h6⟩ := h4 hp
  refine ⟨b, o, e1, h5, fun i j r c hi hj => ?_⟩
  have hc := h6 i j r c hi hj
  exact (hb.cell (lt_of_cell hc) (ne_of_map hM hc)).trans hc

/-- the bounds of a book's clocks. -/
def CksOk (l : List Ck) : Prop := ∀ c ∈ l, (0 ≤ c.st ∧ c.st ≤ 2) ∧ (0 ≤ c.rd ∧ c.rd ≤ 600) ∧ (0 ≤ c.er ∧ c.er ≤ 5)

set_option maxRecDepth 100000 in
set_option maxHeartbeats 800000 in
theorem right_any (W : World) (b : Bk) (s k tv : Value) (M n : Nat) (sp mi : Int) (hn : n ≤ W.heap.size) (hk : SlOf W n 3 k (ckCells b.cks)) (hC : CacheOk W M b.cks) (hG : Glob W) (hok : CksOk b.cks) (hl : b.cks.length ≤ 1000)
    (hs : 0 ≤ sp ∧ sp ≤ 2) (hm : 0 ≤ mi ∧ mi ≤ 1000) :
    Calls Tryd.prog 103 #[.agg (b.cells9 s k (.map (some M)) tv).toArray, .agg #[.int .i64 sp, .int .i64 mi]] W fun e W' =>
      e = .returned (.bool (rightL b.cks sp mi)) ∧ Upd (· = M) W W' ∧ CacheOk W' M b.cks := by
  obtain ⟨ka, kcap, rfl, hk1, hk2, hk3, hk4⟩ := hk
  have hkl : (ckCells b.cks).length = b.cks.length := by simp [ckCells]
  have H4 := Lib.hid hk4
  have HOK := Lib.hid hok
  have hMlt := hC.lt
  obtain ⟨W1, hW1⟩ : ∃ W1, (W.alloc (Obj.cells #[s, Value.int IntKind.i64 b.wth, Value.int IntKind.i64 b.c0, Value.int IntKind.i64 b.c1, Value.int IntKind.i64 b.c2, Value.slice ka b.cks.length kcap, Value.int IntKind.i64 b.rate, Value.map (some M), tv] 79)).alloc (Obj.cells #[.int .i64 sp, .int .i64 mi] 115) = W1 := ⟨_, rfl⟩
  have hB1 : Below W.heap.size W W1 := by rw [← hW1]; exact ((Below.refl _ _).alloc (Nat.le_refl _) _).alloc (by simp) _
  have hz1 : W1.heap.size = W.heap.size + 1 + 1 := by rw [← hW1]; simp
  have hx0 : W1.heap[W.heap.size]? = some (.cells #[s, Value.int IntKind.i64 b.wth, Value.int IntKind.i64 b.c0, Value.int IntKind.i64 b.c1, Value.int IntKind.i64 b.c2, Value.slice ka b.cks.length kcap, Value.int IntKind.i64 b.rate, Value.map (some M), tv] 79) := by
    rw [← hW1, Below.heap_alloc _ _ _ (by simp)]; exact World.alloc_heap_new _ _
  have hx1 : W1.heap[W.heap.size + 1]? = some (.cells #[.int .i64 sp, .int .i64 mi] 115) := by
    rw [← hW1]; exact (by simp : (W.alloc _).heap.size = W.heap.size + 1) ▸ World.alloc_heap_new _ _
  have hC1 : CacheOk W1 M b.cks := hC.of_block (hB1.block M hMlt)
  obtain ⟨v, ok, hrun, hv⟩ := look115 hC1 sp mi
  have hv' : ok = true → v = rightL b.cks sp mi := fun h => hv h (by omega)
  have v5 : W1.cell? ⟨W.heap.size, 5, none⟩ = some (Value.slice ka b.cks.length kcap) := blk_cell hx0
  have v7 : W1.cell? ⟨W.heap.size, 7, none⟩ = some (Value.map (some M)) := blk_cell hx0
  have s0 : W1.cell? ⟨W.heap.size + 1, 0, none⟩ = some (.int .i64 sp) := blk_cell hx1
  have s1 : W1.cell? ⟨W.heap.size + 1, 1, none⟩ = some (.int .i64 mi) := blk_cell hx1
  have hG1 := hG.below hG.size hB1
  have n0 := hG1.n0
  have n1 := hG1.n1
  have HX0 := Lib.hid hx0
  have HX1 := Lib.hid hx1
  clear hk1 hk3 hk4 hok hv hx0 hx1 hC hG hG1
  simp only [Bk.cells9, hkl]
  clear hkl
  go_enter Tryd.func103, Tryd.ntmps103
  go_upto_region 1 with fail
  try rw [hW1]
  have hsne : ¬ sp = -1 := by omega
  clear hW1
  cases ok with
  | true =>
    obtain rfl := hv' rfl
    clear hv'
    go_wp2
    go_ret
    exact ⟨rfl, Upd.of_below hB1, hC1⟩
  | false =>
    clear hv'
    go_wp2_with fail
    go_loopg [7, 28] b.cks.length (fun n is i wx => ∃ (q : Nat) (o : Bool), q ≤ b.cks.length ∧ n = b.cks.length - q ∧ is = .bool o ∧ i = .int .i64 q ∧ (o && (b.cks.drop q).all (clockOk sp mi)) = rightL b.cks sp mi ∧ Below W1.heap.size W1 wx)
    case atStart => exact ⟨0, true, by omega, rfl, rfl, rfl, by simp [rightL], Below.refl _ _⟩
    case round =>
      obtain ⟨q1, o, hq1, hgk, rfl, rfl, hT, hbr⟩ := hrel
      have HG := Lib.hid hgk
      have HT := Lib.hid hT
      have hrz := hbr.size
      clear hgk hT hrun
      have u0 : wr.cell? ⟨W.heap.size + 1, 0, none⟩ = some (.int .i64 sp) := (hbr.cell (p := ⟨W.heap.size + 1, 0, none⟩) (by show W.heap.size + 1 < _; omega)).trans s0
      have u1 : wr.cell? ⟨W.heap.size + 1, 1, none⟩ = some (.int .i64 mi) := (hbr.cell (p := ⟨W.heap.size + 1, 1, none⟩) (by show W.heap.size + 1 < _; omega)).trans s1
      have lz : W.heap.size + 1 < wr.heap.size := by omega
      by_cases hlt : q1 < b.cks.length
      · obtain ⟨x, hx⟩ : ∃ x, b.cks[q1]? = some x := ⟨_, List.getElem?_eq_getElem hlt⟩
        obtain ⟨g, p, e1, hg, hcs⟩ := sl_at H4.out (show (ckCells b.cks)[q1]? = some x.cells by simp [ckCells, hx])
        subst e1
        obtain ⟨okx0, okx1, okx2⟩ := HOK.out x (List.mem_of_getElem? hx)
        have hdr : b.cks.drop q1 = x :: b.cks.drop (q1 + 1) := by
          rw [List.drop_eq_getElem_cons hlt]; rw [List.getElem?_eq_getElem hlt] at hx; cases hx; rfl
        have HD := Lib.hid hdr
        have hr : ∀ j c, x.cells[j]? = some c → wr.cell? ⟨g, p + q1 * 3 + j, none⟩ = some c := fun j c hj =>
          ((hB1.trans (hbr.mono (by omega))).cell (p := ⟨g, p + q1 * 3 + j, none⟩) (by show g < _; omega)).trans (hcs j c hj)
        have r0 : wr.cell? ⟨g, p + q1 * 3, none⟩ = some (.int .i64 x.st) := hr 0 _ rfl
        have r1 : wr.cell? ⟨g, p + q1 * 3 + 1, none⟩ = some (.int .i64 x.rd) := hr 1 _ rfl
        have r2 : wr.cell? ⟨g, p + q1 * 3 + 2, none⟩ = some (.int .i64 x.er) := hr 2 _ rfl
        clear hx hdr hr hcs
        cases o with
        | false =>
          go_wp2_with fail
          go_roundg (b.cks.length - (q1 + 1))
          case measure => rw [HG.out]; omega
          case rel => exact ⟨q1 + 1, false, hlt, rfl, rfl, by go_num, by rw [← HT.out]; rfl, hbr.alloc (by omega) _⟩
        | true =>
          by_cases hst : x.st = sp
          · have hst1 : (x.st != sp) = false := by simp [hst]
            have HST := Lib.hid hst
            clear hst
            go_wp2_with (go_at_call 66; refine (within_any _ _ _ _).mono ?_; rintro e w' ⟨rfl, rfl⟩)
            go_roundg (b.cks.length - (q1 + 1))
            case measure => rw [HG.out]; omega
            case rel => exact ⟨q1 + 1, _, hlt, rfl, rfl, by go_num, by rw [← HT.out, HD.out]; simp [clockOk, HST.out], hbr.alloc (by omega) _⟩
          · have hst1 : (x.st != sp) = true := by simp [hst]
            have HST := Lib.hid hst
            clear hst
            go_wp2_with fail
            go_roundg (b.cks.length - (q1 + 1))
            case measure => rw [HG.out]; omega
            case rel => exact ⟨q1 + 1, true, hlt, rfl, rfl, by go_num, by rw [← HT.out, HD.out]; simp [clockOk, HST.out], hbr.alloc (by omega) _⟩
      · have hkl : q1 = b.cks.length := by omega
        have hT1 : o = rightL b.cks sp mi := by have := HT.out; rw [hkl, List.drop_length] at this; simpa using this
        subst hT1
        have hCr : CacheOk wr M b.cks := hC1.of_block (hbr.block M hC1.lt)
        obtain ⟨ob, hput, hCp⟩ := put115 hCr sp mi _ rfl
        have u7 : wr.cell? ⟨W.heap.size, 7, none⟩ = some (Value.map (some M)) := (hbr.cell (p := ⟨W.heap.size, 7, none⟩) (by show W.heap.size < _; omega)).trans v7
        clear hkl HT
        go_wp2_with fail
        go_ret
        exact ⟨rfl, Upd.putObj (S := (· = M)) ((Upd.of_below hB1).trans (Upd.of_below hbr)) (.inl rfl) _, hCp⟩

/-- the numbers of a list, as a slice of int holds them. -/
def natCells (l : List Nat) : List (List Value) := l.map fun (x : Nat) => [.int .i64 (x : Int)]

set_option maxRecDepth 100000 in
set_option maxHeartbeats 400000 in
theorem index_any (W : World) (v : Value) (l : List Nat) (n k : Nat) (hs : SlOf W n 1 v (natCells l)) :
    Calls Tryd.prog 101 #[v, .int .i64 k] W fun e W' => (∃ r : Int, e = .returned (.int .i64 r) ∧ (0 ≤ r ↔ l.contains k = true)) ∧ W = W' := by
  obtain ⟨a, cap, rfl, h1, h2, h3, h4⟩ := hs
  simp only [natCells, List.length_map] at h1 h2
  unfold maxLen at h2
  have H4 := Lib.hid h4
  clear h3 h4
  simp only [natCells, List.length_map]
  obtain ⟨Post, hPost⟩ : ∃ Post : Ending → World → Prop, Post = fun e W' => (∃ r : Int, e = .returned (.int .i64 r) ∧ (0 ≤ r ↔ l.contains k = true)) ∧ W = W' := ⟨_, rfl⟩
  have HP := Lib.hid hPost
  rw [← hPost]
  clear hPost
  go_enter Tryd.func101, Tryd.ntmps101
  go_wp2_with fail
  go_loopg [8] l.length (fun n i wx => W = wx ∧ ∃ (q : Nat), q ≤ l.length ∧ n = l.length - q ∧ i = .int .i64 q ∧ (l.contains k = (l.drop q).contains k))
  case atStart => exact ⟨rfl, 0, by omega, rfl, rfl, by simp⟩
  case round =>
    obtain ⟨rfl, q1, hq1, hgk, rfl, hT⟩ := hrel
    have HG := Lib.hid hgk
    have HT := Lib.hid hT
    clear hgk hT
    by_cases hlt : q1 < l.length
    · obtain ⟨x, hx⟩ : ∃ x, l[q1]? = some x := ⟨_, List.getElem?_eq_getElem hlt⟩
      obtain ⟨g, p, e1, hg, hcs⟩ := sl_at H4.out (show (natCells l)[q1]? = some [.int .i64 (x : Int)] by simp [natCells, hx])
      subst e1
      have hdr : l.drop q1 = x :: l.drop (q1 + 1) := by
        rw [List.drop_eq_getElem_cons hlt]; rw [List.getElem?_eq_getElem hlt] at hx; cases hx; rfl
      have HD := Lib.hid hdr
      have r0 : W.cell? ⟨g, p + q1 * 1 + 0, none⟩ = some (.int .i64 (x : Int)) := hcs 0 _ rfl
      simp only [Nat.mul_one, Nat.add_zero] at r0
      clear hx hdr hcs
      by_cases hkx : k = x
      · subst hkx
        go_wp2_with fail
        rw [HP.out]
        exact ⟨⟨_, rfl, by rw [HT.out, HD.out]; simp⟩, rfl⟩
      · have hkx1 : ((k : Int) == (x : Int)) = false := by simp; omega
        have hkx2 : (k == x) = false := by simp [hkx]
        go_wp2_with fail
        go_roundg (l.length - (q1 + 1))
        case measure => rw [HG.out]; omega
        case rel => exact ⟨rfl, q1 + 1, hlt, rfl, by go_num, by rw [HT.out, HD.out, List.contains_cons, hkx2]; simp⟩
    · have hkl : q1 = l.length := by omega
      have hT1 : l.contains k = false := by rw [HT.out, hkl, List.drop_length]; rfl
      have HT1 := Lib.hid hT1
      clear hkl HT hT1
      go_wp2_with fail
      rw [HP.out]
      exact ⟨⟨_, rfl, by rw [HT1.out]; simp⟩, rfl⟩

set_option maxHeartbeats 400000 in
theorem contains_any (W : World) (v : Value) (l : List Nat) (n k : Nat) (hs : SlOf W n 1 v (natCells l)) :
    Calls Tryd.prog 94 #[v, .int .i64 k] W fun e W' => e = .returned (.bool (l.contains k)) ∧ W = W' := by
  have HS := Lib.hid hs
  clear hs
  go_enter Tryd.func94, Tryd.ntmps94
  go_wp2_with (go_at_call 101; refine (index_any _ _ l n k HS.out).mono ?_; rintro e w' ⟨⟨r, rfl, hr⟩, rfl⟩; have HR := Lib.hid hr; clear hr)
  all_goals (go_ret; exact ⟨ret_bool (by rw [Bool.eq_iff_iff, decide_eq_true_iff]; exact HR.out), rfl⟩)
end Go.Proofs.YtbhjfojbjpbdbaaDoor

-- A6: The iterator of package claim and the body of its loop share the heap: what each may write. Written by a session.
namespace Go.Proofs.YtbhjfojbjpbdbaaDoor
open Go.RowKit

/-- the block in which the truths lie that were gathered in the book at Bt. -/
def accBlk (Bt : Nat) (W : World) : Option Nat :=
  match W.cell? ⟨Bt, 8, none⟩ with
  | some (.slice (some a) _ _) => some a.block
  | _ => none

theorem accBlk_same {Bt : Nat} {W W' : World} (h : W'.heap[Bt]? = W.heap[Bt]?) : accBlk Bt W' = accBlk Bt W := by
  unfold accBlk
  rw [World.cell?_of_block (w := W) (a := ⟨Bt, 8, none⟩) h]

/-- a block that the loop's body does not write. -/
structure Safe (l Bt : Nat) (W : World) (k : Nat) : Prop where
  nl : k ≠ l
  nb : k ≠ Bt
  na : accBlk Bt W ≠ some k

/-- what the iterator and the body may do together: the map M, the loop's record l, the book at Bt, the block of its truths; new blocks. -/
structure Eff (M l Bt : Nat) (W W' : World) : Prop where
  upd : Upd (fun k => k = M ∨ k = l ∨ k = Bt ∨ accBlk Bt W = some k) W W'
  acc : ∀ k, accBlk Bt W' = some k → accBlk Bt W = some k ∨ W.heap.size ≤ k

section
variable {M l Bt : Nat}

theorem Eff.refl (W : World) : Eff M l Bt W W := ⟨Upd.refl _ _, fun _ h => .inl h⟩
theorem Eff.trans {a b c : World} (h : Eff M l Bt a b) (k : Eff M l Bt b c) : Eff M l Bt a c := by
  refine ⟨⟨k.upd.os.trans h.upd.os, k.upd.tape.trans h.upd.tape, k.upd.output.trans h.upd.output, Nat.le_trans h.upd.size k.upd.size, fun i hi hs => ?_⟩, fun i hi => ?_⟩
  · refine (k.upd.block i (Nat.lt_of_lt_of_le hi h.upd.size) ?_).trans (h.upd.block i hi hs)
    rintro (e | e | e | e)
    · exact hs (.inl e)
    · exact hs (.inr (.inl e))
    · exact hs (.inr (.inr (.inl e)))
    · rcases h.acc i e with e | e
      · exact hs (.inr (.inr (.inr e)))
      · omega
  · rcases k.acc i hi with e | e
    · exact h.acc i e
    · exact .inr (Nat.le_trans h.upd.size e)
theorem Eff.size {a b : World} (h : Eff M l Bt a b) : a.heap.size ≤ b.heap.size := h.upd.size
theorem Eff.of_below {a b : World} (hB : Bt < a.heap.size) (h : Below a.heap.size a b) : Eff M l Bt a b :=
  ⟨Upd.of_below h, fun _ hk => by rw [accBlk_same (h.block Bt hB)] at hk; exact .inl hk⟩
theorem Eff.of_updM {a b : World} (hB : Bt < a.heap.size) (hM : M ≠ Bt) (h : Upd (· = M) a b) : Eff M l Bt a b :=
  ⟨h.mono (fun _ _ e => .inl e), fun _ hk => by rw [accBlk_same (h.block Bt hB (fun e => hM e.symm))] at hk; exact .inl hk⟩
theorem Eff.setCell {a w : World} (h : Eff M l Bt a w) {p : Addr} (hp : a.heap.size ≤ p.block) (hne : p.block ≠ Bt) (v : Value) : Eff M l Bt a (w.setCell p v) :=
  ⟨h.upd.setCell (.inr hp) v, fun k hk => by rw [accBlk_same (Below.heap_setCell w p v Bt (fun e => hne e.symm))] at hk; exact h.acc k hk⟩
theorem Eff.alloc {a w : World} (h : Eff M l Bt a w) (hB : Bt < w.heap.size) (o : Obj) : Eff M l Bt a (w.alloc o) :=
  h.trans (Eff.of_below hB ((Below.refl _ _).alloc (Nat.le_refl _) o))
theorem Safe.eff {W W' : World} {k : Nat} (h : Safe l Bt W k) (hk : k < W.heap.size) (he : Eff M l Bt W W') : Safe l Bt W' k :=
  ⟨h.nl, h.nb, fun e => by rcases he.acc k e with e | e; exact h.na e; omega⟩
theorem Safe.block {W W' : World} {k : Nat} (h : Safe l Bt W k) (hk : k < W.heap.size) (hM : k ≠ M) (he : Eff M l Bt W W') : W'.heap[k]? = W.heap[k]? :=
  he.upd.block k hk (by rintro (e | e | e | e); exact hM e; exact h.nl e; exact h.nb e; exact h.na e)
/-- a block laid now. -/
theorem Safe.new {W : World} {k : Nat} (hl : l < W.heap.size) (hB : Bt < W.heap.size) (hacc : ∀ k, accBlk Bt W = some k → k < W.heap.size) (hk : W.heap.size ≤ k) : Safe l Bt W k :=
  ⟨by omega, by omega, fun e => by have := hacc k e; omega⟩

/-- a slice whose cells lie in a block that the body does not write. -/
def SlSafe (l Bt : Nat) (W : World) (v : Value) (rows : List (List Value)) : Prop := rows ≠ [] → ∀ a len cap, v = .slice (some a) len cap → Safe l Bt W a.block

theorem SlOf.eff {w w' : World} {n sz : Nat} {v : Value} {rows : List (List Value)} {es : Array MapEntry} {c : Nat} (hM : w.heap[M]? = some (.map es c)) (h : SlOf w n sz v rows) (hs : SlSafe l Bt w v rows) (he : Eff M l Bt w w') : SlOf w' n sz v rows := by
  obtain ⟨a, cap, e, h1, h2, h3, h4⟩ := h
  refine ⟨a, cap, e, h1, h2, h3, fun hp => ?_⟩
  obtain ⟨b, o, e1, h5, h6⟩ := h4 hp
  refine ⟨b, o, e1, h5, fun i j r c hi hj => ?_⟩
  have hc := h6 i j r c hi hj
  have hsafe := hs (List.length_pos_iff.1 hp) ⟨b, o, none⟩ _ _ (by rw [e, e1])
  have hlt : b < w.heap.size := lt_of_cell hc
  have hne : b ≠ M := ne_of_map hM hc
  exact (World.cell?_of_block (w := w) (a := ⟨b, o + i * sz + j, none⟩) (hsafe.block hlt hne he)).trans hc
theorem SlSafe.eff {w w' : World} {n sz : Nat} {v : Value} {rows : List (List Value)} (h : SlOf w n sz v rows) (hn : n ≤ w.heap.size) (hs : SlSafe l Bt w v rows) (he : Eff M l Bt w w') : SlSafe l Bt w' v rows := by
  obtain ⟨a, cap, e, h1, h2, h3, h4⟩ := h
  intro hr a' len' cap' e'
  obtain ⟨b, o, e1, h5, h6⟩ := h4 (List.length_pos_iff.2 hr)
  have := hs hr a' len' cap' e'
  rw [e, e1] at e'
  cases e'
  exact this.eff (by show b < _; omega) he

/-- what the iterator finds in the heap: the book, yield, right and drive in boxes; the slices; the map; the package-level variables. -/
structure Env (b : Bk) (s k tv : Value) (n M l Bt Bb By Br Bd : Nat) (W : World) : Prop where
  hb : W.heap[Bb]? = some (.cells (b.cells9 s k (.map (some M)) tv).toArray 79)
  hy : W.heap[By]? = some (.cells #[.func (.yield l) #[] #[]] 122)
  hr : W.heap[Br]? = some (.cells #[.func (.func 103) #[.agg (b.cells9 s k (.map (some M)) tv).toArray] #[]] 123)
  hd : W.heap[Bd]? = some (.cells #[.func (.func 104) #[] #[.pointer (some ⟨Bb, 0, none⟩), .pointer (some ⟨By, 0, none⟩), .pointer (some ⟨Br, 0, none⟩), .pointer (some ⟨Bd, 0, none⟩)]] 124)
  sb : Safe l Bt W Bb
  sy : Safe l Bt W By
  sr : Safe l Bt W Br
  sd : Safe l Bt W Bd
  s0 : Safe l Bt W 0
  s1 : Safe l Bt W 1
  sM : Safe l Bt W M
  hs : SlOf W n 7 s (stCells b.sts)
  ss : SlSafe l Bt W s (stCells b.sts)
  hk : SlOf W n 3 k (ckCells b.cks)
  sk : SlSafe l Bt W k (ckCells b.cks)
  hM : CacheOk W M b.cks
  hG : Glob W
  hn : n ≤ W.heap.size
  lB : Bt < W.heap.size
  ll : l < W.heap.size
  la : ∀ k, accBlk Bt W = some k → k < W.heap.size

theorem Env.eff {b : Bk} {s k tv : Value} {n Bb By Br Bd : Nat} {W W' : World} (h : Env b s k tv n M l Bt Bb By Br Bd W) (he : Eff M l Bt W W') (hC : CacheOk W' M b.cks) (hla : ∀ k, accBlk Bt W' = some k → k < W'.heap.size) :
    Env b s k tv n M l Bt Bb By Br Bd W' := by
  obtain ⟨es, c, hm, _⟩ := h.hM
  have nb : ∀ {B : Nat} {o : Obj}, W.heap[B]? = some o → o.isCells = true → B ≠ M := fun h1 h2 e => by rw [e, hm] at h1; cases h1; cases h2
  have keep : ∀ {B : Nat} {o : Obj}, W.heap[B]? = some o → o.isCells = true → Safe l Bt W B → W'.heap[B]? = some o := fun h1 h2 hs => (hs.block (Array.getElem?_eq_some_iff.1 h1).1 (nb h1 h2) he).trans h1
  have lt : ∀ {B : Nat} {o : Obj}, W.heap[B]? = some o → B < W.heap.size := fun h1 => (Array.getElem?_eq_some_iff.1 h1).1
  have g0 : W'.heap[0]? = W.heap[0]? := h.s0.block (lt_of_cell h.hG.k0) (ne_of_map hm h.hG.k0) he
  have g1 : W'.heap[1]? = W.heap[1]? := h.s1.block (lt_of_cell h.hG.n0) (ne_of_map hm h.hG.n0) he
  exact ⟨keep h.hb rfl h.sb, keep h.hy rfl h.sy, keep h.hr rfl h.sr, keep h.hd rfl h.sd,
    h.sb.eff (lt h.hb) he, h.sy.eff (lt h.hy) he, h.sr.eff (lt h.hr) he, h.sd.eff (lt h.hd) he, h.s0.eff (lt_of_cell h.hG.k0) he, h.s1.eff (lt_of_cell h.hG.n0) he, h.sM.eff (lt hm) he,
    h.hs.eff hm h.ss he, h.ss.eff h.hs h.hn he, h.hk.eff hm h.sk he, h.sk.eff h.hk h.hn he, hC,
    ⟨(World.cell?_of_block (w := W) (a := ⟨0, 0, none⟩) g0).trans h.hG.k0, (World.cell?_of_block (w := W) (a := ⟨0, 1, none⟩) g0).trans h.hG.k1,
     (World.cell?_of_block (w := W) (a := ⟨1, 0, none⟩) g1).trans h.hG.n0, (World.cell?_of_block (w := W) (a := ⟨1, 1, none⟩) g1).trans h.hG.n1⟩,
    Nat.le_trans h.hn he.size, Nat.lt_of_lt_of_le h.lB he.size, Nat.lt_of_lt_of_le h.ll he.size, hla⟩
end
end Go.Proofs.YtbhjfojbjpbdbaaDoor

-- A7: The contract of the closure that goes on stage by stage (package claim, whole). Written by a session.
namespace Go.Proofs.YtbhjfojbjpbdbaaDoor
open Go.RowKit

structure AccLaw (l Bt : Nat) (Acc : List Tr → World → Prop) : Prop where
  keep : ∀ pre W W', Acc pre W → W.heap.size ≤ W'.heap.size → (∀ k, (k = l ∨ k = Bt ∨ accBlk Bt W = some k) → W'.heap[k]? = W.heap[k]?) → Acc pre W'
  lt : ∀ pre W k, Acc pre W → accBlk Bt W = some k → k < W.heap.size

/-- the round of the loop over the iterator: it takes one truth more. -/
def YieldsTo (l Bt N : Nat) (Acc : List Tr → World → Prop) : Prop := ∀ (pre : List Tr) (t : Tr) (W : World), Acc pre W → TrOk t → pre.length < N →
  YieldAt Fence.wide 0 Tryd.prog l #[.agg t.cells.toArray] W fun e W' => e = .returned (.bool true) ∧ Acc (pre ++ [t]) W' ∧
    Upd (fun k => k = l ∨ k = Bt ∨ accBlk Bt W = some k) W W' ∧ (∀ k, accBlk Bt W' = some k → accBlk Bt W = some k ∨ W.heap.size ≤ k)

theorem acc_below {l Bt : Nat} {Acc : List Tr → World → Prop} (hA : AccLaw l Bt Acc) {pre : List Tr} {W W' : World} (h : Acc pre W) (hl : l < W.heap.size) (hB : Bt < W.heap.size) (hb : Below W.heap.size W W') : Acc pre W' :=
  hA.keep pre W W' h hb.size (fun k hk => hb.block k (by rcases hk with rfl | rfl | hk; exact hl; exact hB; exact hA.lt _ _ _ h hk))
theorem Env.below {b : Bk} {s k tv : Value} {n M l Bt Bb By Br Bd : Nat} {W W' : World} (h : Env b s k tv n M l Bt Bb By Br Bd W) (hb : Below W.heap.size W W') : Env b s k tv n M l Bt Bb By Br Bd W' :=
  h.eff (Eff.of_below h.lB hb) (h.hM.of_block (hb.block M h.hM.lt)) (fun k hk => by rw [accBlk_same (hb.block Bt h.lB)] at hk; exact Nat.lt_of_lt_of_le (h.la k hk) hb.size)

set_option maxHeartbeats 400000 in
theorem waiting_any (W : World) : Calls Tryd.prog 105 #[] W fun e W' => e = .returned (.agg #[.int .i64 0, .int .i64 0, .int .i64 0]) ∧ Below W.heap.size W W' := by
  go_enter Tryd.func105, Tryd.ntmps105
  go_wp2
  refine bodyPost_ret (v := .agg #[.int .i64 0, .int .i64 0, .int .i64 0]) (by simp [results, Tryd.results105, go_sem]) rfl ⟨rfl, ((Below.refl _ _).alloc (Nat.le_refl _) _).alloc (by simp) _⟩

theorem info3 : ∃ i, Tryd.prog.info? 3 = some i := by
  have h : (Tryd.prog.info? 3).isSome = true := by kernel_rfl
  cases h1 : Tryd.prog.info? 3 with
  | none => rw [h1] at h; cases h
  | some i => exact ⟨i, rfl⟩

theorem eq85 (x y z : Int) (hx : ¬ x = 0) : ∀ w, (binOp .eql 85 (.agg #[.int .i64 x, .int .i64 y, .int .i64 z]) (.agg #[.int .i64 0, .int .i64 0, .int .i64 0])).run Tryd.prog w = .ok (.bool false) w := by
  intro w
  obtain ⟨i, hi⟩ := info3
  have h1 : (x == 0) = false := by simp [hx]
  have hq : (Op.equalIn (9999 + 1) 85 (.agg #[.int .i64 x, .int .i64 y, .int .i64 z]) (.agg #[.int .i64 0, .int .i64 0, .int .i64 0])).run Tryd.prog w = .ok false w := by
    rw [run_equalIn_array w 9999 _ _ Tryd.underlying85 hi]
    simp [List.range, List.range.loop, Op.eqItems, go_sem, h1]
  rw [run_eql_struct]
  show ((Op.equalIn (9999 + 1) 85 _ _).run _ _).andThen _ = _
  rw [hq]
  rfl

/-- a valid book, as the iterator wants it. -/
structure Big (b : Bk) : Prop where
  bd : Bds b
  ck : CksOk b.cks
  nc : b.cks.length ≤ 1000
  st : ∀ x ∈ b.sts, (1 ≤ x.dl ∧ x.dl ≤ x.dh ∧ x.dh ≤ 90) ∧ (0 ≤ x.rl ∧ x.rl ≤ x.rh ∧ x.rh ≤ 30) ∧ (0 ≤ x.sl ∧ x.sl ≤ x.sh ∧ x.sh ≤ 20)
  co : ∀ k, 0 ≤ b.cost k ∧ b.cost k ≤ 30

theorem upto_cons {lo hi : Int} (h : lo ≤ hi) : upto lo hi = lo :: upto (lo + 1) hi := by
  unfold upto
  have e : (hi - lo + 1).toNat = (hi - (lo + 1) + 1).toNat + 1 := by omega
  rw [e, List.range_succ_eq_map, List.map_cons, List.map_map]
  simp only [Int.natCast_zero, Int.add_zero, List.cons.injEq, true_and]
  refine List.map_congr_left fun x _ => ?_
  simp only [Function.comp, Nat.succ_eq_add_one]
  omega
theorem upto_nil {lo hi : Int} (h : hi < lo) : upto lo hi = [] := by
  unfold upto
  rw [show (hi - lo + 1).toNat = 0 by omega]
  rfl

section
variable {b : Bk} {s k tv : Value} {n M l Bt Bb By Br Bd N : Nat} {Acc : List Tr → World → Prop}

set_option maxRecDepth 100000 in
set_option maxHeartbeats 1000000 in
theorem drive_leaf (hA : AccLaw l Bt Acc) (hY : YieldsTo l Bt N Acc) (hb : Big b) (j : Nat) (t : Tr) (fr : Int) (pre : List Tr) (W : World) (hj : j = b.sts.length) (ht : TrOk t) (h0 : 1 ≤ t.a0)
    (hE : Env b s k tv n M l Bt Bb By Br Bd W) (hacc : Acc pre W) (hNN : pre.length < N) :
    Calls Tryd.prog 104 #[.agg t.cells.toArray, .int .i64 j, .int .i64 fr, .pointer (some ⟨Bb, 0, none⟩), .pointer (some ⟨By, 0, none⟩), .pointer (some ⟨Br, 0, none⟩), .pointer (some ⟨Bd, 0, none⟩)] W fun e W' =>
      e = .returned (.bool true) ∧ Acc (pre ++ [t]) W' ∧ Eff M l Bt W W' ∧ CacheOk W' M b.cks ∧ Env b s k tv n M l Bt Bb By Br Bd W' := by
  subst hj
  obtain ⟨sa, scap, rfl, hs1, hs2, hs3, hs4⟩ := hE.hs
  have hsl : (stCells b.sts).length = b.sts.length := by simp [stCells]
  have hl3 := hb.bd.l3
  have hBW : Bb < W.heap.size := (Array.getElem?_eq_some_iff.1 hE.hb).1
  have hyW : By < W.heap.size := (Array.getElem?_eq_some_iff.1 hE.hy).1
  obtain ⟨V, hV⟩ : ∃ V, W.alloc (Obj.cells t.cells.toArray 87) = V := ⟨_, rfl⟩
  have hBV : Below W.heap.size W V := by rw [← hV]; exact (Below.refl _ _).alloc (Nat.le_refl _) _
  have hVz : V.heap.size = W.heap.size + 1 := by rw [← hV]; simp
  have hVt : V.heap[W.heap.size]? = some (.cells t.cells.toArray 87) := by rw [← hV]; exact World.alloc_heap_new _ _
  have hEV := hE.below hBV
  have hAV := acc_below hA hacc hE.ll hE.lB hBV
  have v0 : V.cell? ⟨Bb, 0, none⟩ = some (.slice sa b.sts.length scap) := by rw [blk_cell hEV.hb, hsl]; rfl
  have y0 : V.cell? ⟨By, 0, none⟩ = some (.func (.yield l) #[] #[]) := blk_cell hEV.hy
  have t0 : V.cell? ⟨W.heap.size, 0, none⟩ = some (.int .i64 t.w) := blk_cell hVt
  have t1 : V.cell? ⟨W.heap.size, 1, none⟩ = some (.int .i64 t.a0) := blk_cell hVt
  have t2 : V.cell? ⟨W.heap.size, 2, none⟩ = some (.int .i64 t.a1) := blk_cell hVt
  have t3 : V.cell? ⟨W.heap.size, 3, none⟩ = some (.int .i64 t.a2) := blk_cell hVt
  have t4 : V.cell? ⟨W.heap.size, 4, none⟩ = some (.int .i64 t.b0) := blk_cell hVt
  have t5 : V.cell? ⟨W.heap.size, 5, none⟩ = some (.int .i64 t.b1) := blk_cell hVt
  have t6 : V.cell? ⟨W.heap.size, 6, none⟩ = some (.int .i64 t.b2) := blk_cell hVt
  have l0 : W.heap.size < V.heap.size := by omega
  have l1 : Bb < V.heap.size := by omega
  have l2 : By < V.heap.size := by omega
  have heq := eq85 t.a0 t.a1 t.a2 (by omega)
  have HE := Lib.hid hE
  have HEV := Lib.hid hEV
  have HAV := Lib.hid hAV
  have HYH := Lib.hid hY
  have HA := Lib.hid hA
  clear hE hEV hAV hY hA hs1 hs2 hs3 hs4 hVt hacc hVz
  simp only [Tr.cells] at hV
  simp only [Tr.cells]
  go_enter Tryd.func104, Tryd.ntmps104
  go_upto_region 2 with fail
  try rw [hV]
  clear hV
  refine wp_region_det (S := fun L w' => (L 7 = false ∧ (∀ b o, b < V.heap.size → w'.cell? ⟨b, o, none⟩ = V.cell? ⟨b, o, none⟩) ∧ Below V.heap.size V w') ∨ (L 7 = true ∧ Acc (pre ++ [t]) w' ∧ Eff M l Bt V w' ∧ CacheOk w' M b.cks)) (by kernel_rfl) (by kernel_rfl) (.inl ⟨rfl, hs0 V⟩) ?_
  apply det_cons
  · refine ⟨by rfl, fun L w hN hS => ?_⟩
    have h7 : L 7 = false := (hN.chain (hN.chain (hN.chain (hN.chain hN.free (k := 1) (by kernel_rfl)) (k := 3) (by kernel_rfl)) (k := 4) (by kernel_rfl)) (k := 7) (by kernel_rfl))
    obtain ⟨_, hcc, hu⟩ := hS.resolve_right (by rw [h7]; simp)
    clear hS
    have H7 := Lib.hid h7
    clear h7
    go_simp
    exact ⟨rfl, fun L' _ h2 => .inl ⟨by rw [h2 7 (by decide)]; exact H7.out, hcc, hu⟩⟩
  try simp only [Act.put, List.setIfInBounds_toArray, List.set_cons_zero, List.set_cons_succ]
  apply det_cons
  · refine ⟨by rfl, fun L w hN hS => ?_⟩
    have h7 : L 7 = false := (hN.chain (hN.chain (hN.chain hN.free (k := 3) (by kernel_rfl)) (k := 4) (by kernel_rfl)) (k := 7) (by kernel_rfl))
    obtain ⟨_, hcc, hu⟩ := hS.resolve_right (by rw [h7]; simp)
    clear hS
    have H7 := Lib.hid h7
    clear h7
    go_simp
    exact ⟨rfl, fun L' _ h2 => .inl ⟨by rw [h2 7 (by decide)]; exact H7.out, hcc, hu⟩⟩
  try simp only [Act.put, List.setIfInBounds_toArray, List.set_cons_zero, List.set_cons_succ]
  apply det_cons
  · refine ⟨by rfl, fun L w hN hS => ?_⟩
    have h7 : L 7 = false := (hN.chain (hN.chain (hN.chain hN.free (k := 3) (by kernel_rfl)) (k := 4) (by kernel_rfl)) (k := 7) (by kernel_rfl))
    obtain ⟨_, hcc, hu⟩ := hS.resolve_right (by rw [h7]; simp)
    clear hS
    have H7 := Lib.hid h7
    clear h7
    go_simp
    refine (waiting_any _).mono ?_
    rintro e w' ⟨rfl, hbb⟩
    exact ⟨rfl, fun L' _ h2 => .inl ⟨by rw [h2 7 (by decide)]; exact H7.out, hs1 hbb ⟨hcc, hu⟩⟩⟩
  try simp only [Act.put, List.setIfInBounds_toArray, List.set_cons_zero, List.set_cons_succ]
  apply det_cons
  · refine ⟨by rfl, fun L w hN hS => ?_⟩
    have h7 : L 7 = false := (hN.chain (hN.chain hN.free (k := 4) (by kernel_rfl)) (k := 7) (by kernel_rfl))
    obtain ⟨_, hcc, hu⟩ := hS.resolve_right (by rw [h7]; simp)
    clear hS
    have H7 := Lib.hid h7
    clear h7
    go_simp
    exact ⟨rfl, fun L' _ h2 => .inl ⟨by rw [h2 7 (by decide)]; exact H7.out, hcc, hu⟩⟩
  try simp only [Act.put, List.setIfInBounds_toArray, List.set_cons_zero, List.set_cons_succ]
  apply det_cons
  · refine ⟨by rfl, fun L w hN hS => ?_⟩
    have h7 : L 7 = false := (hN.chain hN.free (k := 7) (by kernel_rfl))
    obtain ⟨_, hcc, hu⟩ := hS.resolve_right (by rw [h7]; simp)
    clear hS
    have H7 := Lib.hid h7
    clear h7
    go_simp
    exact ⟨rfl, fun L' _ h2 => .inl ⟨by rw [h2 7 (by decide)]; exact H7.out, hcc, hu⟩⟩
  try simp only [Act.put, List.setIfInBounds_toArray, List.set_cons_zero, List.set_cons_succ]
  apply det_cons
  · refine ⟨by rfl, fun L w hN hS => ?_⟩
    have h7 : L 7 = false := (hN.chain hN.free (k := 7) (by kernel_rfl))
    obtain ⟨_, hcc, hu⟩ := hS.resolve_right (by rw [h7]; simp)
    clear hS
    have H7 := Lib.hid h7
    clear h7
    go_simp
    exact ⟨rfl, fun L' _ h2 => .inl ⟨by rw [h2 7 (by decide)]; exact H7.out, hcc, hu⟩⟩
  try simp only [Act.put, List.setIfInBounds_toArray, List.set_cons_zero, List.set_cons_succ]
  apply det_cons
  · refine ⟨by rfl, fun L w hN hS => ?_⟩
    have h7 : L 7 = false := (hN.chain hN.free (k := 7) (by kernel_rfl))
    obtain ⟨_, hcc, hu⟩ := hS.resolve_right (by rw [h7]; simp)
    clear hS
    have H7 := Lib.hid h7
    clear h7
    go_simp
    exact ⟨rfl, fun L' _ h2 => .inl ⟨by rw [h2 7 (by decide)]; exact H7.out, hcc, hu⟩⟩
  try simp only [Act.put, List.setIfInBounds_toArray, List.set_cons_zero, List.set_cons_succ]
  apply det_cons
  · refine ⟨by rfl, fun L w hN hS => ?_⟩
    obtain ⟨_, hcc, hu⟩ := hS.resolve_right (by rw [hN.free]; simp)
    clear hS
    have haw : Acc pre w := acc_below HA.out HAV.out HEV.out.ll HEV.out.lB hu
    obtain ⟨fn, tmps, assign, body, hy, hR⟩ := HYH.out pre t w haw ht hNN
    simp only [Tr.cells] at hy
    have HR := Lib.hid hR
    clear hR haw
    go_simp
    refine RoundIn.mono HR.out ?_
    rintro e w' ⟨rfl, h1, h2, h3⟩
    refine ⟨rfl, fun L' hL' _ => .inr ⟨hL', h1, (Eff.of_below HEV.out.lB hu).trans ⟨h2.mono (fun k _ hk => .inr hk), h3⟩, ?_⟩⟩
    have hEw := HEV.out.below hu
    exact hEw.hM.of_block (h2.block M hEw.hM.lt (by rintro (e | e | e); exact hEw.sM.nl e; exact hEw.sM.nb e; exact hEw.sM.na e))
  try simp only [Act.put, List.setIfInBounds_toArray, List.set_cons_zero, List.set_cons_succ]
  apply det_cons
  · refine ⟨by rfl, fun L w hN hS => ?_⟩
    have h7 : L 7 = true := hN.was (by kernel_rfl)
    obtain ⟨_, h1, h2, h3⟩ := hS.resolve_left (by rw [h7]; simp)
    clear hS
    have H7 := Lib.hid h7
    clear h7
    go_simp
    exact ⟨rfl, fun L' _ hL => .inr ⟨by rw [hL 7 (by decide)]; exact H7.out, h1, h2, h3⟩⟩
  try simp only [Act.put, List.setIfInBounds_toArray, List.set_cons_zero, List.set_cons_succ]
  apply det_cons
  · refine ⟨by rfl, fun L w hN hS => ?_⟩
    have h7 : L 7 = true := hN.was (by kernel_rfl)
    obtain ⟨_, h1, h2, h3⟩ := hS.resolve_left (by rw [h7]; simp)
    clear hS
    have H7 := Lib.hid h7
    clear h7
    go_simp
    exact ⟨rfl, fun L' _ hL => .inr ⟨by rw [hL 7 (by decide)]; exact H7.out, h1, h2, h3⟩⟩
  try simp only [Act.put, List.setIfInBounds_toArray, List.set_cons_zero, List.set_cons_succ]
  refine det_nil ?_
  rintro L w' hL hS
  obtain ⟨_, h1, h2, h3⟩ := hS.resolve_left (by rw [hL 7 (by decide)]; simp)
  clear hS hL
  go_wp2
  go_ret
  have he : Eff M l Bt W w' := (Eff.of_below HE.out.lB hBV).trans h2
  exact ⟨rfl, h1, he, h3, HE.out.eff he h3 (HA.out.lt _ _ · h1)⟩
end
end Go.Proofs.YtbhjfojbjpbdbaaDoor

-- A8: The contract of the closure that goes on stage by stage: one stage (package claim, whole). Written by a session.
namespace Go.Proofs.YtbhjfojbjpbdbaaDoor
open Go.RowKit

section
variable {b : Bk} {s k tv : Value} {n M l Bt Bb By Br Bd N : Nat} {Acc : List Tr → World → Prop}

/-- where one stage's walk stands: the truths gathered, the truth and the stage in their boxes; W: the world in which the call began. -/
structure Loc (b : Bk) (M l Bt : Nat) (Acc : List Tr → World → Prop) (Tb Xb : Nat) (x : St) (W : World) (t' : Tr) (cur : List Tr) (wx : World) : Prop where
  acc : Acc cur wx
  eff : Eff M l Bt W wx
  cache : CacheOk wx M b.cks
  tb : wx.heap[Tb]? = some (.cells t'.cells.toArray 87)
  xb : wx.heap[Xb]? = some (.cells x.cells.toArray 56)
  st : Safe l Bt wx Tb
  sx : Safe l Bt wx Xb

variable {Tb Xb : Nat} {x : St} {W : World} {t' : Tr} {cur : List Tr}

theorem nM_of_cells {W : World} {B : Nat} {c : Array Value} {T : TypeId} {cks : List Ck} (hC : CacheOk W M cks) (h : W.heap[B]? = some (.cells c T)) : B ≠ M := by
  obtain ⟨es, c', hm, _⟩ := hC
  intro e
  rw [e, hm] at h
  cases h

theorem Loc.env {wx : World} (h : Loc b M l Bt Acc Tb Xb x W t' cur wx) (hA : AccLaw l Bt Acc) (hE : Env b s k tv n M l Bt Bb By Br Bd W) : Env b s k tv n M l Bt Bb By Br Bd wx :=
  hE.eff h.eff h.cache (fun k hk => hA.lt _ _ k h.acc hk)

theorem Loc.step {wx wy : World} (h : Loc b M l Bt Acc Tb Xb x W t' cur wx) {cur' : List Tr} (he : Eff M l Bt wx wy) (ha : Acc cur' wy) (hC : CacheOk wy M b.cks) : Loc b M l Bt Acc Tb Xb x W t' cur' wy := by
  have lt : ∀ {B : Nat} {o : Obj}, wx.heap[B]? = some o → B < wx.heap.size := fun h1 => (Array.getElem?_eq_some_iff.1 h1).1
  exact ⟨ha, h.eff.trans he, hC, (h.st.block (lt h.tb) (nM_of_cells h.cache h.tb) he).trans h.tb, (h.sx.block (lt h.xb) (nM_of_cells h.cache h.xb) he).trans h.xb,
    h.st.eff (lt h.tb) he, h.sx.eff (lt h.xb) he⟩

theorem Loc.below {wx wy : World} (h : Loc b M l Bt Acc Tb Xb x W t' cur wx) (hA : AccLaw l Bt Acc) (hE : Env b s k tv n M l Bt Bb By Br Bd W) (hb : Below wx.heap.size wx wy) : Loc b M l Bt Acc Tb Xb x W t' cur wy :=
  have hx := h.env hA hE
  h.step (Eff.of_below hx.lB hb) (acc_below hA h.acc hx.ll hx.lB hb) (h.cache.of_block (hb.block M h.cache.lt))

theorem Loc.right {wx wy : World} (h : Loc b M l Bt Acc Tb Xb x W t' cur wx) (hA : AccLaw l Bt Acc) (hE : Env b s k tv n M l Bt Bb By Br Bd W) (hu : Upd (· = M) wx wy) (hC : CacheOk wy M b.cks) : Loc b M l Bt Acc Tb Xb x W t' cur wy := by
  have hx := h.env hA hE
  have hM := hx.sM
  have he : Eff M l Bt wx wy := Eff.of_updM hx.lB hM.nb hu
  refine h.step he (hA.keep _ _ _ h.acc hu.size fun k hk => hu.block k ?_ ?_) hC
  · rcases hk with rfl | rfl | hk
    · exact hx.ll
    · exact hx.lB
    · exact hx.la k hk
  · rintro rfl
    rcases hk with e | e | e
    · exact hM.nl e
    · exact hM.nb e
    · exact hM.na e

theorem put_cells (t : Tr) {j : Nat} (hj : j < 3) (m r : Int) : (t.cells.toArray.setIfInBounds (1 + j) (.int .i64 m)).setIfInBounds (4 + j) (.int .i64 r) = (t.put j m r).cells.toArray := by
  have hkk : j = 0 ∨ j = 1 ∨ j = 2 := by omega
  rcases hkk with rfl | rfl | rfl <;> rfl

theorem tr_cell_b {W : World} {B : Nat} (t : Tr) (h : W.heap[B]? = some (.cells t.cells.toArray 87)) {k : Nat} (hk : k < 3) : W.cell? ⟨B, 4 + k, none⟩ = some (.int .i64 (t.rough k)) := by
  rw [blk_cell h]
  have hkk : k = 0 ∨ k = 1 ∨ k = 2 := by omega
  rcases hkk with rfl | rfl | rfl <;> rfl

/-- the two stores into the truth's box. -/
theorem Loc.put {wx : World} (h : Loc b M l Bt Acc Tb Xb x W t' cur wx) (hA : AccLaw l Bt Acc) {j : Nat} (hj : j < 3) (m r : Int) (hne : Tb ≠ Xb) (hV : W.heap.size ≤ Tb) :
    Loc b M l Bt Acc Tb Xb x W (t'.put j m r) cur ((wx.setCell ⟨Tb, 1 + j, none⟩ (.int .i64 m)).setCell ⟨Tb, 4 + j, none⟩ (.int .i64 r)) := by
  have hsame : ∀ k, k ≠ Tb → ((wx.setCell ⟨Tb, 1 + j, none⟩ (.int .i64 m)).setCell ⟨Tb, 4 + j, none⟩ (.int .i64 r)).heap[k]? = wx.heap[k]? := fun k hk =>
    (Below.heap_setCell _ _ _ _ hk).trans (Below.heap_setCell _ _ _ _ hk)
  have hsz : ((wx.setCell ⟨Tb, 1 + j, none⟩ (.int .i64 m)).setCell ⟨Tb, 4 + j, none⟩ (.int .i64 r)).heap.size = wx.heap.size := by simp [World.setCell]
  have hacc := accBlk_same (hsame Bt (fun e => h.st.nb e.symm))
  refine ⟨hA.keep _ _ _ h.acc (by omega) (fun k hk => hsame k ?_), (h.eff.setCell hV h.st.nb _).setCell hV h.st.nb _, h.cache.of_block (hsame M (fun e => nM_of_cells h.cache h.tb e.symm)), ?_, (hsame Xb hne.symm).trans h.xb,
    ⟨h.st.nl, h.st.nb, by rw [hacc]; exact h.st.na⟩, ⟨h.sx.nl, h.sx.nb, by rw [hacc]; exact h.sx.na⟩⟩
  · rintro rfl
    rcases hk with e | e | e
    · exact h.st.nl e
    · exact h.st.nb e
    · exact h.st.na e
  · rw [← put_cells t' hj]
    exact blk_set (blk_set h.tb)

theorem put_put (t : Tr) (j : Nat) (m r m' r' : Int) : (t.put j m r).put j m' r' = t.put j m' r' := by
  rcases j with _ | _ | j <;> rfl
theorem put_w (t : Tr) (j : Nat) (m r : Int) : (t.put j m r).w = t.w := by
  unfold Tr.put
  split <;> rfl
theorem put_ok {t : Tr} (h : TrOk t) {j : Nat} {m r : Int} (hm : 0 ≤ m ∧ m ≤ 1000) (hr : 0 ≤ r ∧ r ≤ 30) : TrOk (t.put j m r) := by
  obtain ⟨h0, h1, h2, h3, h4, h5, h6⟩ := h
  unfold Tr.put
  split
  · exact ⟨h0, hm, h2, h3, hr, h5, h6⟩
  · exact ⟨h0, h1, hm, h3, h4, hr, h6⟩
  · exact ⟨h0, h1, h2, hm, h4, h5, hr⟩
theorem put_a0 {t : Tr} {j : Nat} {m r : Int} (hm : 1 ≤ m) (h : 0 < j → 1 ≤ t.a0) : 1 ≤ (t.put j m r).a0 := by
  unfold Tr.put
  split
  · exact hm
  · exact h (by omega)
  · rename_i h1 h2; exact h (by rcases Nat.eq_zero_or_pos j with e | e; exact absurd e h1; exact e)

theorem idx_bd {x : St} {b : Bk} (hb : Big b) {j : Nat} (h : b.sts[j]? = some x) : (1 ≤ x.dl ∧ x.dl ≤ x.dh ∧ x.dh ≤ 90) ∧ (0 ≤ x.rl ∧ x.rl ≤ x.rh ∧ x.rh ≤ 30) ∧ (0 ≤ x.sl ∧ x.sl ≤ x.sh ∧ x.sh ≤ 20) :=
  hb.st x (List.mem_of_getElem? h)

/-- the parts of what is gathered in one stage. -/
def goStops (cost : Int) (cks : List Ck) (l : List St) (j : Nat) (t : Tr) (minute r : Int) (ss : List Int) : List Tr := ss.flatMap fun s => goes cost cks l (j + 1) (t.put j minute r) (minute + s)
def goRoads (cost : Int) (cks : List Ck) (x : St) (l : List St) (j : Nat) (t : Tr) (fr d : Int) (rs : List Int) : List Tr := rs.flatMap fun r =>
  if rightL cks j (fr + d + r + cost) then goStops cost cks l j t (fr + d + r + cost) r (upto x.sl x.sh) else []
def goDrives (cost : Int) (cks : List Ck) (x : St) (l : List St) (j : Nat) (t : Tr) (fr : Int) (ds : List Int) : List Tr := ds.flatMap fun d => goRoads cost cks x l j t fr d (upto x.rl x.rh)
theorem goes_cons (cost : Int) (cks : List Ck) (x : St) (l : List St) (j : Nat) (t : Tr) (fr : Int) : goes cost cks (x :: l) j t fr = goDrives cost cks x l j t fr (upto x.dl x.dh) := rfl

theorem goRoads_cons (cost : Int) (cks : List Ck) (x : St) (l : List St) (j : Nat) (t : Tr) (fr d : Int) {r rh : Int} (h : r ≤ rh) : goRoads cost cks x l j t fr d (upto r rh) =
    (if rightL cks j (fr + d + r + cost) then goStops cost cks l j t (fr + d + r + cost) r (upto x.sl x.sh) else []) ++ goRoads cost cks x l j t fr d (upto (r + 1) rh) := by rw [upto_cons h]; rfl
theorem goStops_cons (cost : Int) (cks : List Ck) (l : List St) (j : Nat) (t : Tr) (m r : Int) {s sh : Int} (h : s ≤ sh) : goStops cost cks l j t m r (upto s sh) =
    goes cost cks l (j + 1) (t.put j m r) (m + s) ++ goStops cost cks l j t m r (upto (s + 1) sh) := by rw [upto_cons h]; rfl
theorem goDrives_cons (cost : Int) (cks : List Ck) (x : St) (l : List St) (j : Nat) (t : Tr) (fr : Int) {d dh : Int} (h : d ≤ dh) : goDrives cost cks x l j t fr (upto d dh) =
    goRoads cost cks x l j t fr d (upto x.rl x.rh) ++ goDrives cost cks x l j t fr (upto (d + 1) dh) := by rw [upto_cons h]; rfl

theorem Safe.new' {W W' : World} {K : Nat} (hE : Env b s k tv n M l Bt Bb By Br Bd W) (hb : Below W.heap.size W W') (hK : W.heap.size ≤ K) : Safe l Bt W' K :=
  ⟨by have := hE.ll; omega, by have := hE.lB; omega, fun e => by rw [accBlk_same (hb.block Bt hE.lB)] at e; have := hE.la K e; omega⟩

theorem five_slice (wr : World) (a b c d e : Int) : SlOf (wr.alloc (.cells #[.int .i64 a, .int .i64 b, .int .i64 c, .int .i64 d, .int .i64 e] 3)).drew (wr.heap.size + 1) 1 (.slice (some ⟨wr.heap.size, 0, none⟩) 5 5) (intCells [a, b, c, d, e]) := by
  refine ⟨_, 5, rfl, by simp [intCells], by simp [maxLen, intCells], by simp [intCells], fun _ => ⟨wr.heap.size, 0, rfl, by omega, fun i j r v hi hj => ?_⟩⟩
  have hi5 : i < 5 := by
    rcases Nat.lt_or_ge i 5 with h | h
    · exact h
    · rw [List.getElem?_eq_none (by simp [intCells]; omega)] at hi; cases hi
  have h1 := cell_new (w := wr) (c := #[.int .i64 a, .int .i64 b, .int .i64 c, .int .i64 d, .int .i64 e]) (T := 3) (j := 0 + i * 1 + j)
  refine Eq.trans (show _ = (wr.alloc (.cells #[.int .i64 a, .int .i64 b, .int .i64 c, .int .i64 d, .int .i64 e] 3)).cell? ⟨wr.heap.size, 0 + i * 1 + j, none⟩ from rfl) ?_
  rw [h1]
  have hii : i = 0 ∨ i = 1 ∨ i = 2 ∨ i = 3 ∨ i = 4 := by omega
  rcases hii with rfl | rfl | rfl | rfl | rfl <;> simp [intCells] at hi <;> subst hi <;> (rcases j with _ | j <;> simp at hj <;> subst hj <;> rfl)
theorem five_sum (fr dl d r c : Int) : [fr, dl, d, r, c].sum = fr + (dl + d) + r + c := by simp; omega

/-- what is claimed of a call of the closure at stage j. -/
def DriveAt (b : Bk) (s k tv : Value) (n M l Bt Bb By Br Bd N wn : Nat) (Acc : List Tr → World → Prop) (rest : List St) : Prop :=
  ∀ (j : Nat) (t : Tr) (fr : Int) (pre : List Tr) (W : World), b.sts.drop j = rest → j ≤ b.sts.length → TrOk t → t.w = (wn : Int) → (0 < j → 1 ≤ t.a0) → (0 ≤ fr ∧ fr ≤ 170 * j) →
    Env b s k tv n M l Bt Bb By Br Bd W → Acc pre W → (pre ++ goes (b.cost wn) b.cks rest j t fr).length ≤ N →
    Calls Tryd.prog 104 #[.agg t.cells.toArray, .int .i64 j, .int .i64 fr, .pointer (some ⟨Bb, 0, none⟩), .pointer (some ⟨By, 0, none⟩), .pointer (some ⟨Br, 0, none⟩), .pointer (some ⟨Bd, 0, none⟩)] W fun e W' =>
      e = .returned (.bool true) ∧ Acc (pre ++ goes (b.cost wn) b.cks rest j t fr) W' ∧ Eff M l Bt W W' ∧ CacheOk W' M b.cks

end
end Go.Proofs.YtbhjfojbjpbdbaaDoor
