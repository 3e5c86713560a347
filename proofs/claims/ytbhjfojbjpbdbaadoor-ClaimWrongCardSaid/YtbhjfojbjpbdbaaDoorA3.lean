/-
  Contracts of package claim on truths in memory: sum, waiting, last, late, told. Written by this session.
-/
import Derived.Test.YtbhjfojbjpbdbaaDoorA2
import Derived.Test.YtbhjfojbjpbdbaaDoorD
import Derived.Deep.RegionHeld3
import Derived.Laws.EntriesVeiled
import Derived.Deep.DeepFit
import Derived.Deep.DeepMust
namespace Go.Proofs.YtbhjfojbjpbdbaaDoor
open Go.RowKit

def Tr.cells (t : Tr) : List Value := [.int .i64 t.w, .int .i64 t.a0, .int .i64 t.a1, .int .i64 t.a2, .int .i64 t.b0, .int .i64 t.b1, .int .i64 t.b2]
def trCells (l : List Tr) : List (List Value) := l.map Tr.cells
/-- the cells of a book in the calculation. -/
def Bk.cells9 (b : Bk) (s k m t : Value) : List Value := [s, .int .i64 b.wth, .int .i64 b.c0, .int .i64 b.c1, .int .i64 b.c2, k, .int .i64 b.rate, m, t]

/-- the bounds of a truth's numbers. -/
def TrOk (t : Tr) : Prop := (0 ≤ t.w ∧ t.w ≤ 2) ∧ (0 ≤ t.a0 ∧ t.a0 ≤ 1000) ∧ (0 ≤ t.a1 ∧ t.a1 ≤ 1000) ∧ (0 ≤ t.a2 ∧ t.a2 ≤ 1000) ∧ (0 ≤ t.b0 ∧ t.b0 ≤ 30) ∧ (0 ≤ t.b1 ∧ t.b1 ≤ 30) ∧ (0 ≤ t.b2 ∧ t.b2 ≤ 30)

/-- the value of a function of a truth: what it computes, from this world on. -/
def FnOf (W : World) (g : Nat) (first captured : Array Value) (f : Tr → Int) : Prop :=
  ∀ (t : Tr) (W1 : World), TrOk t → Below W.heap.size W W1 → Calls Tryd.prog g (first.push (.agg t.cells.toArray) ++ captured) W1 fun e W2 => e = .returned (.int .i64 (f t)) ∧ Below W1.heap.size W1 W2
def Enters (g : Nat) : Prop := ∀ args w, (callFunc g args).run Tryd.prog w = .ok (.enter g args) w

theorem cell_old {w : World} {o : Obj} {p : Addr} (h : p.block < w.heap.size) : (w.alloc o).cell? p = w.cell? p := World.cell?_of_block (w := w) (Below.heap_alloc w o p.block h)
theorem cell_new {w : World} {c : Array Value} {T : TypeId} {j : Nat} : (w.alloc (.cells c T)).cell? ⟨w.heap.size, j, none⟩ = c[j]? := by
  unfold World.cell?
  rw [World.alloc_heap_new]
  rfl
theorem cell_new' {w : World} {c : Array Value} {T : TypeId} {b j : Nat} (h : b = w.heap.size) : (w.alloc (.cells c T)).cell? ⟨b, j, none⟩ = c[j]? := by subst h; exact cell_new

/-- what a region's loads read lies below the heap's size at its begin. -/
theorem hs0 (W0 : World) : (∀ b o, b < W0.heap.size → W0.drew.cell? ⟨b, o, none⟩ = W0.cell? ⟨b, o, none⟩) ∧ Below W0.heap.size W0 W0.drew :=
  ⟨fun _ _ _ => rfl, (Below.refl _ _).drew⟩
theorem hs1 {W0 w1 w2 : World} (h2 : Below w1.heap.size w1 w2) (h : (∀ b o, b < W0.heap.size → w1.cell? ⟨b, o, none⟩ = W0.cell? ⟨b, o, none⟩) ∧ Below W0.heap.size W0 w1) : (∀ b o, b < W0.heap.size → w2.cell? ⟨b, o, none⟩ = W0.cell? ⟨b, o, none⟩) ∧ Below W0.heap.size W0 w2 :=
  have hb := h.2.trans (h2.mono h.2.size)
  ⟨fun b o hlt => hb.cell (p := ⟨b, o, none⟩) hlt, hb⟩

/-- the same, where one block may be written. -/
theorem hu0 (B : Nat) (V : World) : (∀ b o, b < V.heap.size → b ≠ B → V.drew.cell? ⟨b, o, none⟩ = V.cell? ⟨b, o, none⟩) ∧ Upd (· = B) V V.drew :=
  ⟨fun _ _ _ _ => rfl, (Upd.refl _ _).drew⟩
theorem hu1 {B : Nat} {V w1 w2 : World} (h2 : Below w1.heap.size w1 w2) (h : (∀ b o, b < V.heap.size → b ≠ B → w1.cell? ⟨b, o, none⟩ = V.cell? ⟨b, o, none⟩) ∧ Upd (· = B) V w1) :
    (∀ b o, b < V.heap.size → b ≠ B → w2.cell? ⟨b, o, none⟩ = V.cell? ⟨b, o, none⟩) ∧ Upd (· = B) V w2 :=
  have hb := h.2.trans (Upd.of_below h2)
  ⟨fun b o hlt hne => hb.cell (p := ⟨b, o, none⟩) hlt hne, hb⟩
theorem hu2 {B : Nat} {V w1 : World} {j : Nat} {v : Value} (h : (∀ b o, b < V.heap.size → b ≠ B → w1.cell? ⟨b, o, none⟩ = V.cell? ⟨b, o, none⟩) ∧ Upd (· = B) V w1) :
    (∀ b o, b < V.heap.size → b ≠ B → (w1.setCell ⟨B, j, none⟩ v).cell? ⟨b, o, none⟩ = V.cell? ⟨b, o, none⟩) ∧ Upd (· = B) V (w1.setCell ⟨B, j, none⟩ v) :=
  have hb := h.2.setCell (p := ⟨B, j, none⟩) (.inl rfl) v
  ⟨fun b o hlt hne => hb.cell (p := ⟨b, o, none⟩) hlt hne, hb⟩

theorem mn_eq (a b : Int) : (if b < a then b else a) = min a b := by omega
theorem mx_eq (a b : Int) : (if a < b then b else a) = max a b := by omega

/-- a block of its own: its cells. -/
theorem blk_cell {w : World} {B j : Nat} {c : Array Value} {T : TypeId} (h : w.heap[B]? = some (.cells c T)) : w.cell? ⟨B, j, none⟩ = c[j]? := by unfold World.cell?; rw [h]; rfl
theorem blk_frozen {w : World} {B : Nat} {c : Array Value} {T : TypeId} (h : w.heap[B]? = some (.cells c T)) (j : Nat) : w.frozen? ⟨B, j, none⟩ = false := by unfold World.frozen?; rw [h]; simp
theorem blk_set {w : World} {B j : Nat} {c : Array Value} {T : TypeId} {v : Value} (h : w.heap[B]? = some (.cells c T)) : (w.setCell ⟨B, j, none⟩ v).heap[B]? = some (.cells (c.setIfInBounds j v) T) := by
  have hlt := (Array.getElem?_eq_some_iff.1 h).1
  show (w.heap.modify B _)[B]? = _
  rw [Array.getElem?_modify, if_pos rfl, h]
  rfl

set_option maxRecDepth 100000 in
set_option maxHeartbeats 400000 in
theorem told_any (W : World) (b : Bk) (s k m tv : Value) (l : List Tr) (n g : Nat) (first captured : Array Value) (f : Tr → Int) (hn : n ≤ W.heap.size)
    (ht : SlOf W n 7 tv (trCells l)) (hl : l ≠ []) (hok : ∀ t ∈ l, TrOk t) (hf : FnOf W g first captured f) (he : Enters g) :
    Calls Tryd.prog 83 #[.agg (b.cells9 s k m tv).toArray, .agg #[.func (.func g) first captured]] W fun e W' =>
      e = .returned (.agg #[.int .i64 (toldLo f l), .int .i64 (toldHi f l)]) ∧ Below W.heap.size W W' := by
  obtain ⟨ta, tcap, rfl, ht1, ht2, ht3, ht4⟩ := ht
  have H4 := Lib.hid ht4
  clear ht4 ht3
  unfold maxLen at ht2
  simp only [Bk.cells9]
  go_enter Tryd.func83, Tryd.ntmps83
  go_wp2_with fail
  obtain ⟨t0, l', rfl⟩ : ∃ t0 l', l = t0 :: l' := by cases l with | nil => exact absurd rfl hl | cons a b => exact ⟨a, b, rfl⟩
  have HOK := Lib.hid hok
  have ok0 := hok t0 (by simp)
  clear hok
  obtain ⟨g0, q0, e0, hg0, hc0⟩ := sl_at (k := 0) H4.out (show (trCells (t0 :: l'))[0]? = some t0.cells by simp [trCells])
  subst e0
  obtain ⟨W0, hW0⟩ : ∃ W0, ((W.alloc (Obj.cells #[s, Value.int IntKind.i64 b.wth, Value.int IntKind.i64 b.c0, Value.int IntKind.i64 b.c1, Value.int IntKind.i64 b.c2, k, Value.int IntKind.i64 b.rate, m, Value.slice (some ⟨g0, q0, none⟩) (trCells (t0 :: l')).length tcap] 79)).alloc (Obj.cells #[Value.func (Fn.func g) first captured] 107)).alloc (Obj.cells #[Value.int IntKind.i64 0, Value.int IntKind.i64 0] 32) = W0 := ⟨_, rfl⟩
  rw [hW0]
  have hB0 : Below W.heap.size W W0 := by rw [← hW0]; exact (((Below.refl _ _).alloc (Nat.le_refl _) _).alloc (by simp) _).alloc (by simp; omega) _
  have hz0 : W0.heap.size = W.heap.size + 1 + 1 + 1 := by rw [← hW0]; simp
  have z0 : W0.cell? ⟨W.heap.size, 8, none⟩ = some (Value.slice (some ⟨g0, q0, none⟩) (trCells (t0 :: l')).length tcap) := by rw [← hW0, cell_old (by simp; omega), cell_old (by simp), cell_new]; rfl
  have z1 : W0.cell? ⟨W.heap.size + 1, 0, none⟩ = some (Value.func (Fn.func g) first captured) := by rw [← hW0, cell_old (by simp), cell_new' (by simp)]; rfl
  have hr : ∀ j c, t0.cells[j]? = some c → W0.cell? ⟨g0, q0 + 0 * 7 + j, none⟩ = some c := fun j c hj => (hB0.cell (p := ⟨g0, _, none⟩) (by show g0 < _; omega)).trans (hc0 j c hj)
  have r0 : W0.cell? ⟨g0, q0, none⟩ = some (.int .i64 t0.w) := hr 0 _ rfl
  have r1 : W0.cell? ⟨g0, q0 + 1, none⟩ = some (.int .i64 t0.a0) := hr 1 _ rfl
  have r2 : W0.cell? ⟨g0, q0 + 2, none⟩ = some (.int .i64 t0.a1) := hr 2 _ rfl
  have r3 : W0.cell? ⟨g0, q0 + 3, none⟩ = some (.int .i64 t0.a2) := hr 3 _ rfl
  have r4 : W0.cell? ⟨g0, q0 + 4, none⟩ = some (.int .i64 t0.b0) := hr 4 _ rfl
  have r5 : W0.cell? ⟨g0, q0 + 5, none⟩ = some (.int .i64 t0.b1) := hr 5 _ rfl
  have r6 : W0.cell? ⟨g0, q0 + 6, none⟩ = some (.int .i64 t0.b2) := hr 6 _ rfl
  have l0 : W.heap.size < W0.heap.size := by omega
  have l1 : W.heap.size + 1 < W0.heap.size := by omega
  have l2 : g0 < W0.heap.size := by omega
  have hlen : 0 < (trCells (t0 :: l')).length := by simp [trCells]
  have HF := Lib.hid hf
  have HW := Lib.hid hW0
  have HZ := Lib.hid hz0
  clear hr hf hW0 hz0
  unfold Enters at he
  go_upto_region 1 with fail
  go_cut [5] (fun s5 wx => s5 = .int .i64 (f t0) ∧ Below W0.heap.size W0 wx)
  case first =>
    go_region_held3 (fun w' => (∀ b o, b < W0.heap.size → w'.cell? ⟨b, o, none⟩ = W0.cell? ⟨b, o, none⟩) ∧ Below W0.heap.size W0 w') (first | exact hs0 _ | exact hs1 (by assumption) (by assumption))
      (first | (refine (HF.out t0 _ ok0 (hB0.trans (Below.mono (And.right (by assumption)) hB0.size))).mono ?_; rintro e w' ⟨rfl, hbb⟩))
    go_wp2_with fail
    go_meet
    exact ⟨rfl, And.right (by assumption)⟩
  case rest =>
    obtain ⟨rfl, hbx⟩ := hcut
    have hsz := hbx.size
    have z0 : wc.cell? ⟨W.heap.size, 8, none⟩ = some (Value.slice (some ⟨g0, q0, none⟩) (trCells (t0 :: l')).length tcap) := (hbx.cell (p := ⟨W.heap.size, 8, none⟩) l0).trans z0
    have z1 : wc.cell? ⟨W.heap.size + 1, 0, none⟩ = some (Value.func (Fn.func g) first captured) := (hbx.cell (p := ⟨W.heap.size + 1, 0, none⟩) l1).trans z1
    have l0 : W.heap.size < wc.heap.size := by omega
    have l1 : W.heap.size + 1 < wc.heap.size := by omega
    have hbw : Below W.heap.size W wc := hB0.trans (hbx.mono hB0.size)
    have hR : wc.heap[W.heap.size + 1 + 1]? = some (.cells #[Value.int IntKind.i64 0, Value.int IntKind.i64 0] 32) := by
      rw [hbx.block _ (by have := HZ.out; omega), ← HW.out]
      exact (by simp : (((W.alloc _).alloc _).heap.size) = W.heap.size + 1 + 1) ▸ World.alloc_heap_new _ _
    have l3 : W.heap.size + 1 + 1 < wc.heap.size := (Array.getElem?_eq_some_iff.1 hR).1
    have HR := Lib.hid hR
    clear r0 r1 r2 r3 r4 r5 r6 hbx hB0 HW hR
    go_wp2_with fail
    go_loopg [22] (trCells (t0 :: l')).length (fun n i wx => ∃ (k : Nat) (lo hi : Int), k ≤ (trCells (t0 :: l')).length ∧ n = (trCells (t0 :: l')).length - k ∧ i = .int .i64 k ∧ Below wc.heap.size wc wx ∧ wx.heap[wc.heap.size]? = some (.cells #[.int .i64 lo, .int .i64 hi] 32) ∧ minL f lo ((t0 :: l').drop k) = toldLo f (t0 :: l') ∧ maxL f hi ((t0 :: l').drop k) = toldHi f (t0 :: l'))
    case atStart => exact ⟨0, _, _, by omega, rfl, rfl, (Below.refl _ _).alloc (Nat.le_refl _) _, World.alloc_heap_new _ _, rfl, rfl⟩
    case round =>
      obtain ⟨k, lo, hi, hk, hgk, rfl, hbr, hO, hlo, hhi⟩ := hrel
      have HG := Lib.hid hgk
      have HLO := Lib.hid hlo
      have HHI := Lib.hid hhi
      clear hgk hlo hhi
      by_cases hlt : k < (trCells (t0 :: l')).length
      · have hlt' : k < (t0 :: l').length := by simpa [trCells] using hlt
        obtain ⟨x, hx⟩ : ∃ x, (t0 :: l')[k]? = some x := ⟨_, List.getElem?_eq_getElem hlt'⟩
        obtain ⟨g1, q1, e1, hg1, hcs⟩ := sl_at H4.out (show (trCells (t0 :: l'))[k]? = some x.cells by rw [trCells, List.getElem?_map, hx]; rfl)
        cases e1
        have okx := HOK.out x (List.mem_of_getElem? hx)
        have hdr : (t0 :: l').drop k = x :: (t0 :: l').drop (k + 1) := by
          rw [List.drop_eq_getElem_cons hlt']; rw [List.getElem?_eq_getElem hlt'] at hx; cases hx; rfl
        have HD := Lib.hid hdr
        clear hx hdr
        have hr : ∀ j c, x.cells[j]? = some c → wr.cell? ⟨g0, q0 + k * 7 + j, none⟩ = some c := fun j c hj =>
          (hbr.cell (p := ⟨g0, q0 + k * 7 + j, none⟩) (by show g0 < _; omega)).trans ((hbw.cell (p := ⟨g0, q0 + k * 7 + j, none⟩) (by show g0 < _; omega)).trans (hcs j c hj))
        have r0 : wr.cell? ⟨g0, q0 + k * 7, none⟩ = some (.int .i64 x.w) := hr 0 _ rfl
        have r1 : wr.cell? ⟨g0, q0 + k * 7 + 1, none⟩ = some (.int .i64 x.a0) := hr 1 _ rfl
        have r2 : wr.cell? ⟨g0, q0 + k * 7 + 2, none⟩ = some (.int .i64 x.a1) := hr 2 _ rfl
        have r3 : wr.cell? ⟨g0, q0 + k * 7 + 3, none⟩ = some (.int .i64 x.a2) := hr 3 _ rfl
        have r4 : wr.cell? ⟨g0, q0 + k * 7 + 4, none⟩ = some (.int .i64 x.b0) := hr 4 _ rfl
        have r5 : wr.cell? ⟨g0, q0 + k * 7 + 5, none⟩ = some (.int .i64 x.b1) := hr 5 _ rfl
        have r6 : wr.cell? ⟨g0, q0 + k * 7 + 6, none⟩ = some (.int .i64 x.b2) := hr 6 _ rfl
        have hrz := hbr.size
        have hOl : wc.heap.size < wr.heap.size := (Array.getElem?_eq_some_iff.1 hO).1
        have o0 : wr.cell? ⟨wc.heap.size, 0, none⟩ = some (.int .i64 lo) := by unfold World.cell?; rw [hO]; rfl
        have o1 : wr.cell? ⟨wc.heap.size, 1, none⟩ = some (.int .i64 hi) := by unfold World.cell?; rw [hO]; rfl
        have fO : ∀ j, wr.frozen? ⟨wc.heap.size, j, none⟩ = false := fun j => by unfold World.frozen?; rw [hO]; simp
        have z2 : wr.cell? ⟨W.heap.size + 1, 0, none⟩ = some (Value.func (Fn.func g) first captured) := (hbr.cell (p := ⟨W.heap.size + 1, 0, none⟩) l1).trans z1
        clear hr hcs
        go_upto_region 6 with fail
        obtain ⟨V, hV⟩ : ∃ V, wr.alloc (Obj.cells #[Value.int IntKind.i64 x.w, Value.int IntKind.i64 x.a0, Value.int IntKind.i64 x.a1, Value.int IntKind.i64 x.a2, Value.int IntKind.i64 x.b0, Value.int IntKind.i64 x.b1, Value.int IntKind.i64 x.b2] 87) = V := ⟨_, rfl⟩
        rw [hV]
        have hVz : V.heap.size = wr.heap.size + 1 := by rw [← hV]; simp
        have hVB : Below wc.heap.size wc V := by rw [← hV]; exact hbr.alloc hrz _
        have hVO : V.heap[wc.heap.size]? = some (.cells #[.int .i64 lo, .int .i64 hi] 32) := by rw [← hV]; exact (Below.heap_alloc _ _ _ hOl).trans hO
        have hVx : V.heap[wr.heap.size]? = some (.cells #[Value.int IntKind.i64 x.w, Value.int IntKind.i64 x.a0, Value.int IntKind.i64 x.a1, Value.int IntKind.i64 x.a2, Value.int IntKind.i64 x.b0, Value.int IntKind.i64 x.b1, Value.int IntKind.i64 x.b2] 87) := by rw [← hV]; exact World.alloc_heap_new _ _
        have x0 : V.cell? ⟨wr.heap.size, 0, none⟩ = some (.int .i64 x.w) := blk_cell hVx
        have x1 : V.cell? ⟨wr.heap.size, 1, none⟩ = some (.int .i64 x.a0) := blk_cell hVx
        have x2 : V.cell? ⟨wr.heap.size, 2, none⟩ = some (.int .i64 x.a1) := blk_cell hVx
        have x3 : V.cell? ⟨wr.heap.size, 3, none⟩ = some (.int .i64 x.a2) := blk_cell hVx
        have x4 : V.cell? ⟨wr.heap.size, 4, none⟩ = some (.int .i64 x.b0) := blk_cell hVx
        have x5 : V.cell? ⟨wr.heap.size, 5, none⟩ = some (.int .i64 x.b1) := blk_cell hVx
        have x6 : V.cell? ⟨wr.heap.size, 6, none⟩ = some (.int .i64 x.b2) := blk_cell hVx
        have o0 : V.cell? ⟨wc.heap.size, 0, none⟩ = some (.int .i64 lo) := blk_cell hVO
        have o1 : V.cell? ⟨wc.heap.size, 1, none⟩ = some (.int .i64 hi) := blk_cell hVO
        have fO := blk_frozen hVO
        have y1 : V.cell? ⟨W.heap.size + 1, 0, none⟩ = some (Value.func (Fn.func g) first captured) := (hVB.cell (p := ⟨W.heap.size + 1, 0, none⟩) l1).trans z1
        have m0 : wr.heap.size < V.heap.size := by omega
        have m1 : W.heap.size + 1 < V.heap.size := by omega
        have m2 : wr.heap.size ≠ wc.heap.size := by omega
        have m3 : W.heap.size + 1 ≠ wc.heap.size := by omega
        have hBO := Lib.hid hVO
        clear r0 r1 r2 r3 r4 r5 r6 hV hVO hVx hO z1 z2 z0 hbr hVz
        refine wp_region_det (S := fun L w' => ((∀ b o, b < V.heap.size → b ≠ wc.heap.size → w'.cell? ⟨b, o, none⟩ = V.cell? ⟨b, o, none⟩) ∧ Upd (· = wc.heap.size) V w') ∧
          w'.heap[wc.heap.size]? = some (.cells #[.int .i64 (bif L 15 then min lo (f x) else lo), .int .i64 (bif L 17 then max hi (f x) else hi)] 32)) (by kernel_rfl) (by kernel_rfl) ⟨hu0 _ _, hBO.out⟩ ?_
        apply det_cons
        · refine ⟨by rfl, fun L w hN hS => ?_⟩
          obtain ⟨⟨hcc, hu⟩, hb⟩ := hS
          go_simp
          exact ⟨rfl, fun L' _ h2 => ⟨⟨hcc, hu⟩, by rw [h2 15 (by decide), h2 17 (by decide)]; exact hb⟩⟩
        try simp only [Act.put, List.setIfInBounds_toArray, List.set_cons_zero, List.set_cons_succ]
        apply det_cons
        · refine ⟨by rfl, fun L w hN hS => ?_⟩
          obtain ⟨⟨hcc, hu⟩, hb⟩ := hS
          have e := hN.not_yet (j := 15) (by kernel_rfl)
          have o0 : w.cell? ⟨wc.heap.size, 0, none⟩ = some (.int .i64 lo) := by have h := blk_cell (j := 0) hb; rw [e] at h; exact h
          go_simp
          exact ⟨rfl, fun L' _ h2 => ⟨⟨hcc, hu⟩, by rw [h2 15 (by decide), h2 17 (by decide)]; exact hb⟩⟩
        try simp only [Act.put, List.setIfInBounds_toArray, List.set_cons_zero, List.set_cons_succ]
        apply det_cons
        · refine ⟨by rfl, fun L w hN hS => ?_⟩
          obtain ⟨⟨hcc, hu⟩, hb⟩ := hS
          go_simp
          exact ⟨rfl, fun L' _ h2 => ⟨⟨hcc, hu⟩, by rw [h2 15 (by decide), h2 17 (by decide)]; exact hb⟩⟩
        try simp only [Act.put, List.setIfInBounds_toArray, List.set_cons_zero, List.set_cons_succ]
        apply det_cons
        · refine ⟨by rfl, fun L w hN hS => ?_⟩
          obtain ⟨⟨hcc, hu⟩, hb⟩ := hS
          go_simp
          exact ⟨rfl, fun L' _ h2 => ⟨⟨hcc, hu⟩, by rw [h2 15 (by decide), h2 17 (by decide)]; exact hb⟩⟩
        try simp only [Act.put, List.setIfInBounds_toArray, List.set_cons_zero, List.set_cons_succ]
        apply det_cons
        · refine ⟨by rfl, fun L w hN hS => ?_⟩
          obtain ⟨⟨hcc, hu⟩, hb⟩ := hS
          go_simp
          exact ⟨rfl, fun L' _ h2 => ⟨⟨hcc, hu⟩, by rw [h2 15 (by decide), h2 17 (by decide)]; exact hb⟩⟩
        try simp only [Act.put, List.setIfInBounds_toArray, List.set_cons_zero, List.set_cons_succ]
        apply det_cons
        · refine ⟨by rfl, fun L w hN hS => ?_⟩
          obtain ⟨⟨hcc, hu⟩, hb⟩ := hS
          go_simp
          refine (HF.out x _ okx ((hbw.trans (hVB.mono (by omega))).trans (hu.below (by omega) (by intro k hk1 hk2; omega)))).mono ?_
          rintro e w' ⟨rfl, hbb⟩
          have hq := hu1 hbb ⟨hcc, hu⟩
          exact ⟨rfl, fun L' _ h2 => ⟨hq, by rw [h2 15 (by decide), h2 17 (by decide), hbb.block _ ((Array.getElem?_eq_some_iff.1 hb).1)]; exact hb⟩⟩
        try simp only [Act.put, List.setIfInBounds_toArray, List.set_cons_zero, List.set_cons_succ]
        apply det_cons
        · refine ⟨by rfl, fun L w hN hS => ?_⟩
          obtain ⟨⟨hcc, hu⟩, hb⟩ := hS
          go_simp
          exact ⟨congrArg _ (mn_eq _ _), fun L' _ h2 => ⟨⟨hcc, hu⟩, by rw [h2 15 (by decide), h2 17 (by decide)]; exact hb⟩⟩
        try simp only [Act.put, List.setIfInBounds_toArray, List.set_cons_zero, List.set_cons_succ]
        apply det_cons
        · refine ⟨by rfl, fun L w hN hS => ?_⟩
          obtain ⟨⟨hcc, hu⟩, hb⟩ := hS
          go_simp
          exact ⟨rfl, fun L' _ h2 => ⟨⟨hcc, hu⟩, by rw [h2 15 (by decide), h2 17 (by decide)]; exact hb⟩⟩
        try simp only [Act.put, List.setIfInBounds_toArray, List.set_cons_zero, List.set_cons_succ]
        apply det_cons
        · refine ⟨by rfl, fun L w hN hS => ?_⟩
          obtain ⟨⟨hcc, hu⟩, hb⟩ := hS
          have e := hN.not_yet (j := 17) (by kernel_rfl)
          have o1 : w.cell? ⟨wc.heap.size, 1, none⟩ = some (.int .i64 hi) := by have h := blk_cell (j := 1) hb; rw [e] at h; exact h
          go_simp
          exact ⟨rfl, fun L' _ h2 => ⟨⟨hcc, hu⟩, by rw [h2 15 (by decide), h2 17 (by decide)]; exact hb⟩⟩
        try simp only [Act.put, List.setIfInBounds_toArray, List.set_cons_zero, List.set_cons_succ]
        apply det_cons
        · refine ⟨by rfl, fun L w hN hS => ?_⟩
          obtain ⟨⟨hcc, hu⟩, hb⟩ := hS
          go_simp
          exact ⟨rfl, fun L' _ h2 => ⟨⟨hcc, hu⟩, by rw [h2 15 (by decide), h2 17 (by decide)]; exact hb⟩⟩
        try simp only [Act.put, List.setIfInBounds_toArray, List.set_cons_zero, List.set_cons_succ]
        apply det_cons
        · refine ⟨by rfl, fun L w hN hS => ?_⟩
          obtain ⟨⟨hcc, hu⟩, hb⟩ := hS
          go_simp
          exact ⟨rfl, fun L' _ h2 => ⟨⟨hcc, hu⟩, by rw [h2 15 (by decide), h2 17 (by decide)]; exact hb⟩⟩
        try simp only [Act.put, List.setIfInBounds_toArray, List.set_cons_zero, List.set_cons_succ]
        apply det_cons
        · refine ⟨by rfl, fun L w hN hS => ?_⟩
          obtain ⟨⟨hcc, hu⟩, hb⟩ := hS
          go_simp
          exact ⟨rfl, fun L' _ h2 => ⟨⟨hcc, hu⟩, by rw [h2 15 (by decide), h2 17 (by decide)]; exact hb⟩⟩
        try simp only [Act.put, List.setIfInBounds_toArray, List.set_cons_zero, List.set_cons_succ]
        apply det_cons
        · refine ⟨by rfl, fun L w hN hS => ?_⟩
          obtain ⟨⟨hcc, hu⟩, hb⟩ := hS
          go_simp
          refine (HF.out x _ okx ((hbw.trans (hVB.mono (by omega))).trans (hu.below (by omega) (by intro k hk1 hk2; omega)))).mono ?_
          rintro e w' ⟨rfl, hbb⟩
          have hq := hu1 hbb ⟨hcc, hu⟩
          exact ⟨rfl, fun L' _ h2 => ⟨hq, by rw [h2 15 (by decide), h2 17 (by decide), hbb.block _ ((Array.getElem?_eq_some_iff.1 hb).1)]; exact hb⟩⟩
        try simp only [Act.put, List.setIfInBounds_toArray, List.set_cons_zero, List.set_cons_succ]
        apply det_cons
        · refine ⟨by rfl, fun L w hN hS => ?_⟩
          obtain ⟨⟨hcc, hu⟩, hb⟩ := hS
          go_simp
          exact ⟨congrArg _ (mx_eq _ _), fun L' _ h2 => ⟨⟨hcc, hu⟩, by rw [h2 15 (by decide), h2 17 (by decide)]; exact hb⟩⟩
        try simp only [Act.put, List.setIfInBounds_toArray, List.set_cons_zero, List.set_cons_succ]
        apply det_cons
        · refine ⟨by rfl, fun L w hN hS => ?_⟩
          obtain ⟨⟨hcc, hu⟩, hb⟩ := hS
          go_simp
          exact ⟨rfl, fun L' _ h2 => ⟨⟨hcc, hu⟩, by rw [h2 15 (by decide), h2 17 (by decide)]; exact hb⟩⟩
        try simp only [Act.put, List.setIfInBounds_toArray, List.set_cons_zero, List.set_cons_succ]
        apply det_cons
        · refine ⟨by rfl, fun L w hN hS => ?_⟩
          obtain ⟨⟨hcc, hu⟩, hb⟩ := hS
          have fz := blk_frozen hb
          have oc : w.cell? ⟨wc.heap.size, 0, none⟩ = some _ := blk_cell (j := 0) hb
          have hs := blk_set (j := 0) (v := .int .i64 (min lo (f x))) hb
          have HS := Lib.hid hs
          have HB := Lib.hid hb
          clear hs hb
          go_simp
          exact ⟨rfl, fun L' h1 h2 => ⟨⟨fun b o hb1 hb2 => ((hu.setCell (p := ⟨wc.heap.size, 0, none⟩) (.inl rfl) _).cell (p := ⟨b, o, none⟩) hb1 hb2), hu.setCell (p := ⟨wc.heap.size, 0, none⟩) (.inl rfl) _⟩, by rw [h1, h2 17 (by decide)]; exact HS.out⟩⟩
        try simp only [Act.put]
        apply det_cons
        · refine ⟨by rfl, fun L w hN hS => ?_⟩
          obtain ⟨⟨hcc, hu⟩, hb⟩ := hS
          go_simp
          exact ⟨rfl, fun L' _ h2 => ⟨⟨hcc, hu⟩, by rw [h2 15 (by decide), h2 17 (by decide)]; exact hb⟩⟩
        try simp only [Act.put, List.setIfInBounds_toArray, List.set_cons_zero, List.set_cons_succ]
        apply det_cons
        · refine ⟨by rfl, fun L w hN hS => ?_⟩
          obtain ⟨⟨hcc, hu⟩, hb⟩ := hS
          have fz := blk_frozen hb
          have oc : w.cell? ⟨wc.heap.size, 1, none⟩ = some _ := blk_cell (j := 1) hb
          have hs := blk_set (j := 1) (v := .int .i64 (max hi (f x))) hb
          have HS := Lib.hid hs
          have HB := Lib.hid hb
          clear hs hb
          go_simp
          exact ⟨rfl, fun L' h1 h2 => ⟨⟨fun b o hb1 hb2 => ((hu.setCell (p := ⟨wc.heap.size, 1, none⟩) (.inl rfl) _).cell (p := ⟨b, o, none⟩) hb1 hb2), hu.setCell (p := ⟨wc.heap.size, 1, none⟩) (.inl rfl) _⟩, by rw [h1, h2 15 (by decide)]; exact HS.out⟩⟩
        try simp only [Act.put]
        refine det_nil ?_
        rintro L w' hL ⟨⟨hcc, hu⟩, hb⟩
        rw [hL 15 (by decide), hL 17 (by decide)] at hb
        have HBF := Lib.hid hb
        clear hb hcc
        go_wp2_with fail
        go_roundg ((trCells (t0 :: l')).length - (k + 1))
        case measure => rw [HG.out]; omega
        case rel =>
          refine ⟨k + 1, _, _, hlt, rfl, by go_num, ?_, HBF.out, ?_, ?_⟩
          · exact hVB.trans (hu.below hVB.size (by intro k hk1 hk2; omega))
          · rw [← HLO.out, HD.out]; rfl
          · rw [← HHI.out, HD.out]; rfl
      · have hkl : k = (trCells (t0 :: l')).length := by omega
        have e1 : (t0 :: l').drop k = [] := by rw [List.drop_eq_nil_iff]; rw [hkl]; simp [trCells]
        have e2 : lo = toldLo f (t0 :: l') := by rw [← HLO.out, e1]; rfl
        have e3 : hi = toldHi f (t0 :: l') := by rw [← HHI.out, e1]; rfl
        subst e2 e3
        have hrz := hbr.size
        have hOl : wc.heap.size < wr.heap.size := (Array.getElem?_eq_some_iff.1 hO).1
        have o0 : wr.cell? ⟨wc.heap.size, 0, none⟩ = some (.int .i64 (toldLo f (t0 :: l'))) := blk_cell hO
        have o1 : wr.cell? ⟨wc.heap.size, 1, none⟩ = some (.int .i64 (toldHi f (t0 :: l'))) := blk_cell hO
        have hR : wr.heap[W.heap.size + 1 + 1]? = some (.cells #[Value.int IntKind.i64 0, Value.int IntKind.i64 0] 32) := (hbr.block _ l3).trans HR.out
        have c0 : wr.cell? ⟨W.heap.size + 1 + 1, 0, none⟩ = some (.int .i64 0) := blk_cell hR
        have c1 : wr.cell? ⟨W.heap.size + 1 + 1, 1, none⟩ = some (.int .i64 0) := blk_cell hR
        have cf := blk_frozen hR
        clear hkl e1 hO HLO HHI hR
        go_wp2_with fail
        exact bodyPost_ret (v := .agg #[.int .i64 (toldLo f (t0 :: l')), .int .i64 (toldHi f (t0 :: l'))]) (by simp [results, Tryd.results83, go_sem, c0, c1]) rfl ⟨rfl, ((hbw.trans (hbr.mono (by omega))).setCell (by simp; omega) _).setCell (by simp; omega) _⟩
end Go.Proofs.YtbhjfojbjpbdbaaDoor
