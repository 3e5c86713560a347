/-
  The words of the walks: slices of structs in a world; small contracts of package claim (within, isSpan, isClock). Written by this session.
-/
import Derived.Test.YtbhjfojbjpbdbaaDoorA0
import Derived.Test.YtbhjfojbjpbdbaaDoorRows
import Derived.WalkKit
import Derived.WalkSpells
import Derived.WalkLawsBesides
import Derived.Lib.Hide
import Derived.Deep.DeepCutAuto
import Derived.Deep.CutBlock
import Derived.Deep.QuietTactic
import Derived.BigQuiet
import Derived.OneCell
import Derived.RangeFuncNested
import Derived.RangeFuncBound
import Derived.RangeFuncLeaves
import Derived.OwnWalkIn
import Derived.TacticsInMore
import Derived.LoopNIn
import Derived.LoopIn
import Derived.Deep.Light
namespace Go.Proofs.YtbhjfojbjpbdbaaDoor
open Go.RowKit

theorem ret_bool {a b : Bool} (h : a = b) : Ending.returned (.bool a) = .returned (.bool b) := by rw [h]
theorem ret_int {k : IntKind} {a b : Int} (h : a = b) : Ending.returned (.int k a) = .returned (.int k b) := by rw [h]

/-- v is a slice whose elements have these cells; they lie below block n. -/
def SlOf (w : World) (n sz : Nat) (v : Value) (rows : List (List Value)) : Prop :=
  ∃ a cap, v = .slice a rows.length cap ∧ rows.length ≤ cap ∧ cap ≤ maxLen ∧ (∀ r ∈ rows, r.length = sz) ∧
    (0 < rows.length → ∃ b o, a = some ⟨b, o, none⟩ ∧ b < n ∧
      ∀ i j r c, rows[i]? = some r → r[j]? = some c → w.cell? ⟨b, o + i * sz + j, none⟩ = some c)

theorem SlOf.below {w w' : World} {n B sz : Nat} {v : Value} {rows : List (List Value)} (h : SlOf w n sz v rows) (hn : n ≤ B) (hb : Below B w w') : SlOf w' n sz v rows := by
  obtain ⟨a, cap, e, h1, h2, h3, h4⟩ := h
  refine ⟨a, cap, e, h1, h2, h3, fun hp => ?_⟩
  obtain ⟨b, o, e1, h5, h6⟩ := h4 hp
  exact ⟨b, o, e1, h5, fun i j r c hi hj => (hb.cell (p := ⟨b, _, none⟩) (by show b < B; omega)).trans (h6 i j r c hi hj)⟩

theorem SlOf.mono {w : World} {n m sz : Nat} {v : Value} {rows : List (List Value)} (h : SlOf w n sz v rows) (hn : n ≤ m) : SlOf w m sz v rows := by
  obtain ⟨a, cap, e, h1, h2, h3, h4⟩ := h
  refine ⟨a, cap, e, h1, h2, h3, fun hp => ?_⟩
  obtain ⟨b, o, e1, h5, h6⟩ := h4 hp
  exact ⟨b, o, e1, by omega, h6⟩

def St.cells (x : St) : List Value := [.int .i64 x.due, .int .i64 x.dl, .int .i64 x.dh, .int .i64 x.rl, .int .i64 x.rh, .int .i64 x.sl, .int .i64 x.sh]
def Ck.cells (x : Ck) : List Value := [.int .i64 x.st, .int .i64 x.rd, .int .i64 x.er]

/-- the cells of a book whose slices are s and k. -/
def Bk.cells (b : Bk) (s k : Value) : List Value := [s, .int .i64 b.wth, .int .i64 b.c0, .int .i64 b.c1, .int .i64 b.c2, k, .int .i64 b.rate]

def Ck.wf (c : Ck) : Prop := (-9223372036854775808 ≤ c.st ∧ c.st ≤ 9223372036854775807) ∧ (-9223372036854775808 ≤ c.rd ∧ c.rd ≤ 9223372036854775807) ∧ (-9223372036854775808 ≤ c.er ∧ c.er ≤ 9223372036854775807)

set_option maxHeartbeats 400000 in
theorem within_any (n lo hi : Int) (w : World) :
    Calls Tryd.prog 66 #[.int .i64 n, .int .i64 lo, .int .i64 hi] w fun e w' => e = .returned (.bool (within n lo hi)) ∧ w = w' := by
  go_enter Tryd.func66, Tryd.ntmps66
  go_wp2
  all_goals (go_ret; exact ⟨ret_bool (by unfold within; rw [Bool.eq_iff_iff]; simp; omega), rfl⟩)

set_option maxHeartbeats 400000 in
theorem isSpan_any (a b lo hi wide : Int) (w : World) (h1 : -1000 ≤ lo) (h2 : hi ≤ 1000) :
    Calls Tryd.prog 67 #[.agg #[.int .i64 a, .int .i64 b], .int .i64 lo, .int .i64 hi, .int .i64 wide] w fun e w' => e = .returned (.bool (spanOk a b lo hi wide)) ∧ Below w.heap.size w w' := by
  go_enter Tryd.func67, Tryd.ntmps67
  go_wp2
  all_goals (go_ret; exact ⟨ret_bool (by unfold spanOk; rw [Bool.eq_iff_iff]; simp; omega), (Below.refl _ _).alloc (Nat.le_refl _) _⟩)

set_option maxHeartbeats 400000 in
theorem isClock_any (w : World) (b : Bk) (s k : Value) (a : Option Addr) (c : Ck) (len cap : Nat) (hs : s = .slice a len cap) (hl : len ≤ maxLen) :
    Calls Tryd.prog 68 #[.agg (b.cells s k).toArray, .agg c.cells.toArray] w fun e w' => e = .returned (.bool (ckOk len c)) ∧ Below w.heap.size w w' := by
  subst hs
  unfold maxLen at hl
  simp only [Bk.cells, Ck.cells]
  go_enter Tryd.func68, Tryd.ntmps68
  go_wp2_with (go_at_call 66; refine (within_any _ _ _ _).mono ?_; rintro e w' ⟨rfl, rfl⟩)
  all_goals (go_ret; exact ⟨ret_bool (by simp [ckOk, *]), ((Below.refl _ _).alloc (Nat.le_refl _) _).alloc (by simp) _⟩)

def stCells (l : List St) : List (List Value) := l.map St.cells
def ckCells (l : List Ck) : List (List Value) := l.map Ck.cells
/-- v is a book in this world, its slices below block n. -/
def BookV (w : World) (n : Nat) (v : Value) (b : Bk) : Prop :=
  ∃ s k, v = .agg (b.cells s k).toArray ∧ SlOf w n 7 s (stCells b.sts) ∧ SlOf w n 3 k (ckCells b.cks)

theorem BookV.below {w w' : World} {n B : Nat} {v : Value} {b : Bk} (h : BookV w n v b) (hn : n ≤ B) (hb : Below B w w') : BookV w' n v b := by
  obtain ⟨s, k, e, h1, h2⟩ := h
  exact ⟨s, k, e, h1.below hn hb, h2.below hn hb⟩

theorem bcell {W w1 : World} (hb : Below W.heap.size W w1) : (∀ b o, b < W.heap.size → w1.cell? ⟨b, o, none⟩ = W.cell? ⟨b, o, none⟩) ∧ (∀ b o, b < W.heap.size → w1.frozen? ⟨b, o, none⟩ = W.frozen? ⟨b, o, none⟩) :=
  ⟨fun b o h => hb.cell (p := ⟨b, o, none⟩) h, fun b o h => hb.frozen (p := ⟨b, o, none⟩) h⟩

/-- the costs from one on are right. -/
def costsFrom (b : Bk) : Nat → Bool
  | 0 => within b.c0 0 30 && (within b.c1 0 30 && within b.c2 0 30)
  | 1 => within b.c1 0 30 && within b.c2 0 30
  | 2 => within b.c2 0 30
  | _ => true

def at3 (x y z : Int) : Nat → Int
  | 0 => x
  | 1 => y
  | _ => z
theorem index3_0 (x y z : Int) : ∀ w, (Instr.index 23 (.agg #[.int .i64 x, .int .i64 y, .int .i64 z]) (.int .i64 0)).run Tryd.prog w = .ok (.int .i64 x) w := fun _ => by kernel_rfl
theorem index3_1 (x y z : Int) : ∀ w, (Instr.index 23 (.agg #[.int .i64 x, .int .i64 y, .int .i64 z]) (.int .i64 1)).run Tryd.prog w = .ok (.int .i64 y) w := fun _ => by kernel_rfl
theorem index3_2 (x y z : Int) : ∀ w, (Instr.index 23 (.agg #[.int .i64 x, .int .i64 y, .int .i64 z]) (.int .i64 2)).run Tryd.prog w = .ok (.int .i64 z) w := fun _ => by kernel_rfl
theorem index3 {w : World} (x y z : Int) {k : Nat} (hk : k < 3) :
    (Instr.index 23 (.agg #[.int .i64 x, .int .i64 y, .int .i64 z]) (.int .i64 (k : Int))).run Tryd.prog w = .ok (.int .i64 (at3 x y z k)) w := by
  have hkk : k = 0 ∨ k = 1 ∨ k = 2 := by omega
  rcases hkk with rfl | rfl | rfl
  · exact index3_0 x y z w
  · exact index3_1 x y z w
  · exact index3_2 x y z w
theorem costsFrom_succ (b : Bk) (k : Nat) (hk : k < 3) : costsFrom b k = (within (at3 b.c0 b.c1 b.c2 k) 0 30 && costsFrom b (k + 1)) := by
  have hkk : k = 0 ∨ k = 1 ∨ k = 2 := by omega
  rcases hkk with rfl | rfl | rfl <;> simp [costsFrom, at3]

/-- the element of a slice at a place. -/
theorem sl_at {w : World} {n sz : Nat} {a : Option Addr} {rows : List (List Value)} {k : Nat} {r : List Value}
    (h : 0 < rows.length → ∃ b o, a = some ⟨b, o, none⟩ ∧ b < n ∧ ∀ i j r c, rows[i]? = some r → r[j]? = some c → w.cell? ⟨b, o + i * sz + j, none⟩ = some c)
    (hk : rows[k]? = some r) : ∃ b o, a = some ⟨b, o, none⟩ ∧ b < n ∧ ∀ j c, r[j]? = some c → w.cell? ⟨b, o + k * sz + j, none⟩ = some c := by
  have hlt : k < rows.length := by
    rcases Nat.lt_or_ge k rows.length with h | h
    · exact h
    · rw [List.getElem?_eq_none h] at hk; cases hk
  obtain ⟨b, o, e, hb, hc⟩ := h (by omega)
  exact ⟨b, o, e, hb, fun j c hj => hc k j r c hk hj⟩

set_option maxRecDepth 100000 in
set_option maxHeartbeats 400000 in
theorem check_any (w : World) (v : Value) (b : Bk) (h : BookV w w.heap.size v b) :
    Calls Tryd.prog 17 #[v] w fun e w' => e = .returned (.int .i64 (checkS b)) ∧ Below w.heap.size w w' := by
  obtain ⟨s, k, rfl, hs, hk⟩ := h
  obtain ⟨sa, scap, rfl, hs1, hs2, hs3, hs4⟩ := hs
  obtain ⟨ka, kcap, rfl, hk1, hk2, hk3, hk4⟩ := hk
  simp only [stCells, ckCells, List.length_map] at hs1 hk1
  simp only [Bk.cells, stCells, ckCells, List.length_map]
  have hls : b.sts.length ≤ maxLen := by omega
  have hlk : b.cks.length ≤ maxLen := by omega
  unfold maxLen at hls hlk
  go_enter Tryd.func17, Tryd.ntmps17
  go_upto_region 1 with fail
  go_cut [3] (fun s3 wx => s3 = .bool (headOk b) ∧ Below w.heap.size w wx ∧ wx.heap.size = w.heap.size + 1 ∧ wx.heap[w.heap.size]? = some (.cells #[Value.slice sa b.sts.length scap, Value.int IntKind.i64 b.wth, Value.int IntKind.i64 b.c0,
      Value.int IntKind.i64 b.c1, Value.int IntKind.i64 b.c2, Value.slice ka b.cks.length kcap,
      Value.int IntKind.i64 b.rate] 26))
  case first =>
    go_wp2_with (go_at_call 66; refine (within_any _ _ _ _).mono ?_; rintro e w' ⟨rfl, rfl⟩)
    all_goals go_meet
    all_goals exact ⟨by first | (simp [headOk, *]; done) | (simp [headOk, *]; omega), (Below.refl _ _).alloc (Nat.le_refl _) _, by simp, World.alloc_heap_new _ _⟩
  case rest =>
    obtain ⟨rfl, hb1, hz1, hB⟩ := hcut
    have H1 := Lib.hid hs4
    have H2 := Lib.hid hk4
    have H3 := Lib.hid hs3
    have H4 := Lib.hid hk3
    clear hs4 hk4 hs3 hk3
    have hc0 : wc.cell? ⟨w.heap.size, 0, none⟩ = some (.slice sa b.sts.length scap) := by simp [World.cell?, hB]
    have hc1 : wc.cell? ⟨w.heap.size, 1, none⟩ = some (.int .i64 b.wth) := by simp [World.cell?, hB]
    have hc6 : wc.cell? ⟨w.heap.size, 6, none⟩ = some (.int .i64 b.rate) := by simp [World.cell?, hB]
    have hc2 : wc.cell? ⟨w.heap.size, 2, none⟩ = some (.int .i64 b.c0) := by simp [World.cell?, hB]
    have hc3 : wc.cell? ⟨w.heap.size, 3, none⟩ = some (.int .i64 b.c1) := by simp [World.cell?, hB]
    have hc4 : wc.cell? ⟨w.heap.size, 4, none⟩ = some (.int .i64 b.c2) := by simp [World.cell?, hB]
    have hc5 : wc.cell? ⟨w.heap.size, 5, none⟩ = some (.slice ka b.cks.length kcap) := by simp [World.cell?, hB]
    go_wp2_with fail
    go_loopw [3, 4, 34] (fun ok due i wr => ∃ (k : Nat) (o : Bool) (d : Int), k ≤ b.sts.length ∧ ok = .bool o ∧ due = .int .i64 d ∧ i = .int .i64 k ∧ (o && stsOk d (b.sts.drop k)) = (headOk b && stsOk 0 b.sts) ∧ (o = true → 0 ≤ d ∧ d ≤ 300) ∧ Below (w.heap.size + 1) wc wr)
      (fun _ _ i _ => b.sts.length - (intOf i).toNat)
    case atStart => exact ⟨0, _, 0, by omega, rfl, rfl, rfl, rfl, by omega, Below.refl _ _⟩
    case round =>
      obtain ⟨k, o, d, hk, rfl, rfl, rfl, hT, hd, hbr⟩ := hrel
      have HT := Lib.hid hT
      clear hT
      by_cases hlt : k < b.sts.length
      · obtain ⟨x, hx⟩ : ∃ x, b.sts[k]? = some x := ⟨_, List.getElem?_eq_getElem hlt⟩
        obtain ⟨g, q, hsa, hg, hcs⟩ := sl_at H1.out (show (stCells b.sts)[k]? = some x.cells by simp [stCells, hx])
        have HX := Lib.hid hx
        clear hx
        subst hsa
        have hr : ∀ j c, x.cells[j]? = some c → wr.cell? ⟨g, q + k * 7 + j, none⟩ = some c := fun j c hj =>
          (hbr.cell (p := ⟨g, q + k * 7 + j, none⟩) (by show g < _; omega)).trans ((hb1.cell (p := ⟨g, q + k * 7 + j, none⟩) (by show g < _; omega)).trans (hcs j c hj))
        have r0 : wr.cell? ⟨g, q + k * 7, none⟩ = some (.int .i64 x.due) := hr 0 _ rfl
        have r1 : wr.cell? ⟨g, q + k * 7 + 1, none⟩ = some (.int .i64 x.dl) := hr 1 _ rfl
        have r2 : wr.cell? ⟨g, q + k * 7 + 2, none⟩ = some (.int .i64 x.dh) := hr 2 _ rfl
        have r3 : wr.cell? ⟨g, q + k * 7 + 3, none⟩ = some (.int .i64 x.rl) := hr 3 _ rfl
        have r4 : wr.cell? ⟨g, q + k * 7 + 4, none⟩ = some (.int .i64 x.rh) := hr 4 _ rfl
        have r5 : wr.cell? ⟨g, q + k * 7 + 5, none⟩ = some (.int .i64 x.sl) := hr 5 _ rfl
        have r6 : wr.cell? ⟨g, q + k * 7 + 6, none⟩ = some (.int .i64 x.sh) := hr 6 _ rfl
        clear hr hcs
        cases o with
        | false =>
          go_wp2_with fail
          go_roundw
          case rel => exact ⟨k + 1, false, x.due, by omega, rfl, rfl, by go_num, by have := HT.out; simpa using this, by simp, ((hbr.alloc (by have := hbr.size; omega) _))⟩
          case measure => simp [intOf]; omega
        | true =>
          obtain ⟨hd1, hd2⟩ := hd rfl
          clear hd
          go_upto_region 6 with fail
          obtain ⟨W0, hW0⟩ : ∃ W0, wr.alloc (Obj.cells #[Value.int IntKind.i64 x.due, Value.int IntKind.i64 x.dl, Value.int IntKind.i64 x.dh, Value.int IntKind.i64 x.rl, Value.int IntKind.i64 x.rh, Value.int IntKind.i64 x.sl, Value.int IntKind.i64 x.sh] 56) = W0 := ⟨_, rfl⟩
          rw [hW0]
          have g0 : W0.cell? ⟨wr.heap.size, 0, none⟩ = some (.int .i64 x.due) := by rw [← hW0]; simp [World.cell?_alloc_new]
          have g1 : W0.cell? ⟨wr.heap.size, 1, none⟩ = some (.int .i64 x.dl) := by rw [← hW0]; simp [World.cell?_alloc_new]
          have g2 : W0.cell? ⟨wr.heap.size, 2, none⟩ = some (.int .i64 x.dh) := by rw [← hW0]; simp [World.cell?_alloc_new]
          have g3 : W0.cell? ⟨wr.heap.size, 3, none⟩ = some (.int .i64 x.rl) := by rw [← hW0]; simp [World.cell?_alloc_new]
          have g4 : W0.cell? ⟨wr.heap.size, 4, none⟩ = some (.int .i64 x.rh) := by rw [← hW0]; simp [World.cell?_alloc_new]
          have g5 : W0.cell? ⟨wr.heap.size, 5, none⟩ = some (.int .i64 x.sl) := by rw [← hW0]; simp [World.cell?_alloc_new]
          have g6 : W0.cell? ⟨wr.heap.size, 6, none⟩ = some (.int .i64 x.sh) := by rw [← hW0]; simp [World.cell?_alloc_new]
          have hz0 : wr.heap.size < W0.heap.size := by rw [← hW0]; simp
          have hbB : Below (w.heap.size + 1) wc W0 := by rw [← hW0]; exact hbr.alloc (by have := hbr.size; omega) _
          have hz00 : w.heap.size + 1 ≤ W0.heap.size := by have := hbB.size; omega
          have hBB : Below W0.heap.size W0 W0 := Below.refl _ _
          clear hW0
          go_cut [3] (fun s3 wx => s3 = .bool (stOk d x) ∧ Below W0.heap.size W0 wx)
          case first =>
            go_wp2_with (first | (go_at_call 66; refine (within_any _ _ _ _).mono ?_; rintro e w' ⟨rfl, rfl⟩) | (go_at_call 67; refine (isSpan_any _ _ _ _ _ _ (by omega) (by omega)).mono ?_; rintro e w' ⟨rfl, hbb⟩; replace hBB := hBB.trans (hbb.mono hBB.size); obtain ⟨hcc, hff⟩ := bcell hBB))
            all_goals go_meet
            all_goals exact ⟨by first | (simp [stOk, *]; done) | (simp [stOk, *]; omega), hBB⟩
          case rest =>
            obtain ⟨rfl, hBx⟩ := hcut
            obtain ⟨hcc, hff⟩ := bcell hBx
            go_wp2_with fail
            go_roundw
            case rel => exact ⟨k + 1, stOk d x, x.due, by omega, rfl, rfl, by go_num, by have h1 := HT.out; rw [List.drop_eq_getElem_cons hlt] at h1; rw [← h1]; have h2 := HX.out; rw [List.getElem?_eq_getElem hlt] at h2; cases h2; simp [stsOk], by intro h; simp [stOk, within] at h; omega, hbB.trans (hBx.mono (by omega))⟩
            case measure => simp [intOf]; omega
      · have hkl : k = b.sts.length := by omega
        have hT1 : o = (headOk b && stsOk 0 b.sts) := by have h1 := HT.out; rw [hkl, List.drop_length] at h1; simpa [stsOk] using h1
        have HT1 := Lib.hid hT1
        clear hT1 HT hd hkl
        have e2 : wr.cell? ⟨w.heap.size, 2, none⟩ = some (.int .i64 b.c0) := (hbr.cell (p := ⟨w.heap.size, 2, none⟩) (by show w.heap.size < _; omega)).trans hc2
        have e3 : wr.cell? ⟨w.heap.size, 3, none⟩ = some (.int .i64 b.c1) := (hbr.cell (p := ⟨w.heap.size, 3, none⟩) (by show w.heap.size < _; omega)).trans hc3
        have e4 : wr.cell? ⟨w.heap.size, 4, none⟩ = some (.int .i64 b.c2) := (hbr.cell (p := ⟨w.heap.size, 4, none⟩) (by show w.heap.size < _; omega)).trans hc4
        have e5 : wr.cell? ⟨w.heap.size, 5, none⟩ = some (.slice ka b.cks.length kcap) := (hbr.cell (p := ⟨w.heap.size, 5, none⟩) (by show w.heap.size < _; omega)).trans hc5
        go_wp2_with fail
        obtain ⟨wo, rfl⟩ : ∃ wo : World, wo = wr := ⟨_, rfl⟩
        go_loopg [3, 66] 3 (fun n ok i wx => wo = wx ∧ ∃ (k : Nat) (o' : Bool), k ≤ 3 ∧ n = 3 - k ∧ ok = .bool o' ∧ i = .int .i64 k ∧ (o' && costsFrom b k) = (o && costsFrom b 0))
        case atStart => exact ⟨rfl, 0, _, by omega, rfl, rfl, rfl, rfl⟩
        case round =>
          obtain ⟨rfl, k2, o2, hk2', hgk, rfl, rfl, hT2⟩ := hrel
          have HT2 := Lib.hid hT2
          have HG := Lib.hid hgk
          clear hT2 hgk
          by_cases hk3 : k2 < 3
          · have i0 := fun w => index3 (w := w) b.c0 b.c1 b.c2 hk3
            have HCF := Lib.hid (costsFrom_succ b k2 hk3)
            cases o2
            all_goals
              go_wp2_with (go_at_call 66; refine (within_any _ _ _ _).mono ?_; rintro e w' ⟨rfl, rfl⟩)
              go_roundg (3 - (k2 + 1))
              case measure => rw [HG.out]; omega
              case rel => exact ⟨rfl, k2 + 1, _, by omega, rfl, rfl, by go_num, by rw [← HT2.out, HCF.out]; simp⟩
          · obtain rfl : k2 = 3 := by omega
            have hT3 : o2 = (o && costsOk b) := by have := HT2.out; simpa [costsFrom, costsOk, Bool.and_assoc] using this
            have HT3 := Lib.hid hT3
            clear hT3
            clear HT2
            go_wp2_with fail
            go_loopg [3, 78] b.cks.length (fun n ok i wx => ∃ (k : Nat) (o' : Bool), k ≤ b.cks.length ∧ n = b.cks.length - k ∧ ok = .bool o' ∧ i = .int .i64 k ∧ (o' && (b.cks.drop k).all (ckOk b.sts.length)) = (o2 && b.cks.all (ckOk b.sts.length)) ∧ Below (w.heap.size + 1) wc wx)
            case atStart => exact ⟨0, _, by omega, rfl, rfl, rfl, rfl, hbr⟩
            case round =>
              obtain ⟨k3, o3, hk4', hgk, rfl, rfl, hT4, hb3⟩ := hrel
              have HT4 := Lib.hid hT4
              have HG2 := Lib.hid hgk
              clear hT4 hgk
              by_cases hlt3 : k3 < b.cks.length
              · obtain ⟨x, hx⟩ : ∃ x, b.cks[k3]? = some x := ⟨_, List.getElem?_eq_getElem hlt3⟩
                obtain ⟨g, q, hka, hg, hcs⟩ := sl_at H2.out (show (ckCells b.cks)[k3]? = some x.cells by simp [ckCells, hx])
                have hdr : (b.cks.drop k3) = x :: b.cks.drop (k3 + 1) := by
                  rw [List.drop_eq_getElem_cons hlt3]; rw [List.getElem?_eq_getElem hlt3] at hx; cases hx; rfl
                have HD := Lib.hid hdr
                clear hx hdr
                subst hka
                have hr : ∀ j c, x.cells[j]? = some c → wr.cell? ⟨g, q + k3 * 3 + j, none⟩ = some c := fun j c hj =>
                  (hb3.cell (p := ⟨g, q + k3 * 3 + j, none⟩) (by show g < _; omega)).trans ((hb1.cell (p := ⟨g, q + k3 * 3 + j, none⟩) (by show g < _; omega)).trans (hcs j c hj))
                have r0 : wr.cell? ⟨g, q + k3 * 3, none⟩ = some (.int .i64 x.st) := hr 0 _ rfl
                have r1 : wr.cell? ⟨g, q + k3 * 3 + 1, none⟩ = some (.int .i64 x.rd) := hr 1 _ rfl
                have r2 : wr.cell? ⟨g, q + k3 * 3 + 2, none⟩ = some (.int .i64 x.er) := hr 2 _ rfl
                have hbx : ∀ j, wr.cell? ⟨w.heap.size, j, none⟩ = wc.cell? ⟨w.heap.size, j, none⟩ := fun j => hb3.cell (p := ⟨w.heap.size, j, none⟩) (by show w.heap.size < _; omega)
                have b0 := (hbx 0).trans hc0
                have b1 := (hbx 1).trans hc1
                have b2 := (hbx 2).trans hc2
                have b3 := (hbx 3).trans hc3
                have b4 := (hbx 4).trans hc4
                have b5 := (hbx 5).trans hc5
                have b6 := (hbx 6).trans hc6
                have hzw : w.heap.size < wr.heap.size := by have := hb3.size; omega
                clear hr hcs hbx
                cases o3
                all_goals
                  go_wp2_with (first | (go_at_call 68; refine (isClock_any _ b _ _ _ x _ _ rfl (by unfold maxLen; omega)).mono ?_; rintro e w' ⟨rfl, hbb⟩))
                  go_roundg (b.cks.length - (k3 + 1))
                  case measure => rw [HG2.out]; omega
                  case rel =>
                    refine ⟨k3 + 1, _, by omega, rfl, rfl, by go_num, by rw [← HT4.out, HD.out]; simp, ?_⟩
                    have := hb3.size
                    first
                      | exact hb3.alloc (by omega) _
                      | exact (hb3.alloc (by omega) _).trans (hbb.mono (by simp; omega))
              · have hkl : k3 = b.cks.length := by omega
                have hT5 : o3 = (o2 && b.cks.all (ckOk b.sts.length)) := by have h1 := HT4.out; rw [hkl, List.drop_length] at h1; simpa using h1
                have hv : o3 = bkOk b := by rw [hT5, HT3.out, HT1.out]; simp [bkOk]
                clear hkl hT5 HT4 HG2
                cases o3
                all_goals
                  have HV := Lib.hid hv
                  clear hv
                  go_wp2_with fail
                  go_ret
                  exact ⟨ret_int (by unfold checkS; rw [← HV.out]; rfl), hb1.trans (hb3.mono (by omega))⟩
end Go.Proofs.YtbhjfojbjpbdbaaDoor
