/-
  Merged: A0, A1, A2, D, D2, D3. Written by sessions of this seat.
-/
import Derived.Test.YtbhjfojbjpbdbaaDoorRows
import Derived.WalkKit
import Derived.WalkSpells
import Derived.WalkLawsBesides
import Derived.Lib.Hide
import Derived.Deep.DeepCutAuto
import Derived.Deep.CutBlock
import Derived.Deep.QuietTactic
import Derived.BigQuiet
import Derived.OneCell
import Derived.RangeFuncNested
import Derived.RangeFuncBound
import Derived.RangeFuncLeaves
import Derived.OwnWalkIn
import Derived.TacticsInMore
import Derived.LoopNIn
import Derived.LoopIn
import Derived.Deep.Light
import Derived.Deep.RegionHeld3
import Derived.OrdersIn
import Derived.RangeFuncSeq

-- A0: Plain Lean: what package claim computes, on lists of numbers (no program in sight). Written by a session.
namespace Go.Proofs.YtbhjfojbjpbdbaaDoor

structure St where
  due : Int
  dl : Int
  dh : Int
  rl : Int
  rh : Int
  sl : Int
  sh : Int

structure Ck where
  st : Int
  rd : Int
  er : Int

structure Bk where
  sts : List St
  wth : Int
  c0 : Int
  c1 : Int
  c2 : Int
  cks : List Ck
  rate : Int

def within (n lo hi : Int) : Bool := decide (lo ≤ n) && decide (n ≤ hi)
def spanOk (a b lo hi wide : Int) : Bool := decide (lo ≤ a) && decide (a ≤ b) && decide (b ≤ hi) && decide (b - a ≤ wide)
def stOk (d : Int) (x : St) : Bool := within x.due (d + 1) 300 && spanOk x.dl x.dh 1 90 2 && spanOk x.rl x.rh 0 30 2 && spanOk x.sl x.sh 0 20 1
def stsOk : Int → List St → Bool
  | _, [] => true
  | d, x :: l => stOk d x && stsOk x.due l
def ckOk (n : Int) (c : Ck) : Bool := within c.st 0 (n - 1) && within c.rd 0 600 && within c.er 0 5
def costsOk (b : Bk) : Bool := within b.c0 0 30 && within b.c1 0 30 && within b.c2 0 30
def headOk (b : Bk) : Bool := within b.sts.length 1 3 && within b.wth 1 7 && decide ((b.cks.length : Int) ≤ 4) && within b.rate 0 99
def bkOk (b : Bk) : Bool := headOk b && stsOk 0 b.sts && costsOk b && b.cks.all (ckOk b.sts.length)
def checkS (b : Bk) : Int := if bkOk b then 0 else 60

/-- a truth: the weather, the minutes in which the coach comes, what the road costs. -/
structure Tr where
  w : Int
  a0 : Int
  a1 : Int
  a2 : Int
  b0 : Int
  b1 : Int
  b2 : Int

def Tr.comes (t : Tr) : Nat → Int
  | 0 => t.a0
  | 1 => t.a1
  | _ => t.a2
def Tr.rough (t : Tr) : Nat → Int
  | 0 => t.b0
  | 1 => t.b1
  | _ => t.b2
def Tr.put (t : Tr) (k : Nat) (m r : Int) : Tr :=
  match k with
  | 0 => { t with a0 := m, b0 := r }
  | 1 => { t with a1 := m, b1 := r }
  | _ => { t with a2 := m, b2 := r }
def Tr.all (t : Tr) : Int := t.b0 + t.b1 + t.b2

def clockOk (stage minute : Int) (c : Ck) : Bool := decide (c.st ≠ stage) || within (c.rd - minute) (-c.er) c.er
def rightL (cks : List Ck) (stage minute : Int) : Bool := cks.all (clockOk stage minute)

/-- all numbers from a low one to a high one. -/
def upto (lo hi : Int) : List Int := (List.range (hi - lo + 1).toNat).map fun (i : Nat) => lo + (i : Int)

/-- all truths that begin so. -/
def goes (cost : Int) (cks : List Ck) : List St → Nat → Tr → Int → List Tr
  | [], _, t, _ => [t]
  | x :: l, k, t, start =>
    (upto x.dl x.dh).flatMap fun d => (upto x.rl x.rh).flatMap fun r =>
      if rightL cks k (start + d + r + cost) then
        (upto x.sl x.sh).flatMap fun s => goes cost cks l (k + 1) (t.put k (start + d + r + cost) r) (start + d + r + cost + s)
      else []

def Bk.cost (b : Bk) : Nat → Int
  | 0 => b.c0
  | 1 => b.c1
  | _ => b.c2
def bitOf (s : Int) (n : Nat) : Bool := decide (s / 2 ^ n % 2 = 1)
def Tr.start (w : Nat) : Tr := ⟨w, 0, 0, 0, 0, 0, 0⟩
def truths (b : Bk) : List Tr :=
  (List.range 3).flatMap fun w => if bitOf b.wth w then goes (b.cost w) b.cks b.sts 0 (Tr.start w) 0 else []

def minL (f : Tr → Int) (m : Int) (l : List Tr) : Int := l.foldl (fun m t => min m (f t)) m
def maxL (f : Tr → Int) (m : Int) (l : List Tr) : Int := l.foldl (fun m t => max m (f t)) m
def toldLo (f : Tr → Int) : List Tr → Int
  | [] => 0
  | t :: l => minL f (f t) (t :: l)
def toldHi (f : Tr → Int) : List Tr → Int
  | [] => 0
  | t :: l => maxL f (f t) (t :: l)

def Bk.due (b : Bk) (k : Nat) : Int := (b.sts.map St.due).getD k 0
def lateT (b : Bk) (k : Nat) (t : Tr) : Int := max 0 (t.comes k - b.due k)
def owesT (b : Bk) (t : Tr) : Int := b.rate * min (lateT b (b.sts.length - 1) t) t.all
def blamed (b : Bk) (t : Tr) : Bool := decide (0 < lateT b (b.sts.length - 1) t) && decide (t.comes (b.sts.length - 1) - t.all ≤ b.due (b.sts.length - 1))

/-- the error: of the book, of what is asked, and that the book cannot be true. -/
def askE (b : Bk) (is : Bool) : Int := if bkOk b then (if is then (if (truths b).isEmpty then 62 else 0) else 61) else 60
def isStage (b : Bk) (k : Int) : Bool := within k 0 ((b.sts.length : Int) - 1)

def spanE (b : Bk) (is : Bool) (f : Tr → Int) : Int × Int × Int :=
  if askE b is = 0 then (toldLo f (truths b), toldHi f (truths b), 0) else (0, 0, askE b is)
def rightS (b : Bk) : Bool × Int := if bkOk b then (!(truths b).isEmpty, 0) else (false, 60)
def comesS (b : Bk) (k : Int) : Int × Int × Int := spanE b (isStage b k) fun t => t.comes k.toNat
def lateS (b : Bk) (k : Int) : Int × Int × Int := spanE b (isStage b k) (lateT b k.toNat)
def roughS (b : Bk) (k : Int) : Int × Int × Int := spanE b (isStage b k) fun t => t.rough k.toNat
def owesS (b : Bk) : Int × Int × Int := spanE b true (owesT b)

/-- the set of the weathers of some truths. -/
def weathers (l : List Tr) : Nat := l.foldl (fun s t => s ||| (1 <<< t.w.toNat)) 0
def weatherS (b : Bk) : Int × Int := if askE b true = 0 then ((weathers (truths b) : Nat), 0) else (0, askE b true)
def blames (b : Bk) : Nat := (truths b).countP (blamed b)
def kindOf (b : Bk) : Int := (if 0 < blames b then 1 else 0) + (if blames b = (truths b).length then 1 else 0)
def blameS (b : Bk) : Int × Int := if askE b true = 0 then (kindOf b, 0) else (0, askE b true)
def paysS (b : Bk) : Int × Int :=
  if askE b true = 0 then (if blames b = (truths b).length then toldLo (owesT b) (truths b) else 0, 0) else (0, askE b true)

def Bk.with (b : Bk) (c : Ck) : Bk := { b with cks := b.cks ++ [c] }
def fitsS (b : Bk) (c : Ck) : Bool × Int :=
  if askE b (ckOk b.sts.length c) = 0 then (!(truths (b.with c)).isEmpty, 0) else (false, askE b (ckOk b.sts.length c))

/-- the clocks of a book without those of a list of numbers. -/
def leaveOut : List Nat → Nat → List Ck → List Ck
  | _, _, [] => []
  | but, k, c :: l => if but.contains k then leaveOut but (k + 1) l else c :: leaveOut but (k + 1) l
def Bk.but (b : Bk) (l : List Nat) : Bk := { b with cks := leaveOut l 0 b.cks }

/-- all increasing lists of so many numbers from one on below another, in order. -/
def picks : (many : Nat) → (below : Nat) → (start : Nat) → List (List Nat)
  | 0, _, _ => [[]]
  | m + 1, below, start => ((List.range below).filter (start ≤ ·)).flatMap fun n => (picks m below (n + 1)).map (n :: ·)
def allPicks (below : Nat) : List (List Nat) := (List.range (below + 1)).flatMap fun m => picks m below 0
def wrongL (b : Bk) : List Nat := ((allPicks b.cks.length).find? fun l => !(truths (b.but l)).isEmpty).getD []
def wrongS (b : Bk) : List Nat × Int := if bkOk b then (wrongL b, 0) else ([], 60)

def firstS (b : Bk) : Int × Int :=
  if askE b true = 0 then
    match (List.range b.sts.length).find? fun k => decide (0 < toldLo (lateT b k) (truths b)) with
    | some k => (k, 0)
    | none => (0, 4)
  else (0, askE b true)

end Go.Proofs.YtbhjfojbjpbdbaaDoor

-- A1: The words of the walks: slices of structs in a world; small contracts of package claim (within, isSpan, isClock). Written by a session.
namespace Go.Proofs.YtbhjfojbjpbdbaaDoor
open Go.RowKit

theorem ret_bool {a b : Bool} (h : a = b) : Ending.returned (.bool a) = .returned (.bool b) := by rw [h]
theorem ret_int {k : IntKind} {a b : Int} (h : a = b) : Ending.returned (.int k a) = .returned (.int k b) := by rw [h]

/-- v is a slice whose elements have these cells; they lie below block n. -/
def SlOf (w : World) (n sz : Nat) (v : Value) (rows : List (List Value)) : Prop :=
  ∃ a cap, v = .slice a rows.length cap ∧ rows.length ≤ cap ∧ rows.length ≤ maxLen ∧ (∀ r ∈ rows, r.length = sz) ∧
    (0 < rows.length → ∃ b o, a = some ⟨b, o, none⟩ ∧ b < n ∧
      ∀ i j r c, rows[i]? = some r → r[j]? = some c → w.cell? ⟨b, o + i * sz + j, none⟩ = some c)

theorem SlOf.below {w w' : World} {n B sz : Nat} {v : Value} {rows : List (List Value)} (h : SlOf w n sz v rows) (hn : n ≤ B) (hb : Below B w w') : SlOf w' n sz v rows := by
  obtain ⟨a, cap, e, h1, h2, h3, h4⟩ := h
  refine ⟨a, cap, e, h1, h2, h3, fun hp => ?_⟩
  obtain ⟨b, o, e1, h5, h6⟩ := h4 hp
  exact ⟨b, o, e1, h5, fun i j r c hi hj => (hb.cell (p := ⟨b, _, none⟩) (by show b < B; omega)).trans (h6 i j r c hi hj)⟩

theorem SlOf.mono {w : World} {n m sz : Nat} {v : Value} {rows : List (List Value)} (h : SlOf w n sz v rows) (hn : n ≤ m) : SlOf w m sz v rows := by
  obtain ⟨a, cap, e, h1, h2, h3, h4⟩ := h
  refine ⟨a, cap, e, h1, h2, h3, fun hp => ?_⟩
  obtain ⟨b, o, e1, h5, h6⟩ := h4 hp
  exact ⟨b, o, e1, by omega, h6⟩

def St.cells (x : St) : List Value := [.int .i64 x.due, .int .i64 x.dl, .int .i64 x.dh, .int .i64 x.rl, .int .i64 x.rh, .int .i64 x.sl, .int .i64 x.sh]
def Ck.cells (x : Ck) : List Value := [.int .i64 x.st, .int .i64 x.rd, .int .i64 x.er]

/-- the cells of a book whose slices are s and k. -/
def Bk.cells (b : Bk) (s k : Value) : List Value := [s, .int .i64 b.wth, .int .i64 b.c0, .int .i64 b.c1, .int .i64 b.c2, k, .int .i64 b.rate]

def Ck.wf (c : Ck) : Prop := (-9223372036854775808 ≤ c.st ∧ c.st ≤ 9223372036854775807) ∧ (-9223372036854775808 ≤ c.rd ∧ c.rd ≤ 9223372036854775807) ∧ (-9223372036854775808 ≤ c.er ∧ c.er ≤ 9223372036854775807)

set_option maxHeartbeats 400000 in
theorem within_any (n lo hi : Int) (w : World) :
    Calls Tryd.prog 66 #[.int .i64 n, .int .i64 lo, .int .i64 hi] w fun e w' => e = .returned (.bool (within n lo hi)) ∧ w = w' := by
  go_enter Tryd.func66, Tryd.ntmps66
  go_wp2
  all_goals (go_ret; exact ⟨ret_bool (by unfold within; rw [Bool.eq_iff_iff]; simp; omega), rfl⟩)

set_option maxHeartbeats 400000 in
theorem isSpan_any (a b lo hi wide : Int) (w : World) (h1 : -1000 ≤ lo) (h2 : hi ≤ 1000) :
    Calls Tryd.prog 67 #[.agg #[.int .i64 a, .int .i64 b], .int .i64 lo, .int .i64 hi, .int .i64 wide] w fun e w' => e = .returned (.bool (spanOk a b lo hi wide)) ∧ Below w.heap.size w w' := by
  go_enter Tryd.func67, Tryd.ntmps67
  go_wp2
  all_goals (go_ret; exact ⟨ret_bool (by unfold spanOk; rw [Bool.eq_iff_iff]; simp; omega), (Below.refl _ _).alloc (Nat.le_refl _) _⟩)

set_option maxHeartbeats 400000 in
theorem isClock_any (w : World) (b : Bk) (s k : Value) (a : Option Addr) (c : Ck) (len cap : Nat) (hs : s = .slice a len cap) (hl : len ≤ maxLen) :
    Calls Tryd.prog 68 #[.agg (b.cells s k).toArray, .agg c.cells.toArray] w fun e w' => e = .returned (.bool (ckOk len c)) ∧ Below w.heap.size w w' := by
  subst hs
  unfold maxLen at hl
  simp only [Bk.cells, Ck.cells]
  go_enter Tryd.func68, Tryd.ntmps68
  go_wp2_with (go_at_call 66; refine (within_any _ _ _ _).mono ?_; rintro e w' ⟨rfl, rfl⟩)
  all_goals (go_ret; exact ⟨ret_bool (by simp [ckOk, *]), ((Below.refl _ _).alloc (Nat.le_refl _) _).alloc (by simp) _⟩)

def stCells (l : List St) : List (List Value) := l.map St.cells
def ckCells (l : List Ck) : List (List Value) := l.map Ck.cells
/-- v is a book in this world, its slices below block n. -/
def BookV (w : World) (n : Nat) (v : Value) (b : Bk) : Prop :=
  ∃ s k, v = .agg (b.cells s k).toArray ∧ SlOf w n 7 s (stCells b.sts) ∧ SlOf w n 3 k (ckCells b.cks)

theorem BookV.below {w w' : World} {n B : Nat} {v : Value} {b : Bk} (h : BookV w n v b) (hn : n ≤ B) (hb : Below B w w') : BookV w' n v b := by
  obtain ⟨s, k, e, h1, h2⟩ := h
  exact ⟨s, k, e, h1.below hn hb, h2.below hn hb⟩

theorem bcell {W w1 : World} (hb : Below W.heap.size W w1) : (∀ b o, b < W.heap.size → w1.cell? ⟨b, o, none⟩ = W.cell? ⟨b, o, none⟩) ∧ (∀ b o, b < W.heap.size → w1.frozen? ⟨b, o, none⟩ = W.frozen? ⟨b, o, none⟩) :=
  ⟨fun b o h => hb.cell (p := ⟨b, o, none⟩) h, fun b o h => hb.frozen (p := ⟨b, o, none⟩) h⟩

/-- the costs from one on are right. -/
def costsFrom (b : Bk) : Nat → Bool
  | 0 => within b.c0 0 30 && (within b.c1 0 30 && within b.c2 0 30)
  | 1 => within b.c1 0 30 && within b.c2 0 30
  | 2 => within b.c2 0 30
  | _ => true

def at3 (x y z : Int) : Nat → Int
  | 0 => x
  | 1 => y
  | _ => z
theorem index3_0 (x y z : Int) : ∀ w, (Instr.index 23 (.agg #[.int .i64 x, .int .i64 y, .int .i64 z]) (.int .i64 0)).run Tryd.prog w = .ok (.int .i64 x) w := fun _ => by kernel_rfl
theorem index3_1 (x y z : Int) : ∀ w, (Instr.index 23 (.agg #[.int .i64 x, .int .i64 y, .int .i64 z]) (.int .i64 1)).run Tryd.prog w = .ok (.int .i64 y) w := fun _ => by kernel_rfl
theorem index3_2 (x y z : Int) : ∀ w, (Instr.index 23 (.agg #[.int .i64 x, .int .i64 y, .int .i64 z]) (.int .i64 2)).run Tryd.prog w = .ok (.int .i64 z) w := fun _ => by kernel_rfl
theorem index3 {w : World} (x y z : Int) {k : Nat} (hk : k < 3) :
    (Instr.index 23 (.agg #[.int .i64 x, .int .i64 y, .int .i64 z]) (.int .i64 (k : Int))).run Tryd.prog w = .ok (.int .i64 (at3 x y z k)) w := by
  have hkk : k = 0 ∨ k = 1 ∨ k = 2 := by omega
  rcases hkk with rfl | rfl | rfl
  · exact index3_0 x y z w
  · exact index3_1 x y z w
  · exact index3_2 x y z w
theorem costsFrom_succ (b : Bk) (k : Nat) (hk : k < 3) : costsFrom b k = (within (at3 b.c0 b.c1 b.c2 k) 0 30 && costsFrom b (k + 1)) := by
  have hkk : k = 0 ∨ k = 1 ∨ k = 2 := by omega
  rcases hkk with rfl | rfl | rfl <;> simp [costsFrom, at3]

/-- the element of a slice at a place. -/
theorem sl_at {w : World} {n sz : Nat} {a : Option Addr} {rows : List (List Value)} {k : Nat} {r : List Value}
    (h : 0 < rows.length → ∃ b o, a = some ⟨b, o, none⟩ ∧ b < n ∧ ∀ i j r c, rows[i]? = some r → r[j]? = some c → w.cell? ⟨b, o + i * sz + j, none⟩ = some c)
    (hk : rows[k]? = some r) : ∃ b o, a = some ⟨b, o, none⟩ ∧ b < n ∧ ∀ j c, r[j]? = some c → w.cell? ⟨b, o + k * sz + j, none⟩ = some c := by
  have hlt : k < rows.length := by
    rcases Nat.lt_or_ge k rows.length with h | h
    · exact h
    · rw [List.getElem?_eq_none h] at hk; cases hk
  obtain ⟨b, o, e, hb, hc⟩ := h (by omega)
  exact ⟨b, o, e, hb, fun j c hj => hc k j r c hk hj⟩

set_option maxRecDepth 100000 in
set_option maxHeartbeats 400000 in
theorem check_any (w : World) (v : Value) (b : Bk) (h : BookV w w.heap.size v b) :
    Calls Tryd.prog 17 #[v] w fun e w' => e = .returned (.int .i64 (checkS b)) ∧ Below w.heap.size w w' := by
  obtain ⟨s, k, rfl, hs, hk⟩ := h
  obtain ⟨sa, scap, rfl, hs1, hs2, hs3, hs4⟩ := hs
  obtain ⟨ka, kcap, rfl, hk1, hk2, hk3, hk4⟩ := hk
  simp only [stCells, ckCells, List.length_map] at hs1 hk1 hs2 hk2
  simp only [Bk.cells, stCells, ckCells, List.length_map]
  have hls : b.sts.length ≤ maxLen := by omega
  have hlk : b.cks.length ≤ maxLen := by omega
  unfold maxLen at hls hlk
  go_enter Tryd.func17, Tryd.ntmps17
  go_upto_region 1 with fail
  go_cut [3] (fun s3 wx => s3 = .bool (headOk b) ∧ Below w.heap.size w wx ∧ wx.heap.size = w.heap.size + 1 ∧ wx.heap[w.heap.size]? = some (.cells #[Value.slice sa b.sts.length scap, Value.int IntKind.i64 b.wth, Value.int IntKind.i64 b.c0,
      Value.int IntKind.i64 b.c1, Value.int IntKind.i64 b.c2, Value.slice ka b.cks.length kcap,
      Value.int IntKind.i64 b.rate] 26))
  case first =>
    go_wp2_with (go_at_call 66; refine (within_any _ _ _ _).mono ?_; rintro e w' ⟨rfl, rfl⟩)
    all_goals go_meet
    all_goals exact ⟨by first | (simp [headOk, *]; done) | (simp [headOk, *]; omega), (Below.refl _ _).alloc (Nat.le_refl _) _, by simp, World.alloc_heap_new _ _⟩
  case rest =>
    obtain ⟨rfl, hb1, hz1, hB⟩ := hcut
    have H1 := Lib.hid hs4
    have H2 := Lib.hid hk4
    have H3 := Lib.hid hs3
    have H4 := Lib.hid hk3
    clear hs4 hk4 hs3 hk3
    have hc0 : wc.cell? ⟨w.heap.size, 0, none⟩ = some (.slice sa b.sts.length scap) := by simp [World.cell?, hB]
    have hc1 : wc.cell? ⟨w.heap.size, 1, none⟩ = some (.int .i64 b.wth) := by simp [World.cell?, hB]
    have hc6 : wc.cell? ⟨w.heap.size, 6, none⟩ = some (.int .i64 b.rate) := by simp [World.cell?, hB]
    have hc2 : wc.cell? ⟨w.heap.size, 2, none⟩ = some (.int .i64 b.c0) := by simp [World.cell?, hB]
    have hc3 : wc.cell? ⟨w.heap.size, 3, none⟩ = some (.int .i64 b.c1) := by simp [World.cell?, hB]
    have hc4 : wc.cell? ⟨w.heap.size, 4, none⟩ = some (.int .i64 b.c2) := by simp [World.cell?, hB]
    have hc5 : wc.cell? ⟨w.heap.size, 5, none⟩ = some (.slice ka b.cks.length kcap) := by simp [World.cell?, hB]
    go_wp2_with fail
    go_loopw [3, 4, 34] (fun ok due i wr => ∃ (k : Nat) (o : Bool) (d : Int), k ≤ b.sts.length ∧ ok = .bool o ∧ due = .int .i64 d ∧ i = .int .i64 k ∧ (o && stsOk d (b.sts.drop k)) = (headOk b && stsOk 0 b.sts) ∧ (o = true → 0 ≤ d ∧ d ≤ 300) ∧ Below (w.heap.size + 1) wc wr)
      (fun _ _ i _ => b.sts.length - (intOf i).toNat)
    case atStart => exact ⟨0, _, 0, by omega, rfl, rfl, rfl, rfl, by omega, Below.refl _ _⟩
    case round =>
      obtain ⟨k, o, d, hk, rfl, rfl, rfl, hT, hd, hbr⟩ := hrel
      have HT := Lib.hid hT
      clear hT
      by_cases hlt : k < b.sts.length
      · obtain ⟨x, hx⟩ : ∃ x, b.sts[k]? = some x := ⟨_, List.getElem?_eq_getElem hlt⟩
        obtain ⟨g, q, hsa, hg, hcs⟩ := sl_at H1.out (show (stCells b.sts)[k]? = some x.cells by simp [stCells, hx])
        have HX := Lib.hid hx
        clear hx
        subst hsa
        have hr : ∀ j c, x.cells[j]? = some c → wr.cell? ⟨g, q + k * 7 + j, none⟩ = some c := fun j c hj =>
          (hbr.cell (p := ⟨g, q + k * 7 + j, none⟩) (by show g < _; omega)).trans ((hb1.cell (p := ⟨g, q + k * 7 + j, none⟩) (by show g < _; omega)).trans (hcs j c hj))
        have r0 : wr.cell? ⟨g, q + k * 7, none⟩ = some (.int .i64 x.due) := hr 0 _ rfl
        have r1 : wr.cell? ⟨g, q + k * 7 + 1, none⟩ = some (.int .i64 x.dl) := hr 1 _ rfl
        have r2 : wr.cell? ⟨g, q + k * 7 + 2, none⟩ = some (.int .i64 x.dh) := hr 2 _ rfl
        have r3 : wr.cell? ⟨g, q + k * 7 + 3, none⟩ = some (.int .i64 x.rl) := hr 3 _ rfl
        have r4 : wr.cell? ⟨g, q + k * 7 + 4, none⟩ = some (.int .i64 x.rh) := hr 4 _ rfl
        have r5 : wr.cell? ⟨g, q + k * 7 + 5, none⟩ = some (.int .i64 x.sl) := hr 5 _ rfl
        have r6 : wr.cell? ⟨g, q + k * 7 + 6, none⟩ = some (.int .i64 x.sh) := hr 6 _ rfl
        clear hr hcs
        cases o with
        | false =>
          go_wp2_with fail
          go_roundw
          case rel => exact ⟨k + 1, false, x.due, by omega, rfl, rfl, by go_num, by have := HT.out; simpa using this, by simp, ((hbr.alloc (by have := hbr.size; omega) _))⟩
          case measure => simp [intOf]; omega
        | true =>
          obtain ⟨hd1, hd2⟩ := hd rfl
          clear hd
          go_upto_region 6 with fail
          obtain ⟨W0, hW0⟩ : ∃ W0, wr.alloc (Obj.cells #[Value.int IntKind.i64 x.due, Value.int IntKind.i64 x.dl, Value.int IntKind.i64 x.dh, Value.int IntKind.i64 x.rl, Value.int IntKind.i64 x.rh, Value.int IntKind.i64 x.sl, Value.int IntKind.i64 x.sh] 56) = W0 := ⟨_, rfl⟩
          rw [hW0]
          have g0 : W0.cell? ⟨wr.heap.size, 0, none⟩ = some (.int .i64 x.due) := by rw [← hW0]; simp [World.cell?_alloc_new]
          have g1 : W0.cell? ⟨wr.heap.size, 1, none⟩ = some (.int .i64 x.dl) := by rw [← hW0]; simp [World.cell?_alloc_new]
          have g2 : W0.cell? ⟨wr.heap.size, 2, none⟩ = some (.int .i64 x.dh) := by rw [← hW0]; simp [World.cell?_alloc_new]
          have g3 : W0.cell? ⟨wr.heap.size, 3, none⟩ = some (.int .i64 x.rl) := by rw [← hW0]; simp [World.cell?_alloc_new]
          have g4 : W0.cell? ⟨wr.heap.size, 4, none⟩ = some (.int .i64 x.rh) := by rw [← hW0]; simp [World.cell?_alloc_new]
          have g5 : W0.cell? ⟨wr.heap.size, 5, none⟩ = some (.int .i64 x.sl) := by rw [← hW0]; simp [World.cell?_alloc_new]
          have g6 : W0.cell? ⟨wr.heap.size, 6, none⟩ = some (.int .i64 x.sh) := by rw [← hW0]; simp [World.cell?_alloc_new]
          have hz0 : wr.heap.size < W0.heap.size := by rw [← hW0]; simp
          have hbB : Below (w.heap.size + 1) wc W0 := by rw [← hW0]; exact hbr.alloc (by have := hbr.size; omega) _
          have hz00 : w.heap.size + 1 ≤ W0.heap.size := by have := hbB.size; omega
          have hBB : Below W0.heap.size W0 W0 := Below.refl _ _
          clear hW0
          go_cut [3] (fun s3 wx => s3 = .bool (stOk d x) ∧ Below W0.heap.size W0 wx)
          case first =>
            go_wp2_with (first | (go_at_call 66; refine (within_any _ _ _ _).mono ?_; rintro e w' ⟨rfl, rfl⟩) | (go_at_call 67; refine (isSpan_any _ _ _ _ _ _ (by omega) (by omega)).mono ?_; rintro e w' ⟨rfl, hbb⟩; replace hBB := hBB.trans (hbb.mono hBB.size); obtain ⟨hcc, hff⟩ := bcell hBB))
            all_goals go_meet
            all_goals exact ⟨by first | (simp [stOk, *]; done) | (simp [stOk, *]; omega), hBB⟩
          case rest =>
            obtain ⟨rfl, hBx⟩ := hcut
            obtain ⟨hcc, hff⟩ := bcell hBx
            go_wp2_with fail
            go_roundw
            case rel => exact ⟨k + 1, stOk d x, x.due, by omega, rfl, rfl, by go_num, by have h1 := HT.out; rw [List.drop_eq_getElem_cons hlt] at h1; rw [← h1]; have h2 := HX.out; rw [List.getElem?_eq_getElem hlt] at h2; cases h2; simp [stsOk], by intro h; simp [stOk, within] at h; omega, hbB.trans (hBx.mono (by omega))⟩
            case measure => simp [intOf]; omega
      · have hkl : k = b.sts.length := by omega
        have hT1 : o = (headOk b && stsOk 0 b.sts) := by have h1 := HT.out; rw [hkl, List.drop_length] at h1; simpa [stsOk] using h1
        have HT1 := Lib.hid hT1
        clear hT1 HT hd hkl
        have e2 : wr.cell? ⟨w.heap.size, 2, none⟩ = some (.int .i64 b.c0) := (hbr.cell (p := ⟨w.heap.size, 2, none⟩) (by show w.heap.size < _; omega)).trans hc2
        have e3 : wr.cell? ⟨w.heap.size, 3, none⟩ = some (.int .i64 b.c1) := (hbr.cell (p := ⟨w.heap.size, 3, none⟩) (by show w.heap.size < _; omega)).trans hc3
        have e4 : wr.cell? ⟨w.heap.size, 4, none⟩ = some (.int .i64 b.c2) := (hbr.cell (p := ⟨w.heap.size, 4, none⟩) (by show w.heap.size < _; omega)).trans hc4
        have e5 : wr.cell? ⟨w.heap.size, 5, none⟩ = some (.slice ka b.cks.length kcap) := (hbr.cell (p := ⟨w.heap.size, 5, none⟩) (by show w.heap.size < _; omega)).trans hc5
        go_wp2_with fail
        obtain ⟨wo, rfl⟩ : ∃ wo : World, wo = wr := ⟨_, rfl⟩
        go_loopg [3, 66] 3 (fun n ok i wx => wo = wx ∧ ∃ (k : Nat) (o' : Bool), k ≤ 3 ∧ n = 3 - k ∧ ok = .bool o' ∧ i = .int .i64 k ∧ (o' && costsFrom b k) = (o && costsFrom b 0))
        case atStart => exact ⟨rfl, 0, _, by omega, rfl, rfl, rfl, rfl⟩
        case round =>
          obtain ⟨rfl, k2, o2, hk2', hgk, rfl, rfl, hT2⟩ := hrel
          have HT2 := Lib.hid hT2
          have HG := Lib.hid hgk
          clear hT2 hgk
          by_cases hk3 : k2 < 3
          · have i0 := fun w => index3 (w := w) b.c0 b.c1 b.c2 hk3
            have HCF := Lib.hid (costsFrom_succ b k2 hk3)
            cases o2
            all_goals
              go_wp2_with (go_at_call 66; refine (within_any _ _ _ _).mono ?_; rintro e w' ⟨rfl, rfl⟩)
              go_roundg (3 - (k2 + 1))
              case measure => rw [HG.out]; omega
              case rel => exact ⟨rfl, k2 + 1, _, by omega, rfl, rfl, by go_num, by rw [← HT2.out, HCF.out]; simp⟩
          · obtain rfl : k2 = 3 := by omega
            have hT3 : o2 = (o && costsOk b) := by have := HT2.out; simpa [costsFrom, costsOk, Bool.and_assoc] using this
            have HT3 := Lib.hid hT3
            clear hT3
            clear HT2
            go_wp2_with fail
            go_loopg [3, 78] b.cks.length (fun n ok i wx => ∃ (k : Nat) (o' : Bool), k ≤ b.cks.length ∧ n = b.cks.length - k ∧ ok = .bool o' ∧ i = .int .i64 k ∧ (o' && (b.cks.drop k).all (ckOk b.sts.length)) = (o2 && b.cks.all (ckOk b.sts.length)) ∧ Below (w.heap.size + 1) wc wx)
            case atStart => exact ⟨0, _, by omega, rfl, rfl, rfl, rfl, hbr⟩
            case round =>
              obtain ⟨k3, o3, hk4', hgk, rfl, rfl, hT4, hb3⟩ := hrel
              have HT4 := Lib.hid hT4
              have HG2 := Lib.hid hgk
              clear hT4 hgk
              by_cases hlt3 : k3 < b.cks.length
              · obtain ⟨x, hx⟩ : ∃ x, b.cks[k3]? = some x := ⟨_, List.getElem?_eq_getElem hlt3⟩
                obtain ⟨g, q, hka, hg, hcs⟩ := sl_at H2.out (show (ckCells b.cks)[k3]? = some x.cells by simp [ckCells, hx])
                have hdr : (b.cks.drop k3) = x :: b.cks.drop (k3 + 1) := by
                  rw [List.drop_eq_getElem_cons hlt3]; rw [List.getElem?_eq_getElem hlt3] at hx; cases hx; rfl
                have HD := Lib.hid hdr
                clear hx hdr
                subst hka
                have hr : ∀ j c, x.cells[j]? = some c → wr.cell? ⟨g, q + k3 * 3 + j, none⟩ = some c := fun j c hj =>
                  (hb3.cell (p := ⟨g, q + k3 * 3 + j, none⟩) (by show g < _; omega)).trans ((hb1.cell (p := ⟨g, q + k3 * 3 + j, none⟩) (by show g < _; omega)).trans (hcs j c hj))
                have r0 : wr.cell? ⟨g, q + k3 * 3, none⟩ = some (.int .i64 x.st) := hr 0 _ rfl
                have r1 : wr.cell? ⟨g, q + k3 * 3 + 1, none⟩ = some (.int .i64 x.rd) := hr 1 _ rfl
                have r2 : wr.cell? ⟨g, q + k3 * 3 + 2, none⟩ = some (.int .i64 x.er) := hr 2 _ rfl
                have hbx : ∀ j, wr.cell? ⟨w.heap.size, j, none⟩ = wc.cell? ⟨w.heap.size, j, none⟩ := fun j => hb3.cell (p := ⟨w.heap.size, j, none⟩) (by show w.heap.size < _; omega)
                have b0 := (hbx 0).trans hc0
                have b1 := (hbx 1).trans hc1
                have b2 := (hbx 2).trans hc2
                have b3 := (hbx 3).trans hc3
                have b4 := (hbx 4).trans hc4
                have b5 := (hbx 5).trans hc5
                have b6 := (hbx 6).trans hc6
                have hzw : w.heap.size < wr.heap.size := by have := hb3.size; omega
                clear hr hcs hbx
                cases o3
                all_goals
                  go_wp2_with (first | (go_at_call 68; refine (isClock_any _ b _ _ _ x _ _ rfl (by unfold maxLen; omega)).mono ?_; rintro e w' ⟨rfl, hbb⟩))
                  go_roundg (b.cks.length - (k3 + 1))
                  case measure => rw [HG2.out]; omega
                  case rel =>
                    refine ⟨k3 + 1, _, by omega, rfl, rfl, by go_num, by rw [← HT4.out, HD.out]; simp, ?_⟩
                    have := hb3.size
                    first
                      | exact hb3.alloc (by omega) _
                      | exact (hb3.alloc (by omega) _).trans (hbb.mono (by simp; omega))
              · have hkl : k3 = b.cks.length := by omega
                have hT5 : o3 = (o2 && b.cks.all (ckOk b.sts.length)) := by have h1 := HT4.out; rw [hkl, List.drop_length] at h1; simpa using h1
                have hv : o3 = bkOk b := by rw [hT5, HT3.out, HT1.out]; simp [bkOk]
                clear hkl hT5 HT4 HG2
                cases o3
                all_goals
                  have HV := Lib.hid hv
                  clear hv
                  go_wp2_with fail
                  go_ret
                  exact ⟨ret_int (by unfold checkS; rw [← HV.out]; rfl), hb1.trans (hb3.mono (by omega))⟩
end Go.Proofs.YtbhjfojbjpbdbaaDoor

-- A2: What a step leaves alone ('Upd'), and the map of package claim (its keys are pairs of numbers, its elements bools). Written by a session.
namespace Go.Proofs.YtbhjfojbjpbdbaaDoor
open Go.RowKit

/-- W' is W but for the blocks of S, and new blocks. -/
structure Upd (S : Nat → Prop) (W W' : World) : Prop where
  os : W'.os = W.os
  tape : W'.tape = W.tape
  output : W'.output = W.output
  size : W.heap.size ≤ W'.heap.size
  block : ∀ k, k < W.heap.size → ¬ S k → W'.heap[k]? = W.heap[k]?

theorem Upd.refl (S : Nat → Prop) (W : World) : Upd S W W := ⟨rfl, rfl, rfl, Nat.le_refl _, fun _ _ _ => rfl⟩
theorem Upd.trans {S : Nat → Prop} {a b c : World} (h : Upd S a b) (k : Upd S b c) : Upd S a c :=
  ⟨k.os.trans h.os, k.tape.trans h.tape, k.output.trans h.output, Nat.le_trans h.size k.size, fun i hi hs => (k.block i (Nat.lt_of_lt_of_le hi h.size) hs).trans (h.block i hi hs)⟩
theorem Upd.mono {S T : Nat → Prop} {a b : World} (h : Upd S a b) (hs : ∀ k, k < a.heap.size → S k → T k) : Upd T a b :=
  ⟨h.os, h.tape, h.output, h.size, fun k hk hn => h.block k hk fun e => hn (hs k hk e)⟩
theorem Upd.of_below {S : Nat → Prop} {a b : World} (h : Below a.heap.size a b) : Upd S a b := ⟨h.os, h.tape, h.output, h.size, fun k hk _ => h.block k hk⟩
theorem Upd.of_below' {S : Nat → Prop} {B : Nat} {a b : World} (h : Below B a b) (hS : ∀ k, B ≤ k → k < a.heap.size → S k) : Upd S a b :=
  ⟨h.os, h.tape, h.output, h.size, fun k hk hn => h.block k (by rcases Nat.lt_or_ge k B with h1 | h1; exact h1; exact absurd (hS k h1 hk) hn)⟩
theorem Upd.below {S : Nat → Prop} {B : Nat} {a b : World} (h : Upd S a b) (hB : B ≤ a.heap.size) (hS : ∀ k, k < B → ¬ S k) : Below B a b :=
  ⟨h.os, h.tape, h.output, h.size, fun k hk => h.block k (by omega) (hS k hk)⟩
theorem Upd.alloc {S : Nat → Prop} {a w : World} (h : Upd S a w) (o : Obj) : Upd S a (w.alloc o) :=
  h.trans ⟨rfl, rfl, rfl, by simp, fun k hk _ => Below.heap_alloc _ _ _ hk⟩
theorem Upd.setCell {S : Nat → Prop} {a w : World} (h : Upd S a w) {p : Addr} (hp : S p.block ∨ a.heap.size ≤ p.block) (v : Value) : Upd S a (w.setCell p v) :=
  ⟨h.os, h.tape, h.output, Nat.le_trans h.size (by show w.heap.size ≤ (w.heap.modify _ _).size; rw [Array.size_modify]; exact Nat.le_refl _),
    fun k hk hs => (Below.heap_setCell _ _ _ _ (by rintro rfl; rcases hp with hp | hp; exact hs hp; omega)).trans (h.block k hk hs)⟩
theorem Upd.drew {S : Nat → Prop} {a w : World} (h : Upd S a w) : Upd S a w.drew := ⟨h.os, h.tape, h.output, h.size, h.block⟩
theorem Upd.putObj {S : Nat → Prop} {a w : World} (h : Upd S a w) {r : Nat} (hr : S r ∨ a.heap.size ≤ r) (o : Obj) : Upd S a (w.putObj r o) :=
  ⟨h.os, h.tape, h.output, by simpa using h.size, fun k hk hs => (World.putObj_heap_other (by rintro rfl; rcases hr with hr | hr; exact hs hr; omega)).trans (h.block k hk hs)⟩
theorem Upd.cell {S : Nat → Prop} {a w : World} (h : Upd S a w) {p : Addr} (hp : p.block < a.heap.size) (hs : ¬ S p.block) : w.cell? p = a.cell? p := World.cell?_of_block (w := a) (h.block p.block hp hs)
theorem Upd.frozen {S : Nat → Prop} {a w : World} (h : Upd S a w) {p : Addr} (hp : p.block < a.heap.size) (hs : ¬ S p.block) : w.frozen? p = a.frozen? p := World.frozen?_of_block (w := a) (h.block p.block hp hs)

theorem SlOf.upd {w w' : World} {n sz : Nat} {v : Value} {rows : List (List Value)} {S : Nat → Prop} (h : SlOf w n sz v rows) (hn : n ≤ w.heap.size) (hS : ∀ k, k < n → ¬ S k) (hb : Upd S w w') : SlOf w' n sz v rows :=
  h.below (Nat.le_refl _) (hb.below hn hS)

/-- the map of what is right: what it holds of a spot is so, but of nowhere. -/
def CacheOk (W : World) (M : Nat) (cks : List Ck) : Prop :=
  ∃ es clock, W.heap[M]? = some (.map es clock) ∧ ∀ e ∈ es.toList, ∃ (s m : Int) (v : Bool), e.key = .agg #[.int .i64 s, .int .i64 m] ∧ e.val = .bool v ∧ (¬ (s = -1 ∧ m = -1) → v = rightL cks s m)

theorem CacheOk.of_block {W W' : World} {M : Nat} {cks : List Ck} (h : CacheOk W M cks) (hb : W'.heap[M]? = W.heap[M]?) : CacheOk W' M cks := by
  obtain ⟨es, clock, h1, h2⟩ := h
  exact ⟨es, clock, hb.trans h1, h2⟩
theorem CacheOk.lt {W : World} {M : Nat} {cks : List Ck} (h : CacheOk W M cks) : M < W.heap.size := by
  obtain ⟨es, clock, h1, _⟩ := h
  exact (Array.getElem?_eq_some_iff.1 h1).1

theorem ck115 (e : Bool) (s m : Int) : ∀ w, (Instr.checkKey e 10000 115 (.agg #[.int .i64 s, .int .i64 m])).run Tryd.prog w = .ok () w := by
  intro w
  cases e <;> kernel_rfl

theorem eq115 (s m s' m' : Int) : ∀ w, (Op.equal 115 (.agg #[.int .i64 s, .int .i64 m]) (.agg #[.int .i64 s', .int .i64 m'])).run Tryd.prog w = .ok (s == s' && m == m') w := by
  intro w
  show (Op.equalIn 10000 115 _ _).run _ _ = _
  rw [run_equalIn_agg (d := 9999) (ht := by kernel_rfl) (hp := by kernel_rfl)]
  by_cases h1 : s = s'
  · subst h1
    by_cases h2 : m = m'
    · subst h2
      simp [go_sem, Op.eqFields]
    · simp [go_sem, Op.eqFields, h2]
  · simp [go_sem, Op.eqFields, h1]

def KeysOk (es : List MapEntry) : Prop := ∀ e ∈ es, ∃ (s m : Int), e.key = .agg #[.int .i64 s, .int .i64 m]

theorem find115 (s m : Int) (w : World) : ∀ (es : List MapEntry) (i : Nat), KeysOk es →
    ∃ r, (Instr.findAsking 115 (.agg #[.int .i64 s, .int .i64 m]) es i).run Tryd.prog w = .ok r w ∧
      ∀ j v, r = some (j, v) → i ≤ j ∧ ∃ e, es[j - i]? = some e ∧ e.key = .agg #[.int .i64 s, .int .i64 m] ∧ e.val = v := by
  intro es
  induction es with
  | nil => intro i _; exact ⟨none, rfl, fun j v h => by cases h⟩
  | cons e es ih =>
    intro i hk
    obtain ⟨s', m', he⟩ := hk e (by simp)
    have hq := eq115 s m s' m' w
    by_cases h : (s == s' && m == m') = true
    · refine ⟨some (i, e.val), by simp only [Instr.findAsking, Sem.run_bind, he, hq, Result.andThen_ok, h]; rfl, fun j v hj => ?_⟩
      cases hj
      simp at h
      obtain ⟨rfl, rfl⟩ := h
      exact ⟨Nat.le_refl _, e, by simp, he, rfl⟩
    · obtain ⟨r, hr, hj⟩ := ih (i + 1) (fun e he => hk e (by simp [he]))
      refine ⟨r, by simp only [Instr.findAsking, Sem.run_bind, he, hq, Result.andThen_ok, h]; exact hr, fun j v hjv => ?_⟩
      obtain ⟨h1, e', h2, h3⟩ := hj j v hjv
      refine ⟨by omega, e', ?_, h3⟩
      rw [show j - i = (j - (i + 1)) + 1 by omega]
      simpa using h2

theorem findKey115 (s m : Int) (w : World) (es : List MapEntry) (hk : KeysOk es) :
    ∃ r, (Instr.findKey 115 (.agg #[.int .i64 s, .int .i64 m]) es).run Tryd.prog w = .ok r w ∧
      ∀ j v, r = some (j, v) → ∃ e, es[j]? = some e ∧ e.key = .agg #[.int .i64 s, .int .i64 m] ∧ e.val = v := by
  obtain ⟨r, hr, hj⟩ := find115 s m w es 0 hk
  cases es with
  | nil => exact ⟨none, by kernel_rfl, fun j v h => by cases h⟩
  | cons e es =>
    refine ⟨r, ?_, fun j v h => ?_⟩
    · have hu : ∀ w, (underlying 115).run Tryd.prog w = .ok (.struct (Tryd.prog.fieldsOf 115)) w := fun _ => by kernel_rfl
      simp only [Instr.findKey, Sem.run_bind, hu, Result.andThen_ok, Instr.findNow, Instr.sameNow]
      exact hr
    · obtain ⟨_, e', h1, h2⟩ := hj j v h
      exact ⟨e', by simpa using h1, h2⟩

theorem CacheOk.keys {W : World} {M : Nat} {cks : List Ck} (h : CacheOk W M cks) : ∃ es clock, W.heap[M]? = some (.map es clock) ∧ KeysOk es.toList := by
  obtain ⟨es, clock, h1, h2⟩ := h
  exact ⟨es, clock, h1, fun e he => by obtain ⟨s, m, v, hk, _⟩ := h2 e he; exact ⟨s, m, hk⟩⟩

theorem look115 {W : World} {M : Nat} {cks : List Ck} (h : CacheOk W M cks) (s m : Int) :
    ∃ v ok : Bool, (Instr.lookup 76 (.map (some M)) (.agg #[.int .i64 s, .int .i64 m]) true).run Tryd.prog W = .ok (.tuple #[.bool v, .bool ok]) W ∧
      (ok = true → ¬ (s = -1 ∧ m = -1) → v = rightL cks s m) := by
  obtain ⟨es, clock, h1, h2⟩ := h
  have hk : KeysOk es.toList := fun e he => by obtain ⟨s, m, v, hk, _⟩ := h2 e he; exact ⟨s, m, hk⟩
  obtain ⟨r, hr, hj⟩ := findKey115 s m W es.toList hk
  have hu : ∀ w, (underlying 76).run Tryd.prog w = .ok (.map 115 4) w := fun _ => by kernel_rfl
  have hg : (getObj M).run Tryd.prog W = .ok (.map es clock) W := by simp [getObj, Sem.run, h1]
  have hz : ∀ w, (zeroValue 4).run Tryd.prog w = .ok (.bool false) w := fun _ => by kernel_rfl
  cases r with
  | none =>
    refine ⟨false, false, ?_, by simp⟩
    simp only [Instr.lookup, Sem.run_bind, hu, Result.andThen_ok, hg, ck115, hr, hz, Sem.run_pure]
    rfl
  | some p =>
    obtain ⟨j, v⟩ := p
    obtain ⟨e, he, hek, hev⟩ := hj j v rfl
    obtain ⟨s', m', v', hk', hv', hvr⟩ := h2 e (List.mem_of_getElem? he)
    rw [hek] at hk'
    cases hk'
    refine ⟨v', true, ?_, fun _ hn => hvr hn⟩
    rw [hev] at hv'
    subst hv'
    simp only [Instr.lookup, Sem.run_bind, hu, Result.andThen_ok, hg, ck115, hr, Sem.run_pure]
    rfl

theorem same115 (s m : Int) : Instr.sameBits 10000 (.agg #[.int .i64 s, .int .i64 m]) (.agg #[.int .i64 s, .int .i64 m]) = true := by
  simp [Instr.sameBits]

theorem put115 {W : World} {M : Nat} {cks : List Ck} (h : CacheOk W M cks) (s m : Int) (v : Bool) (hv : v = rightL cks s m) :
    ∃ o, (Instr.mapUpdate 76 (.map (some M)) (.agg #[.int .i64 s, .int .i64 m]) (.bool v)).run Tryd.prog W = .ok () (W.putObj M o) ∧ CacheOk (W.putObj M o) M cks := by
  have hlt := h.lt
  obtain ⟨es, clock, h1, h2⟩ := h
  have hk : KeysOk es.toList := fun e he => by obtain ⟨s, m, v, hk, _⟩ := h2 e he; exact ⟨s, m, hk⟩
  obtain ⟨r, hr, hj⟩ := findKey115 s m W es.toList hk
  have hu : ∀ w, (underlying 76).run Tryd.prog w = .ok (.map 115 4) w := fun _ => by kernel_rfl
  have hg : (getObj M).run Tryd.prog W = .ok (.map es clock) W := by simp [getObj, Sem.run, h1]
  have hs : ∀ o, (setObj M o).run Tryd.prog W = .ok () (W.putObj M o) := fun o => by simp [setObj, Sem.run, h1, World.putObj]
  cases r with
  | none =>
    refine ⟨.map (es.push { key := .agg #[.int .i64 s, .int .i64 m], val := .bool v, born := clock }) (clock + 1), ?_, ?_⟩
    · simp only [Instr.mapUpdate, Sem.run_bind, hu, Result.andThen_ok, hg, ck115, hr, hs]
    · refine ⟨_, _, World.putObj_heap_same hlt, fun e he => ?_⟩
      rw [Array.toList_push, List.mem_append, List.mem_singleton] at he
      rcases he with he | rfl
      · exact h2 e he
      · exact ⟨s, m, v, rfl, rfl, fun _ => hv⟩
  | some p =>
    obtain ⟨j, v0⟩ := p
    obtain ⟨e, he, hek, hev⟩ := hj j v0 rfl
    have hej : (es[j]?).map (·.key) = some (.agg #[.int .i64 s, .int .i64 m]) := by
      rw [← Array.getElem?_toList, he]; simp [hek]
    refine ⟨.map (es.modify j fun e => { e with key := .agg #[.int .i64 s, .int .i64 m], val := .bool v }) clock, ?_, ?_⟩
    · simp only [Instr.mapUpdate, Sem.run_bind, hu, Result.andThen_ok, hg, ck115, hr, hej, Option.getD_some, Instr.keyThatStays, same115, if_true, Sem.run_pure, hs]
    · refine ⟨_, _, World.putObj_heap_same hlt, fun e' he' => ?_⟩
      rw [List.mem_iff_getElem?] at he'
      obtain ⟨i, hi⟩ := he'
      rw [Array.getElem?_toList, Array.getElem?_modify] at hi
      split at hi
      · rename_i hji
        subst hji
        rw [← Array.getElem?_toList, he] at hi
        cases hi
        exact ⟨s, m, v, rfl, rfl, fun _ => hv⟩
      · rw [← Array.getElem?_toList] at hi
        exact h2 e' (List.mem_of_getElem? hi)
end Go.Proofs.YtbhjfojbjpbdbaaDoor

-- D: A region that draws its order, every operation of which comes to one value whatever the order ('Det'): one walk in the text's order, the world before each operation any that meets S. Written by a session.
namespace Go.Proofs.YtbhjfojbjpbdbaaDoor
open Go

/-- what an operation comes to: a value, and what holds of the world behind it. -/
def Res (P : Program) (v : Value) (S : World → Prop) : Result Next → Prop
  | .ok (.value u) w => u = v ∧ S w
  | .ok .skip w => v = undef ∧ S w
  | .ok (.enter f args) w => Calls P f args w fun e w' => e = .returned v ∧ S w'
  | .ok (.round l fn tmps assign body) w => RoundIn Fence.wide 0 P l fn tmps assign body w fun e w' => e = .returned v ∧ S w'
  | _ => False

/-- under the wide fence no depth is asked for. -/
theorem roundIn_wide {P : Program} {n m l : Nat} {f : FuncId} {tmps : Array Value} {assign body : Code} {w : World} {R : Ending → World → Prop} (h : RoundIn Fence.wide n P l f tmps assign body w R) : RoundIn Fence.wide m P l f tmps assign body w R :=
  ⟨h.1, fun c cs _ => h.2 c cs (room_wide _)⟩

/-- operation i comes up next, when those of L have come up. -/
structure Now (ops : Array Oper) (L : Nat → Bool) (i : Nat) : Prop where
  free : L i = false
  after : ∀ o, ops[i]? = some o → ∀ e ∈ o.after, Region.binds .any e = true → L e.on = true
  closed : ∀ j o, ops[j]? = some o → L j = true → ∀ e ∈ o.after, Region.binds .any e = true → L e.on = true

def Then (S : (Nat → Bool) → World → Prop) (L : Nat → Bool) (i : Nat) (w : World) : Prop := ∀ L' : Nat → Bool, L' i = true → (∀ j, j ≠ i → L' j = L j) → S L' w

def OpDet (P : Program) (ops : Array Oper) (S : (Nat → Bool) → World → Prop) (i : Nat) (o : Oper) (a : Act) (v : Value) : Prop :=
  (Region.wanted o (yielded ops a.tmps) = true ∧ ∀ L w, Now ops L i → S L w → Res P v (Then S L i) ((execOp a.eval o).run P w)) ∨
  (Region.wanted o (yielded ops a.tmps) = false ∧ v = undef ∧ ∀ L w, Now ops L i → S L w → Then S L i w)

def Det (P : Program) (ops : Array Oper) (S : (Nat → Bool) → World → Prop) : List Oper → Nat → Act → (Act → Prop) → Prop
  | [], _, a, K => K a
  | o :: l, i, a, K => ∃ v, OpDet P ops S i o a v ∧ Det P ops S l (i + 1) (a.put o.dst v) K

/-- does operation j wait for i? -/
def waits (ops : Array Oper) (j i : Nat) : Bool :=
  match ops[j]? with
  | some oj => oj.after.any fun e => Region.binds .any e && e.on == i
  | none => false

/-- each operation looks only at what those that it waits for have written; no two write one slot; all wait for earlier ones. -/
def detB (ops : Array Oper) : Bool :=
  Region.noSelect ops &&
  (List.range ops.size).all fun i =>
    (match ops[i]? with
     | some oi => oi.after.all fun e => !Region.binds .any e || decide (e.on < i)
     | none => true) &&
    (List.range ops.size).all fun j =>
      match ops[i]?, ops[j]? with
      | some oi, some oj =>
        match oj.dst with
        | some d => (i == j || oi.dst != some d) && (!(oi.looksAt ops).contains d || waits ops i j)
        | none => true
      | _, _ => true

section
variable {P : Program} {ops : Array Oper} {S : (Nat → Bool) → World → Prop}

theorem waits_iff {j i : Nat} : waits ops j i = true ↔ ∃ o, ops[j]? = some o ∧ ∃ e ∈ o.after, Region.binds .any e = true ∧ e.on = i := by
  unfold waits
  cases h : ops[j]? with
  | none => simp
  | some o =>
    simp only [Option.some.injEq, exists_eq_left']
    rw [Array.any_eq_true']
    simp

theorem Now.not_yet {L : Nat → Bool} {i j : Nat} (h : Now ops L i) (hw : waits ops j i = true) : L j = false := by
  cases hj : L j with
  | false => rfl
  | true =>
    obtain ⟨o, ho, e, he, hb, hon⟩ := waits_iff.1 hw
    have := h.closed j o ho hj e he hb
    rw [hon, h.free] at this
    cases this
theorem Now.chain {L : Nat → Bool} {i j k : Nat} (h : Now ops L i) (hj : L j = false) (hw : waits ops k j = true) : L k = false := by
  cases hk : L k with
  | false => rfl
  | true =>
    obtain ⟨o, ho, e, he, hb, hon⟩ := waits_iff.1 hw
    have := h.closed k o ho hk e he hb
    rw [hon, hj] at this
    cases this
theorem Now.up {L : Nat → Bool} {i j k : Nat} (h : Now ops L i) (hj : L j = true) (hw : waits ops j k = true) : L k = true := by
  obtain ⟨o, ho, e, he, hb, hon⟩ := waits_iff.1 hw
  have := h.closed j o ho hj e he hb
  rwa [hon] at this
theorem Now.was {L : Nat → Bool} {i j : Nat} (h : Now ops L i) (hw : waits ops i j = true) : L j = true := by
  obtain ⟨o, ho, e, he, hb, hon⟩ := waits_iff.1 hw
  have := h.after o ho e he hb
  rwa [hon] at this

structure DetB (ops : Array Oper) : Prop where
  sel : ∀ (j : Nat) (o : Oper) cs b, ops[j]? = some o → o.op ≠ .select cs b
  apart : ∀ (i j : Nat) (oi oj : Oper) (d : Tmp), ops[i]? = some oi → ops[j]? = some oj → oj.dst = some d → i ≠ j → oi.dst ≠ some d
  looks : ∀ (i j : Nat) (oi oj : Oper) (d : Tmp), ops[i]? = some oi → ops[j]? = some oj → oj.dst = some d → d ∈ oi.looksAt ops → waits ops i j = true
  back : ∀ i j, waits ops i j = true → j < i

theorem detB_spec (h : detB ops = true) : DetB ops := by
  unfold detB at h
  rw [Bool.and_eq_true, List.all_eq_true] at h
  obtain ⟨hs, h⟩ := h
  have row : ∀ (i : Nat) (oi : Oper), ops[i]? = some oi → (oi.after.all fun e => !Region.binds .any e || decide (e.on < i)) = true ∧ ∀ (j : Nat) (oj : Oper), ops[j]? = some oj →
      (match oj.dst with
        | some d => (i == j || oi.dst != some d) && (!(oi.looksAt ops).contains d || waits ops i j)
        | none => true) = true := by
    intro i oi hi
    have h1 := h i (List.mem_range.2 (Array.getElem?_eq_some_iff.1 hi).1)
    rw [Bool.and_eq_true, List.all_eq_true] at h1
    refine ⟨by simpa only [hi] using h1.1, fun j oj hj => ?_⟩
    have h2 := h1.2 j (List.mem_range.2 (Array.getElem?_eq_some_iff.1 hj).1)
    simpa only [hi, hj] using h2
  refine ⟨Region.noSelect_spec hs, fun i j oi oj d hi hj hd hne => ?_, fun i j oi oj d hi hj hd hl => ?_, fun i j hw => ?_⟩
  · have h1 := (row i oi hi).2 j oj hj
    simp only [hd, Bool.and_eq_true, Bool.or_eq_true, beq_iff_eq, bne_iff_ne] at h1
    exact h1.1.resolve_left hne
  · have h1 := (row i oi hi).2 j oj hj
    simp only [hd, Bool.and_eq_true, Bool.or_eq_true, Bool.not_eq_true'] at h1
    rcases h1.2 with h2 | h2
    · simp [hl] at h2
    · exact h2
  · obtain ⟨o, ho, e, he, hb, hon⟩ := waits_iff.1 hw
    have h1 := Array.all_eq_true_iff_forall_mem.1 (row i o ho).1 e he
    simp only [hb, Bool.not_true, Bool.false_or, decide_eq_true_eq] at h1
    omega

/-- the activation when those of L, below k, have come up. -/
def mixed (ops : Array Oper) (a : Act) (V : Nat → Value) (L : Nat → Bool) : Nat → Act
  | 0 => a
  | k + 1 => if L k then (mixed ops a V L k).put ((ops[k]?).bind (·.dst)) (V k) else mixed ops a V L k

variable {a : Act} {V : Nat → Value}

theorem put_size (x : Act) (d : Option Tmp) (v : Value) : (x.put d v).tmps.size = x.tmps.size := by cases d <;> simp [Act.put]
theorem put_defs (x : Act) (d : Option Tmp) (v : Value) : (x.put d v).defers = x.defers := by cases d <;> simp [Act.put]
theorem mixed_size (L : Nat → Bool) : ∀ k, (mixed ops a V L k).tmps.size = a.tmps.size
  | 0 => rfl
  | k + 1 => by unfold mixed; split <;> simp [put_size, mixed_size L k]

theorem put_get (x : Act) (d : Option Tmp) (v : Value) (t : Tmp) : (x.put d v).tmps[t]? = if d = some t then (if t < x.tmps.size then some v else none) else x.tmps[t]? := by
  cases d with
  | none => simp [Act.put]
  | some d =>
    simp only [Act.put, Option.some.injEq]
    rw [Array.getElem?_setIfInBounds]
    by_cases e : d = t
    · subst e; rfl
    · rw [if_neg e, if_neg e]

theorem mixed_agree (t : Tmp) (L M : Nat → Bool) : ∀ k, (∀ j o, j < k → ops[j]? = some o → o.dst = some t → L j = M j) → (mixed ops a V L k).tmps[t]? = (mixed ops a V M k).tmps[t]?
  | 0, _ => rfl
  | k + 1, h => by
    have ih := mixed_agree t L M k (fun j o hj => h j o (by omega))
    unfold mixed
    by_cases hd : (ops[k]?).bind (·.dst) = some t
    · have hlm : L k = M k := by
        cases ho : ops[k]? with
        | none => rw [ho] at hd; cases hd
        | some o => rw [ho] at hd; exact h k o (by omega) ho hd
      rw [hlm]
      split
      · rw [put_get, put_get, mixed_size, mixed_size, if_pos hd, if_pos hd]
      · exact ih
    · have e : ∀ (x : Act), (x.put ((ops[k]?).bind (·.dst)) (V k)).tmps[t]? = x.tmps[t]? := fun x => by rw [put_get, if_neg hd]
      split <;> split <;> simp only [e, ih]

theorem mixed_congr {L M : Nat → Bool} : ∀ k, (∀ j, j < k → L j = M j) → mixed ops a V L k = mixed ops a V M k
  | 0, _ => rfl
  | k + 1, h => by unfold mixed; rw [mixed_congr k (fun j hj => h j (by omega)), h k (by omega)]

theorem mixed_cut (i : Nat) : ∀ k, i ≤ k → mixed ops a V (fun j => decide (j < i)) k = mixed ops a V (fun _ => true) i := by
  intro k hk
  induction k with
  | zero => obtain rfl : i = 0 := by omega
            rfl
  | succ k ih =>
    by_cases e : i = k + 1
    · subst e
      exact mixed_congr _ (fun j hj => by simp [hj])
    · rw [mixed, if_neg (by simp; omega)]
      exact ih (by omega)

theorem mixed_put (hB : DetB ops) {L L' : Nat → Bool} {i : Nat} (hi : L i = false) (hi' : L' i = true) (ho : ∀ j, j ≠ i → L' j = L j) :
    ∀ k, i < k → k ≤ ops.size → mixed ops a V L' k = (mixed ops a V L k).put ((ops[i]?).bind (·.dst)) (V i) := by
  intro k
  induction k with
  | zero => intro h; omega
  | succ k ih =>
    intro hk hks
    by_cases e : i = k
    · subst e
      unfold mixed
      rw [hi, hi', if_pos rfl, if_neg (by simp), mixed_congr i (fun j hj => ho j (by omega))]
    · have h1 := ih (by omega) (by omega)
      unfold mixed
      rw [ho k (fun h => e h.symm), h1]
      split
      · refine Act.put_comm _ _ _ fun d hd hk' => ?_
        have hki : k < ops.size := by omega
        have hii : i < ops.size := by omega
        rw [Array.getElem?_eq_getElem hii] at hd
        rw [Array.getElem?_eq_getElem hki] at hk'
        exact hB.apart k i _ _ d (Array.getElem?_eq_getElem hki) (Array.getElem?_eq_getElem hii) hd (fun h => e h.symm) hk'
      · rfl

theorem eval_of (x y : Act) (o : Operand) (h : ∀ t, o = .tmp t → x.tmps[t]? = y.tmps[t]?) : x.eval o = y.eval o := by
  cases o with
  | tmp t => simp [Act.eval, Array.getD_eq_getD_getElem?, h t rfl]
  | _ => rfl

/-- what an operation comes to hangs on what it looks at alone. -/
theorem same_exec (hB : DetB ops) {L : Nat → Bool} {i : Nat} {o : Oper} (ho : ops[i]? = some o) (hN : Now ops L i) :
    execOp (mixed ops a V L ops.size).eval o = execOp (mixed ops a V (fun _ => true) i).eval o ∧
    Region.wanted o (yielded ops (mixed ops a V L ops.size).tmps) = Region.wanted o (yielded ops (mixed ops a V (fun _ => true) i).tmps) := by
  have hlt := (Array.getElem?_eq_some_iff.1 ho).1
  rw [← mixed_cut i ops.size (by omega)]
  have key : ∀ t, t ∈ o.looksAt ops → (mixed ops a V L ops.size).tmps[t]? = (mixed ops a V (fun j => decide (j < i)) ops.size).tmps[t]? := by
    intro t ht
    refine mixed_agree t _ _ _ fun j oj hj hoj hd => ?_
    have hw := hB.looks i j o oj t ho hoj hd ht
    rw [hN.was hw]
    simp [hB.back i j hw]
  constructor
  · refine execOp_congr o (fun cs b => hB.sel i o cs b ho) fun x hx => eval_of _ _ _ fun t ht => key t ?_
    subst ht
    exact List.mem_append_left _ (List.mem_filterMap.2 ⟨.tmp t, by simpa using hx, rfl⟩)
  · unfold Region.wanted
    cases hg : o.guard with
    | none => rfl
    | some gw =>
      obtain ⟨g, want⟩ := gw
      have hy : yielded ops (mixed ops a V L ops.size).tmps g = yielded ops (mixed ops a V (fun j => decide (j < i)) ops.size).tmps g := by
        unfold yielded
        cases ht : (ops[g]?).bind (·.dst) with
        | none => rfl
        | some t => simp only [Option.bind_some, key t (by simp [Oper.looksAt, hg, ht])]
      simp only [hy]

theorem det_vals {K : Act → Prop} : ∀ (l : List Oper) (i : Nat) (a : Act), Det P ops S l i a K →
    ∃ V : Nat → Value, ∃ A : Nat → Act, A 0 = a ∧ (∀ k o, l[k]? = some o → OpDet P ops S (i + k) o (A k) (V k) ∧ A (k + 1) = (A k).put o.dst (V k)) ∧ K (A l.length)
  | [], i, a, h => ⟨fun _ => undef, fun _ => a, rfl, fun k o hk => by simp at hk, h⟩
  | o :: l, i, a, h => by
    obtain ⟨v, h1, h2⟩ := h
    obtain ⟨V, A, hA, hk, hK⟩ := det_vals l (i + 1) _ h2
    refine ⟨fun k => match k with | 0 => v | k + 1 => V k, fun k => match k with | 0 => a | k + 1 => A k, rfl, fun k o' ho => ?_, hK⟩
    cases k with
    | zero =>
      simp at ho
      subst ho
      exact ⟨h1, hA⟩
    | succ k =>
      have := hk k o' (by simpa using ho)
      rw [show i + 1 + k = i + (k + 1) by omega] at this
      exact this

theorem mem_ready_now {listed : Array Bool} {i : Nat} (hc : ∀ j o, ops[j]? = some o → listed.getD j false = true → ∀ e ∈ o.after, Region.binds .any e = true → listed.getD e.on false = true)
    (hs : listed.size = ops.size) (h : i ∈ Region.ready .any ops listed) : Now ops (fun j => listed.getD j false) i ∧ i < ops.size := by
  obtain ⟨h0, o, ho, h1⟩ := mem_ready.1 h
  have hlt := (Array.getElem?_eq_some_iff.1 ho).1
  have hl : i < listed.size := by omega
  refine ⟨⟨?_, fun o' ho' => ?_, hc⟩, hlt⟩
  · simp [hl] at h0 ⊢; exact h0
  · rw [ho] at ho'; cases ho'; exact h1

theorem res_upon {Q : Exit → Act → World → Prop} {o : Oper} {a : Act} {v : Value} {T : World → Prop} {K : Act → World → Prop} {r : Result Next} (h : Res P v T r) (hK : ∀ w, T w → K (a.put o.dst v) w) : o.uponIn Fence.wide 0 P a K Q r := by
  cases r with
  | ok n w =>
    cases n with
    | value u => obtain ⟨rfl, ht⟩ := h; exact hK w ht
    | skip => obtain ⟨rfl, ht⟩ := h; exact hK w ht
    | enter f args =>
      refine ⟨fun hd => (by cases hd), callsIn_wide.2 (Calls.mono h fun e w' he => ?_)⟩
      obtain ⟨rfl, ht⟩ := he
      exact hK w' ht
    | round l fn tmps assign body =>
      refine ⟨fun hd => (by cases hd), roundIn_wide (RoundIn.mono h fun e w' he => ?_)⟩
      obtain ⟨rfl, ht⟩ := he
      exact hK w' ht
    | _ => exact h.elim
  | halt x w => exact h.elim

theorem wp_region_det {Q : Exit → Act → World → Prop} {id : Nat} {w : World} (hm : P.follows .mixedOrders = true) (hB : detB ops = true) (h0 : S (fun _ => false) w.drew)
    (h : Det P ops S ops.toList 0 a (fun a' => ∀ L w', (∀ i, i < ops.size → L i = true) → S L w' → Q .normal a' w')) : (Code.region id ops true).wp P Q a w := by
  have hD := detB_spec hB
  obtain ⟨V, A, hA0, hA, hK⟩ := det_vals _ _ _ h
  have hAm : ∀ k, k ≤ ops.size → A k = mixed ops a V (fun _ => true) k := by
    intro k
    induction k with
    | zero => intro _; exact hA0
    | succ k ih =>
      intro hk
      have hlt : k < ops.size := by omega
      have h1 := (hA k ops[k] (by rw [Array.getElem?_toList]; exact Array.getElem?_eq_getElem hlt)).2
      rw [h1, ih (by omega)]
      simp [mixed, Array.getElem?_eq_getElem hlt]
  refine (wpIn_wide (n := 0)).1 (wpIn_region_any hm ?_)
  have main : ∀ (f : Nat) (listed : Array Bool) (w' : World), listed.size = ops.size →
      (∀ j o, ops[j]? = some o → listed.getD j false = true → ∀ e ∈ o.after, Region.binds .any e = true → listed.getD e.on false = true) →
      ((List.range ops.size).countP fun j => !listed.getD j false) ≤ f → S (fun j => listed.getD j false) w' →
      wpAnyIn Fence.wide 0 P .any ops Q f listed (mixed ops a V (fun j => listed.getD j false) ops.size) w' := by
    have done : ∀ (listed : Array Bool) (w' : World), (∀ i, i < ops.size → listed.getD i false = true) → S (fun j => listed.getD j false) w' → Q .normal (mixed ops a V (fun j => listed.getD j false) ops.size) w' := by
      intro listed w' hall hS
      have h1 := hK (fun j => listed.getD j false) w' hall hS
      rw [Array.length_toList, hAm _ (Nat.le_refl _)] at h1
      rwa [mixed_congr (M := fun _ => true) _ (fun j hj => hall j hj)]
    have least : ∀ (listed : Array Bool), listed.size = ops.size → Region.ready .any ops listed = [] → ∀ i, i < ops.size → listed.getD i false = true := by
      intro listed hs hr i
      induction i using Nat.strongRecOn with
      | _ i ih =>
        intro hi
        cases hl : listed.getD i false with
        | true => rfl
        | false =>
          have hl' : listed.getD i true = false := by
            have : i < listed.size := by omega
            simp [this] at hl ⊢
            exact hl
          have hm : i ∈ Region.ready .any ops listed := mem_ready.2 ⟨hl', ops[i], Array.getElem?_eq_getElem hi, fun e he hb => by
            have hw : waits ops i e.on = true := waits_iff.2 ⟨ops[i], Array.getElem?_eq_getElem hi, e, he, hb, rfl⟩
            have hlt := hD.back i e.on hw
            exact ih e.on hlt (by omega)⟩
          rw [hr] at hm
          cases hm
    intro f
    induction f with
    | zero =>
      intro listed w' hs hc hcnt hS
      have hall : ∀ i, i < ops.size → listed.getD i false = true := fun i hi => by
        have h1 := List.countP_eq_zero.1 (Nat.le_zero.1 hcnt) i (List.mem_range.2 hi)
        simpa using h1
      refine ⟨?_, done listed w' hall hS⟩
      apply List.eq_nil_iff_forall_not_mem.2
      intro i hi
      obtain ⟨hN, hlt⟩ := mem_ready_now hc hs hi
      have h1 := hN.free
      have h2 : listed.getD i false = false := h1
      rw [hall i hlt] at h2
      cases h2
    | succ f ih =>
      intro listed w' hs hc hcnt hS
      refine ⟨fun hr => done listed w' (least listed hs hr) hS, fun i hi => ?_⟩
      obtain ⟨hN, hlt⟩ := mem_ready_now hc hs hi
      have ho : ops[i]? = some ops[i] := Array.getElem?_eq_getElem hlt
      obtain ⟨hx, hw⟩ := same_exec (a := a) (V := V) hD ho hN
      have hdet := (hA i ops[i] (by rw [Array.getElem?_toList]; exact ho)).1
      rw [Nat.zero_add, hAm i (by omega)] at hdet
      have hset : ∀ j, (listed.setIfInBounds i true).getD j false = if j = i then true else listed.getD j false := by
        intro j
        by_cases e : j = i
        · subst e
          have : j < listed.size := by omega
          simp [this]
        · rw [if_neg e, getD_set_ne false (fun h => e h.symm)]
      have next : ∀ w2, Then S (fun j => listed.getD j false) i w2 → wpAnyIn Fence.wide 0 P .any ops Q f (listed.setIfInBounds i true) ((mixed ops a V (fun j => listed.getD j false) ops.size).put ops[i].dst (V i)) w2 := by
        intro w2 hT
        have hmx := mixed_put (a := a) (V := V) hD (L := fun j => listed.getD j false) (L' := fun j => (listed.setIfInBounds i true).getD j false) (i := i) hN.free (by simp [hset])
          (fun j hj => by simp only [hset, if_neg hj]) ops.size hlt (Nat.le_refl _)
        rw [ho, Option.bind_some] at hmx
        rw [← hmx]
        refine ih _ w2 (by simp [hs]) (fun j o hj hl e he hb => ?_) ?_ (hT _ (by simp [hset]) (fun j hj => by simp only [hset, if_neg hj]))
        · rw [hset] at hl ⊢
          split
          · rfl
          · by_cases e1 : j = i
            · subst e1
              exact hN.after o hj e he hb
            · rw [if_neg e1] at hl
              exact hc j o hj hl e he hb
        · have hcount : ((List.range ops.size).countP fun j => !(listed.setIfInBounds i true).getD j false) + 1 ≤ ((List.range ops.size).countP fun j => !listed.getD j false) := by
            have e1 : ((List.range ops.size).countP fun j => !(listed.setIfInBounds i true).getD j false) = ((List.range ops.size).countP fun j => !listed.getD j false && !(j == i)) := by
              refine List.countP_congr fun j _ => ?_
              rw [hset]
              by_cases e : j = i
              · simp [e]
              · simp [e]
            rw [e1]
            have e2 : (List.range ops.size).countP (fun j => !listed.getD j false) = ((List.range ops.size).countP fun j => !listed.getD j false && !(j == i)) + ((List.range ops.size).countP fun j => !listed.getD j false && (j == i)) := by
              induction (List.range ops.size) with
              | nil => rfl
              | cons x l ihl =>
                simp only [List.countP_cons, ihl]
                cases listed.getD x false <;> cases (x == i) <;> simp <;> omega
            rw [e2]
            have e3 : 0 < (List.range ops.size).countP fun j => !listed.getD j false && (j == i) :=
              List.countP_pos_iff.2 ⟨i, List.mem_range.2 hlt, by have := hN.free; simp only [this]; simp⟩
            omega
          omega
      unfold wpOpIn
      simp only [ho]
      rw [hw]
      rcases hdet with ⟨hwant, hres⟩ | ⟨hwant, hv, hS'⟩
      · rw [if_pos hwant]
        unfold Oper.wpIn
        refine ⟨fun _ _ => trivial, ?_⟩
        rw [show Fence.wide.round = none from rfl, Oper.semAt_none, hx]
        exact res_upon (hres _ w' hN hS) next
      · rw [if_neg (by simp [hwant])]
        have := next w' (hS' _ w' hN hS)
        rw [hv] at this
        exact ⟨fun _ _ => trivial, this⟩
  have hstart : mixed ops a V (fun j => (Array.replicate ops.size false).getD j false) ops.size = a := by
    have e : ∀ k, mixed ops a V (fun _ => false) k = a := by
      intro k
      induction k with
      | zero => rfl
      | succ k ih => unfold mixed; simpa using ih
    rw [mixed_congr (M := fun _ => false) _ (fun j _ => ?_)]
    · exact e _
    · by_cases hj : j < ops.size
      · simp [hj]
      · simp [hj]
  have hS0 : (fun j => (Array.replicate ops.size false).getD j false) = (fun _ : Nat => false) := by
    funext j
    by_cases hj : j < ops.size
    · simp [hj]
    · simp [hj]
  have := main ops.size (Array.replicate ops.size false) { w with drawn := w.drawn + 1 } (by simp) (fun j o _ hl => by
      rw [congrFun hS0 j] at hl; cases hl) (Nat.le_trans List.countP_le_length (by simp)) (by rw [hS0]; exact h0)
  rwa [hstart] at this

theorem det_cons {o : Oper} {l : List Oper} {i : Nat} {a : Act} {K : Act → Prop} (v : Value)
    (h : Region.wanted o (yielded ops a.tmps) = true ∧ ∀ L w, Now ops L i → S L w → Res P v (Then S L i) ((execOp a.eval o).run P w))
    (h2 : Det P ops S l (i + 1) (a.put o.dst v) K) : Det P ops S (o :: l) i a K := ⟨v, .inl h, h2⟩
theorem det_skip {o : Oper} {l : List Oper} {i : Nat} {a : Act} {K : Act → Prop}
    (h : Region.wanted o (yielded ops a.tmps) = false ∧ ∀ L w, Now ops L i → S L w → Then S L i w)
    (h2 : Det P ops S l (i + 1) (a.put o.dst undef) K) : Det P ops S (o :: l) i a K := ⟨undef, .inr ⟨h.1, rfl, h.2⟩, h2⟩
theorem det_nil {i : Nat} {a : Act} {K : Act → Prop} (h : K a) : Det P ops S [] i a K := h
end
end Go.Proofs.YtbhjfojbjpbdbaaDoor

-- D2: A region that draws its order, whose operations' values may differ from order to order: a statement S over who has come up, their values and the world is kept by each operation ('DetX'); and its use with facts that no later operation breaks ('wp_region_facts'). Written by a session.
namespace Go.Proofs.YtbhjfojbjpbdbaaDoor
open Go Go.RowKit

/-- what an operation comes to: a value and a world that meet R. -/
def ResX (P : Program) (R : Value → World → Prop) : Result Next → Prop
  | .ok (.value u) w => R u w
  | .ok .skip w => R undef w
  | .ok (.enter f args) w => Calls P f args w fun e w' => ∃ v, e = .returned v ∧ R v w'
  | .ok (.round l fn tmps assign body) w => RoundIn Fence.wide 0 P l fn tmps assign body w fun e w' => ∃ v, e = .returned v ∧ R v w'
  | _ => False

def ThenX (S : (Nat → Bool) → (Nat → Value) → World → Prop) (L : Nat → Bool) (V : Nat → Value) (i : Nat) (v : Value) (w : World) : Prop :=
  ∀ (L' : Nat → Bool) (V' : Nat → Value), L' i = true → (∀ j, j ≠ i → L' j = L j) → V' i = v → (∀ j, j ≠ i → V' j = V j) → S L' V' w

def OpX (P : Program) (ops : Array Oper) (S : (Nat → Bool) → (Nat → Value) → World → Prop) (i : Nat) (o : Oper) (A : (Nat → Value) → Act) : Prop :=
  ∀ L V w, Now ops L i → S L V w →
    (Region.wanted o (yielded ops (A V).tmps) = true ∧ ResX P (ThenX S L V i) ((execOp (A V).eval o).run P w)) ∨
    (Region.wanted o (yielded ops (A V).tmps) = false ∧ ThenX S L V i undef w)

def DetX (P : Program) (ops : Array Oper) (S : (Nat → Bool) → (Nat → Value) → World → Prop) : List Oper → Nat → ((Nat → Value) → Act) → (((Nat → Value) → Act) → Prop) → Prop
  | [], _, A, K => K A
  | o :: l, i, A, K => OpX P ops S i o A ∧ DetX P ops S l (i + 1) (fun V => (A V).put o.dst (V i)) K

section
variable {P : Program} {ops : Array Oper} {S : (Nat → Bool) → (Nat → Value) → World → Prop} {a : Act}

theorem mixed_vals {V V' : Nat → Value} {L : Nat → Bool} : ∀ k, (∀ j, j < k → L j = true → V j = V' j) → mixed ops a V L k = mixed ops a V' L k
  | 0, _ => rfl
  | k + 1, h => by
    unfold mixed
    rw [mixed_vals k (fun j hj => h j (by omega))]
    by_cases e : L k = true
    · rw [if_pos e, if_pos e, h k (by omega) e]
    · rw [if_neg e, if_neg e]

theorem detx_vals {K : ((Nat → Value) → Act) → Prop} : ∀ (l : List Oper) (i : Nat) (A0 : (Nat → Value) → Act), DetX P ops S l i A0 K →
    ∃ A : Nat → (Nat → Value) → Act, A 0 = A0 ∧ (∀ k o, l[k]? = some o → OpX P ops S (i + k) o (A k) ∧ ∀ V, A (k + 1) V = (A k V).put o.dst (V (i + k))) ∧ K (A l.length)
  | [], i, A0, h => ⟨fun _ => A0, rfl, fun k o hk => by simp at hk, h⟩
  | o :: l, i, A0, h => by
    obtain ⟨h1, h2⟩ := h
    obtain ⟨A, hA, hk, hK⟩ := detx_vals l (i + 1) _ h2
    refine ⟨fun k => match k with | 0 => A0 | k + 1 => A k, rfl, fun k o' ho => ?_, hK⟩
    cases k with
    | zero =>
      simp at ho
      subst ho
      exact ⟨h1, fun V => congrFun hA V⟩
    | succ k =>
      have := hk k o' (by simpa using ho)
      rw [show i + 1 + k = i + (k + 1) by omega] at this
      exact this

theorem resx_upon {Q : Exit → Act → World → Prop} {o : Oper} {a : Act} {R : Value → World → Prop} {K : Act → World → Prop} {r : Result Next} (h : ResX P R r) (hK : ∀ v w, R v w → K (a.put o.dst v) w) : o.uponIn Fence.wide 0 P a K Q r := by
  cases r with
  | ok n w =>
    cases n with
    | value u => exact hK u w h
    | skip => exact hK _ w h
    | enter f args =>
      refine ⟨fun hd => (by cases hd), callsIn_wide.2 (Calls.mono h fun e w' he => ?_)⟩
      obtain ⟨v, rfl, ht⟩ := he
      exact hK v w' ht
    | round l fn tmps assign body =>
      refine ⟨fun hd => (by cases hd), roundIn_wide (RoundIn.mono h fun e w' he => ?_)⟩
      obtain ⟨v, rfl, ht⟩ := he
      exact hK v w' ht
    | _ => exact h.elim
  | halt x w => exact h.elim

theorem wp_region_inv {Q : Exit → Act → World → Prop} {id : Nat} {w : World} (hm : P.follows .mixedOrders = true) (hB : detB ops = true) (h0 : ∀ V, S (fun _ => false) V w.drew)
    (h : DetX P ops S ops.toList 0 (fun _ => a) (fun A => ∀ L V w', (∀ i, i < ops.size → L i = true) → S L V w' → Q .normal (A V) w')) : (Code.region id ops true).wp P Q a w := by
  have hD := detB_spec hB
  obtain ⟨A, hA0, hA, hK⟩ := detx_vals _ _ _ h
  have hAm : ∀ k, k ≤ ops.size → ∀ V, A k V = mixed ops a V (fun _ => true) k := by
    intro k
    induction k with
    | zero => intro _ V; exact congrFun hA0 V
    | succ k ih =>
      intro hk V
      have hlt : k < ops.size := by omega
      have h1 := (hA k ops[k] (by rw [Array.getElem?_toList]; exact Array.getElem?_eq_getElem hlt)).2 V
      rw [h1, ih (by omega) V]
      simp [mixed, Array.getElem?_eq_getElem hlt]
  refine (wpIn_wide (n := 0)).1 (wpIn_region_any hm ?_)
  have main : ∀ (f : Nat) (listed : Array Bool) (V : Nat → Value) (w' : World), listed.size = ops.size →
      (∀ j o, ops[j]? = some o → listed.getD j false = true → ∀ e ∈ o.after, Region.binds .any e = true → listed.getD e.on false = true) →
      ((List.range ops.size).countP fun j => !listed.getD j false) ≤ f → S (fun j => listed.getD j false) V w' →
      wpAnyIn Fence.wide 0 P .any ops Q f listed (mixed ops a V (fun j => listed.getD j false) ops.size) w' := by
    have done : ∀ (listed : Array Bool) (V : Nat → Value) (w' : World), (∀ i, i < ops.size → listed.getD i false = true) → S (fun j => listed.getD j false) V w' → Q .normal (mixed ops a V (fun j => listed.getD j false) ops.size) w' := by
      intro listed V w' hall hS
      have h1 := hK (fun j => listed.getD j false) V w' hall hS
      rw [Array.length_toList, hAm _ (Nat.le_refl _)] at h1
      rwa [mixed_congr (M := fun _ => true) _ (fun j hj => hall j hj)]
    have least : ∀ (listed : Array Bool), listed.size = ops.size → Region.ready .any ops listed = [] → ∀ i, i < ops.size → listed.getD i false = true := by
      intro listed hs hr i
      induction i using Nat.strongRecOn with
      | _ i ih =>
        intro hi
        cases hl : listed.getD i false with
        | true => rfl
        | false =>
          have hl' : listed.getD i true = false := by
            have : i < listed.size := by omega
            simp [this] at hl ⊢
            exact hl
          have hm : i ∈ Region.ready .any ops listed := mem_ready.2 ⟨hl', ops[i], Array.getElem?_eq_getElem hi, fun e he hb => by
            have hw : waits ops i e.on = true := waits_iff.2 ⟨ops[i], Array.getElem?_eq_getElem hi, e, he, hb, rfl⟩
            have hlt := hD.back i e.on hw
            exact ih e.on hlt (by omega)⟩
          rw [hr] at hm
          cases hm
    intro f
    induction f with
    | zero =>
      intro listed V w' hs hc hcnt hS
      have hall : ∀ i, i < ops.size → listed.getD i false = true := fun i hi => by
        have h1 := List.countP_eq_zero.1 (Nat.le_zero.1 hcnt) i (List.mem_range.2 hi)
        simpa using h1
      refine ⟨?_, done listed V w' hall hS⟩
      apply List.eq_nil_iff_forall_not_mem.2
      intro i hi
      obtain ⟨hN, hlt⟩ := mem_ready_now hc hs hi
      have h1 := hN.free
      have h2 : listed.getD i false = false := h1
      rw [hall i hlt] at h2
      cases h2
    | succ f ih =>
      intro listed V w' hs hc hcnt hS
      refine ⟨fun hr => done listed V w' (least listed hs hr) hS, fun i hi => ?_⟩
      obtain ⟨hN, hlt⟩ := mem_ready_now hc hs hi
      have ho : ops[i]? = some ops[i] := Array.getElem?_eq_getElem hlt
      obtain ⟨hx, hw⟩ := same_exec (a := a) (V := V) hD ho hN
      have hdet := (hA i ops[i] (by rw [Array.getElem?_toList]; exact ho)).1
      rw [Nat.zero_add] at hdet
      replace hdet := hdet _ V w' hN hS
      rw [hAm i (by omega) V] at hdet
      have hset : ∀ j, (listed.setIfInBounds i true).getD j false = if j = i then true else listed.getD j false := by
        intro j
        by_cases e : j = i
        · subst e
          have : j < listed.size := by omega
          simp [this]
        · rw [if_neg e, getD_set_ne false (fun h => e h.symm)]
      have next : ∀ v w2, ThenX S (fun j => listed.getD j false) V i v w2 → wpAnyIn Fence.wide 0 P .any ops Q f (listed.setIfInBounds i true) ((mixed ops a V (fun j => listed.getD j false) ops.size).put ops[i].dst v) w2 := by
        intro v w2 hT
        obtain ⟨V', hV', hVo⟩ : ∃ V' : Nat → Value, V' i = v ∧ ∀ j, j ≠ i → V' j = V j := ⟨fun j => if j = i then v else V j, by simp, fun j hj => by simp [hj]⟩
        have hmv : mixed ops a V (fun j => listed.getD j false) ops.size = mixed ops a V' (fun j => listed.getD j false) ops.size := mixed_vals _ fun j _ hl => by
          by_cases e : j = i
          · have h1 : listed.getD j false = true := hl
            have h2 : listed.getD i false = false := hN.free
            rw [e, h2] at h1
            cases h1
          · exact (hVo j e).symm
        have hmx := mixed_put (a := a) (V := V') hD (L := fun j => listed.getD j false) (L' := fun j => (listed.setIfInBounds i true).getD j false) (i := i) hN.free (by simp [hset])
          (fun j hj => by simp only [hset, if_neg hj]) ops.size hlt (Nat.le_refl _)
        rw [ho, Option.bind_some, hV', ← hmv] at hmx
        rw [← hmx]
        refine ih _ V' w2 (by simp [hs]) (fun j o hj hl e he hb => ?_) ?_ (hT _ V' (by simp [hset]) (fun j hj => by simp only [hset, if_neg hj]) hV' hVo)
        · rw [hset] at hl ⊢
          split
          · rfl
          · by_cases e1 : j = i
            · subst e1
              exact hN.after o hj e he hb
            · rw [if_neg e1] at hl
              exact hc j o hj hl e he hb
        · have hcount : ((List.range ops.size).countP fun j => !(listed.setIfInBounds i true).getD j false) + 1 ≤ ((List.range ops.size).countP fun j => !listed.getD j false) := by
            have e1 : ((List.range ops.size).countP fun j => !(listed.setIfInBounds i true).getD j false) = ((List.range ops.size).countP fun j => !listed.getD j false && !(j == i)) := by
              refine List.countP_congr fun j _ => ?_
              rw [hset]
              by_cases e : j = i
              · simp [e]
              · simp [e]
            rw [e1]
            have e2 : (List.range ops.size).countP (fun j => !listed.getD j false) = ((List.range ops.size).countP fun j => !listed.getD j false && !(j == i)) + ((List.range ops.size).countP fun j => !listed.getD j false && (j == i)) := by
              induction (List.range ops.size) with
              | nil => rfl
              | cons x l ihl =>
                simp only [List.countP_cons, ihl]
                cases listed.getD x false <;> cases (x == i) <;> simp <;> omega
            rw [e2]
            have e3 : 0 < (List.range ops.size).countP fun j => !listed.getD j false && (j == i) :=
              List.countP_pos_iff.2 ⟨i, List.mem_range.2 hlt, by have := hN.free; simp only [this]; simp⟩
            omega
          omega
      unfold wpOpIn
      simp only [ho]
      rw [hw]
      rcases hdet with ⟨hwant, hres⟩ | ⟨hwant, hS'⟩
      · rw [if_pos hwant]
        unfold Oper.wpIn
        refine ⟨fun _ _ => trivial, ?_⟩
        rw [show Fence.wide.round = none from rfl, Oper.semAt_none, hx]
        exact resx_upon hres next
      · rw [if_neg (by simp [hwant])]
        exact ⟨fun _ _ => trivial, next _ w' hS'⟩
  have hstart : ∀ V, mixed ops a V (fun j => (Array.replicate ops.size false).getD j false) ops.size = a := by
    intro V
    have e : ∀ k, mixed ops a V (fun _ => false) k = a := by
      intro k
      induction k with
      | zero => rfl
      | succ k ih => unfold mixed; simpa using ih
    rw [mixed_congr (M := fun _ => false) _ (fun j _ => ?_)]
    · exact e _
    · by_cases hj : j < ops.size
      · simp [hj]
      · simp [hj]
  have hS0 : (fun j => (Array.replicate ops.size false).getD j false) = (fun _ : Nat => false) := by
    funext j
    by_cases hj : j < ops.size
    · simp [hj]
    · simp [hj]
  have := main ops.size (Array.replicate ops.size false) (fun _ => undef) { w with drawn := w.drawn + 1 } (by simp) (fun j o _ hl => by
      rw [congrFun hS0 j] at hl; cases hl) (Nat.le_trans List.countP_le_length (by simp)) (by rw [hS0]; exact h0 _)
  rwa [hstart] at this

theorem detx_cons {o : Oper} {l : List Oper} {i : Nat} {A : (Nat → Value) → Act} {K : ((Nat → Value) → Act) → Prop}
    (h : (∀ V, Region.wanted o (yielded ops (A V).tmps) = true) ∧ ∀ L V w, Now ops L i → S L V w → ResX P (ThenX S L V i) ((execOp (A V).eval o).run P w))
    (h2 : DetX P ops S l (i + 1) (fun V => (A V).put o.dst (V i)) K) : DetX P ops S (o :: l) i A K := ⟨fun L V w hN hS => .inl ⟨h.1 V, h.2 L V w hN hS⟩, h2⟩
theorem detx_nil {i : Nat} {A : (Nat → Value) → Act} {K : ((Nat → Value) → Act) → Prop} (h : K A) : DetX P ops S [] i A K := h

/-- with facts: F j holds of the value of j, and of every later world that keeps what lies below the world that j found. -/
theorem then_facts {X : World} {F : Nat → Value → World → Prop} (hF : ∀ j v w w', F j v w → Below w.heap.size w w' → F j v w') {L : Nat → Bool} {V : Nat → Value} {i : Nat} {v : Value} {w w' : World}
    (hS : Below X.heap.size X w ∧ ∀ j, L j = true → F j (V j) w) (hb : Below w.heap.size w w') (hv : F i v w') :
    ThenX (fun L V w => Below X.heap.size X w ∧ ∀ j, L j = true → F j (V j) w) L V i v w' := by
  intro L' V' h1 h2 h3 h4
  refine ⟨hS.1.trans (hb.mono hS.1.size), fun j hj => ?_⟩
  by_cases e : j = i
  · subst e; rw [h3]; exact hv
  · rw [h4 j e]
    exact hF j _ _ _ (hS.2 j (by rw [← h2 j e]; exact hj)) hb
end
end Go.Proofs.YtbhjfojbjpbdbaaDoor

-- D3: A region that draws its order: some operations come to one value whatever the order, the others to a value of which only a statement is known ('DetM', 'wp_region_mix'); and the same with one statement for each of these ('FactsW'). Written by a session.
namespace Go.Proofs.YtbhjfojbjpbdbaaDoor
open Go Go.RowKit

def ThenM (S : (Nat → Bool) → (Nat → Value) → World → Prop) (L : Nat → Bool) (V : Nat → Value) (i : Nat) (w : World) : Prop :=
  ∀ L' : Nat → Bool, L' i = true → (∀ j, j ≠ i → L' j = L j) → S L' V w

/-- an operation that comes to v. -/
def OpM (P : Program) (ops : Array Oper) (S : (Nat → Bool) → (Nat → Value) → World → Prop) (i : Nat) (o : Oper) (A : (Nat → Value) → Act) (v : Value) : Prop :=
  ∀ L V w, Now ops L i → S L V w →
    (Region.wanted o (yielded ops (A V).tmps) = true ∧ Res P v (ThenM S L V i) ((execOp (A V).eval o).run P w)) ∨
    (Region.wanted o (yielded ops (A V).tmps) = false ∧ v = undef ∧ ThenM S L V i w)

def DetM (P : Program) (ops : Array Oper) (S : (Nat → Bool) → (Nat → Value) → World → Prop) : List Oper → Nat → ((Nat → Value) → Act) → (((Nat → Value) → Act) → Prop) → Prop
  | [], _, A, K => K A
  | o :: l, i, A, K => (∃ v, OpM P ops S i o A v ∧ DetM P ops S l (i + 1) (fun V => (A V).put o.dst v) K) ∨ (OpX P ops S i o A ∧ DetM P ops S l (i + 1) (fun V => (A V).put o.dst (V i)) K)

section
variable {P : Program} {ops : Array Oper} {S : (Nat → Bool) → (Nat → Value) → World → Prop} {a : Act}

theorem detm_vals {K : ((Nat → Value) → Act) → Prop} : ∀ (l : List Oper) (i : Nat) (A0 : (Nat → Value) → Act), DetM P ops S l i A0 K →
    ∃ (D : Nat → Option Value) (A : Nat → (Nat → Value) → Act), A 0 = A0 ∧
      (∀ k o, l[k]? = some o → (match D k with | some v => OpM P ops S (i + k) o (A k) v | none => OpX P ops S (i + k) o (A k)) ∧ ∀ V : Nat → Value, (∀ v, D k = some v → V (i + k) = v) → A (k + 1) V = (A k V).put o.dst (V (i + k))) ∧ K (A l.length)
  | [], i, A0, h => ⟨fun _ => none, fun _ => A0, rfl, fun k o hk => by simp at hk, h⟩
  | o :: l, i, A0, h => by
    rcases h with ⟨v, h1, h2⟩ | ⟨h1, h2⟩
    · obtain ⟨D, A, hA, hk, hK⟩ := detm_vals l (i + 1) _ h2
      refine ⟨fun k => match k with | 0 => some v | k + 1 => D k, fun k => match k with | 0 => A0 | k + 1 => A k, rfl, fun k o' ho => ?_, hK⟩
      cases k with
      | zero =>
        simp at ho
        subst ho
        refine ⟨h1, fun V hV => ?_⟩
        rw [hV v rfl]
        exact congrFun hA V
      | succ k =>
        have := hk k o' (by simpa using ho)
        rw [show i + 1 + k = i + (k + 1) by omega] at this
        exact this
    · obtain ⟨D, A, hA, hk, hK⟩ := detm_vals l (i + 1) _ h2
      refine ⟨fun k => match k with | 0 => none | k + 1 => D k, fun k => match k with | 0 => A0 | k + 1 => A k, rfl, fun k o' ho => ?_, hK⟩
      cases k with
      | zero =>
        simp at ho
        subst ho
        exact ⟨h1, fun V _ => congrFun hA V⟩
      | succ k =>
        have := hk k o' (by simpa using ho)
        rw [show i + 1 + k = i + (k + 1) by omega] at this
        exact this

theorem wp_region_mix {Q : Exit → Act → World → Prop} {id : Nat} {w : World} (hm : P.follows .mixedOrders = true) (hB : detB ops = true) (h0 : ∀ V, S (fun _ => false) V w.drew)
    (h : DetM P ops S ops.toList 0 (fun _ => a) (fun A => ∀ L V w', (∀ i, i < ops.size → L i = true) → S L V w' → Q .normal (A V) w')) : (Code.region id ops true).wp P Q a w := by
  have hD := detB_spec hB
  obtain ⟨D, A, hA0, hA, hK⟩ := detm_vals _ _ _ h
  have hAm : ∀ k, k ≤ ops.size → ∀ V, (∀ j v, D j = some v → V j = v) → A k V = mixed ops a V (fun _ => true) k := by
    intro k
    induction k with
    | zero => intro _ V _; exact congrFun hA0 V
    | succ k ih =>
      intro hk V hV
      have hlt : k < ops.size := by omega
      have h1 := (hA k ops[k] (by rw [Array.getElem?_toList]; exact Array.getElem?_eq_getElem hlt)).2 V (fun v hv => by rw [Nat.zero_add]; exact hV k v hv)
      rw [h1, ih (by omega) V hV]
      simp [mixed, Array.getElem?_eq_getElem hlt]
  refine (wpIn_wide (n := 0)).1 (wpIn_region_any hm ?_)
  have main : ∀ (f : Nat) (listed : Array Bool) (V : Nat → Value) (w' : World), (∀ j v, D j = some v → V j = v) → listed.size = ops.size →
      (∀ j o, ops[j]? = some o → listed.getD j false = true → ∀ e ∈ o.after, Region.binds .any e = true → listed.getD e.on false = true) →
      ((List.range ops.size).countP fun j => !listed.getD j false) ≤ f → S (fun j => listed.getD j false) V w' →
      wpAnyIn Fence.wide 0 P .any ops Q f listed (mixed ops a V (fun j => listed.getD j false) ops.size) w' := by
    have done : ∀ (listed : Array Bool) (V : Nat → Value) (w' : World), (∀ j v, D j = some v → V j = v) → (∀ i, i < ops.size → listed.getD i false = true) → S (fun j => listed.getD j false) V w' → Q .normal (mixed ops a V (fun j => listed.getD j false) ops.size) w' := by
      intro listed V w' hV hall hS
      have h1 := hK (fun j => listed.getD j false) V w' hall hS
      rw [Array.length_toList, hAm _ (Nat.le_refl _) V hV] at h1
      rwa [mixed_congr (M := fun _ => true) _ (fun j hj => hall j hj)]
    have least : ∀ (listed : Array Bool), listed.size = ops.size → Region.ready .any ops listed = [] → ∀ i, i < ops.size → listed.getD i false = true := by
      intro listed hs hr i
      induction i using Nat.strongRecOn with
      | _ i ih =>
        intro hi
        cases hl : listed.getD i false with
        | true => rfl
        | false =>
          have hl' : listed.getD i true = false := by
            have : i < listed.size := by omega
            simp [this] at hl ⊢
            exact hl
          have hm : i ∈ Region.ready .any ops listed := mem_ready.2 ⟨hl', ops[i], Array.getElem?_eq_getElem hi, fun e he hb => by
            have hw : waits ops i e.on = true := waits_iff.2 ⟨ops[i], Array.getElem?_eq_getElem hi, e, he, hb, rfl⟩
            have hlt := hD.back i e.on hw
            exact ih e.on hlt (by omega)⟩
          rw [hr] at hm
          cases hm
    intro f
    induction f with
    | zero =>
      intro listed V w' hV hs hc hcnt hS
      have hall : ∀ i, i < ops.size → listed.getD i false = true := fun i hi => by
        have h1 := List.countP_eq_zero.1 (Nat.le_zero.1 hcnt) i (List.mem_range.2 hi)
        simpa using h1
      refine ⟨?_, done listed V w' hV hall hS⟩
      apply List.eq_nil_iff_forall_not_mem.2
      intro i hi
      obtain ⟨hN, hlt⟩ := mem_ready_now hc hs hi
      have h1 := hN.free
      have h2 : listed.getD i false = false := h1
      rw [hall i hlt] at h2
      cases h2
    | succ f ih =>
      intro listed V w' hV hs hc hcnt hS
      refine ⟨fun hr => done listed V w' hV (least listed hs hr) hS, fun i hi => ?_⟩
      obtain ⟨hN, hlt⟩ := mem_ready_now hc hs hi
      have ho : ops[i]? = some ops[i] := Array.getElem?_eq_getElem hlt
      obtain ⟨hx, hw⟩ := same_exec (a := a) (V := V) hD ho hN
      have hdet := (hA i ops[i] (by rw [Array.getElem?_toList]; exact ho)).1
      rw [Nat.zero_add] at hdet
      have hset : ∀ j, (listed.setIfInBounds i true).getD j false = if j = i then true else listed.getD j false := by
        intro j
        by_cases e : j = i
        · subst e
          have : j < listed.size := by omega
          simp [this]
        · rw [if_neg e, getD_set_ne false (fun h => e h.symm)]
      have next : ∀ v w2 (V' : Nat → Value), V' i = v → (∀ j, j ≠ i → V' j = V j) → (∀ j v, D j = some v → V' j = v) → (∀ L' : Nat → Bool, L' i = true → (∀ j, j ≠ i → L' j = listed.getD j false) → S L' V' w2) → wpAnyIn Fence.wide 0 P .any ops Q f (listed.setIfInBounds i true) ((mixed ops a V (fun j => listed.getD j false) ops.size).put ops[i].dst v) w2 := by
        intro v w2 V' hV' hVo hVD hT
        have hmv : mixed ops a V (fun j => listed.getD j false) ops.size = mixed ops a V' (fun j => listed.getD j false) ops.size := mixed_vals _ fun j _ hl => by
          by_cases e : j = i
          · have h1 : listed.getD j false = true := hl
            have h2 : listed.getD i false = false := hN.free
            rw [e, h2] at h1
            cases h1
          · exact (hVo j e).symm
        have hmx := mixed_put (a := a) (V := V') hD (L := fun j => listed.getD j false) (L' := fun j => (listed.setIfInBounds i true).getD j false) (i := i) hN.free (by simp [hset])
          (fun j hj => by simp only [hset, if_neg hj]) ops.size hlt (Nat.le_refl _)
        rw [ho, Option.bind_some, hV', ← hmv] at hmx
        rw [← hmx]
        refine ih _ V' w2 hVD (by simp [hs]) (fun j o hj hl e he hb => ?_) ?_ (hT _ (by simp [hset]) (fun j hj => by simp only [hset, if_neg hj]))
        · rw [hset] at hl ⊢
          split
          · rfl
          · by_cases e1 : j = i
            · subst e1
              exact hN.after o hj e he hb
            · rw [if_neg e1] at hl
              exact hc j o hj hl e he hb
        · have hcount : ((List.range ops.size).countP fun j => !(listed.setIfInBounds i true).getD j false) + 1 ≤ ((List.range ops.size).countP fun j => !listed.getD j false) := by
            have e1 : ((List.range ops.size).countP fun j => !(listed.setIfInBounds i true).getD j false) = ((List.range ops.size).countP fun j => !listed.getD j false && !(j == i)) := by
              refine List.countP_congr fun j _ => ?_
              rw [hset]
              by_cases e : j = i
              · simp [e]
              · simp [e]
            rw [e1]
            have e2 : (List.range ops.size).countP (fun j => !listed.getD j false) = ((List.range ops.size).countP fun j => !listed.getD j false && !(j == i)) + ((List.range ops.size).countP fun j => !listed.getD j false && (j == i)) := by
              induction (List.range ops.size) with
              | nil => rfl
              | cons x l ihl =>
                simp only [List.countP_cons, ihl]
                cases listed.getD x false <;> cases (x == i) <;> simp <;> omega
            rw [e2]
            have e3 : 0 < (List.range ops.size).countP fun j => !listed.getD j false && (j == i) :=
              List.countP_pos_iff.2 ⟨i, List.mem_range.2 hlt, by have := hN.free; simp only [this]; simp⟩
            omega
          omega
      unfold wpOpIn
      simp only [ho]
      rw [hw]
      rcases hD' : D i with _ | v
      · rw [hD'] at hdet
        replace hdet := hdet _ V w' hN hS
        rw [hAm i (by omega) V hV] at hdet
        have step : ∀ v w2, ThenX S (fun j => listed.getD j false) V i v w2 → wpAnyIn Fence.wide 0 P .any ops Q f (listed.setIfInBounds i true) ((mixed ops a V (fun j => listed.getD j false) ops.size).put ops[i].dst v) w2 := by
          intro v w2 hT
          refine next v w2 (fun j => if j = i then v else V j) (by simp) (fun j hj => by simp [hj]) (fun j u hu => ?_) (fun L' h1 h2 => hT L' _ h1 h2 (by simp) (fun j hj => by simp [hj]))
          by_cases e : j = i
          · rw [e, hD'] at hu; cases hu
          · simp only [if_neg e]; exact hV j u hu
        rcases hdet with ⟨hwant, hres⟩ | ⟨hwant, hS'⟩
        · rw [if_pos hwant]
          unfold Oper.wpIn
          refine ⟨fun _ _ => trivial, ?_⟩
          rw [show Fence.wide.round = none from rfl, Oper.semAt_none, hx]
          exact resx_upon hres step
        · rw [if_neg (by simp [hwant])]
          exact ⟨fun _ _ => trivial, step _ w' hS'⟩
      · rw [hD'] at hdet
        replace hdet := hdet _ V w' hN hS
        rw [hAm i (by omega) V hV] at hdet
        have step : ∀ w2, ThenM S (fun j => listed.getD j false) V i w2 → wpAnyIn Fence.wide 0 P .any ops Q f (listed.setIfInBounds i true) ((mixed ops a V (fun j => listed.getD j false) ops.size).put ops[i].dst v) w2 := by
          intro w2 hT
          exact next v w2 V (hV i v hD') (fun _ _ => rfl) hV hT
        rcases hdet with ⟨hwant, hres⟩ | ⟨hwant, hv, hS'⟩
        · rw [if_pos hwant]
          unfold Oper.wpIn
          refine ⟨fun _ _ => trivial, ?_⟩
          rw [show Fence.wide.round = none from rfl, Oper.semAt_none, hx]
          exact res_upon hres step
        · rw [if_neg (by simp [hwant])]
          have := step w' hS'
          rw [hv] at this
          exact ⟨fun _ _ => trivial, this⟩
  have hstart : ∀ V, mixed ops a V (fun j => (Array.replicate ops.size false).getD j false) ops.size = a := by
    intro V
    have e : ∀ k, mixed ops a V (fun _ => false) k = a := by
      intro k
      induction k with
      | zero => rfl
      | succ k ih => unfold mixed; simpa using ih
    rw [mixed_congr (M := fun _ => false) _ (fun j _ => ?_)]
    · exact e _
    · by_cases hj : j < ops.size
      · simp [hj]
      · simp [hj]
  have hS0 : (fun j => (Array.replicate ops.size false).getD j false) = (fun _ : Nat => false) := by
    funext j
    by_cases hj : j < ops.size
    · simp [hj]
    · simp [hj]
  have := main ops.size (Array.replicate ops.size false) (fun j => (D j).getD undef) { w with drawn := w.drawn + 1 } (fun j v hv => by rw [hv]; rfl) (by simp) (fun j o _ hl => by
      rw [congrFun hS0 j] at hl; cases hl) (Nat.le_trans List.countP_le_length (by simp)) (by rw [hS0]; exact h0 _)
  rwa [hstart] at this

theorem detm_cons {o : Oper} {l : List Oper} {i : Nat} {A : (Nat → Value) → Act} {K : ((Nat → Value) → Act) → Prop} (v : Value)
    (h : (∀ V, Region.wanted o (yielded ops (A V).tmps) = true) ∧ ∀ L V w, Now ops L i → S L V w → Res P v (ThenM S L V i) ((execOp (A V).eval o).run P w))
    (h2 : DetM P ops S l (i + 1) (fun V => (A V).put o.dst v) K) : DetM P ops S (o :: l) i A K := .inl ⟨v, fun L V w hN hS => .inl ⟨h.1 V, h.2 L V w hN hS⟩, h2⟩
theorem detm_skip {o : Oper} {l : List Oper} {i : Nat} {A : (Nat → Value) → Act} {K : ((Nat → Value) → Act) → Prop}
    (h : (∀ V, Region.wanted o (yielded ops (A V).tmps) = false) ∧ ∀ L V w, Now ops L i → S L V w → ThenM S L V i w)
    (h2 : DetM P ops S l (i + 1) (fun V => (A V).put o.dst undef) K) : DetM P ops S (o :: l) i A K := .inl ⟨undef, fun L V w hN hS => .inr ⟨h.1 V, rfl, h.2 L V w hN hS⟩, h2⟩
theorem detm_some {o : Oper} {l : List Oper} {i : Nat} {A : (Nat → Value) → Act} {K : ((Nat → Value) → Act) → Prop}
    (h : (∀ V, Region.wanted o (yielded ops (A V).tmps) = true) ∧ ∀ L V w, Now ops L i → S L V w → ResX P (ThenX S L V i) ((execOp (A V).eval o).run P w))
    (h2 : DetM P ops S l (i + 1) (fun V => (A V).put o.dst (V i)) K) : DetM P ops S (o :: l) i A K := .inr ⟨fun L V w hN hS => .inl ⟨h.1 V, h.2 L V w hN hS⟩, h2⟩
theorem detm_nil {i : Nat} {A : (Nat → Value) → Act} {K : ((Nat → Value) → Act) → Prop} (h : K A) : DetM P ops S [] i A K := h
end

/-- the world X is kept, and each value that came up (of those of which F says something) meets F. -/
structure FactsW (X : World) (F : Nat → Value → World → Prop) (L : Nat → Bool) (V : Nat → Value) (w : World) : Prop where
  hb : Below X.heap.size X w
  hf : ∀ j, L j = true → F j (V j) w

def Mono (F : Nat → Value → World → Prop) : Prop := ∀ j v w w', F j v w → Below w.heap.size w w' → F j v w'

section
variable {X : World} {F : Nat → Value → World → Prop} {L : Nat → Bool} {V : Nat → Value} {i : Nat} {w w' : World} {v : Value}

theorem FactsW.start (X : World) (F : Nat → Value → World → Prop) : ∀ V, FactsW X F (fun _ => false) V X.drew := fun _ => ⟨(Below.refl _ _).drew, fun _ h => by cases h⟩
theorem FactsW.keep (h : FactsW X F L V w) (hi : ∀ v w, F i v w) : ThenM (FactsW X F) L V i w := fun L' _ h2 => ⟨h.hb, fun j hj => by
  by_cases e : j = i
  · subst e; exact hi _ _
  · rw [h2 j e] at hj; exact h.hf j hj⟩
theorem FactsW.then (h : FactsW X F L V w) (hF : Mono F) (hi : ∀ v w, F i v w) (hb : Below w.heap.size w w') : ThenM (FactsW X F) L V i w' := fun L' _ h2 => ⟨h.hb.trans (hb.mono h.hb.size), fun j hj => by
  by_cases e : j = i
  · subst e; exact hi _ _
  · rw [h2 j e] at hj; exact hF j _ _ _ (h.hf j hj) hb⟩
theorem FactsW.some (h : FactsW X F L V w) (hF : Mono F) (hb : Below w.heap.size w w') (hv : F i v w') : ThenX (FactsW X F) L V i v w' := fun L' V' _ h2 h3 h4 => ⟨h.hb.trans (hb.mono h.hb.size), fun j hj => by
  by_cases e : j = i
  · subst e; rw [h3]; exact hv
  · rw [h2 j e] at hj; rw [h4 j e]; exact hF j _ _ _ (h.hf j hj) hb⟩
theorem FactsW.cell (h : FactsW X F L V w) : ∀ b o, b < X.heap.size → w.cell? ⟨b, o, none⟩ = X.cell? ⟨b, o, none⟩ := fun b o hb => h.hb.cell (p := ⟨b, o, none⟩) hb
end
end Go.Proofs.YtbhjfojbjpbdbaaDoor
