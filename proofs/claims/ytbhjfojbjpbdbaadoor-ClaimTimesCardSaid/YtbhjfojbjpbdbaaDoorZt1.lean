/-
  What the claim needs, gathered by a program of this session (wip/tools/trim.py) out of the texts YtbhjfojbjpbdbaaDoorK0, YtbhjfojbjpbdbaaDoorK1, YtbhjfojbjpbdbaaDoorK2, YtbhjfojbjpbdbaaDoorP1: nothing that stands here is proved for its own sake.
-/
import Derived.Test.YtbhjfojbjpbdbaaDoorRows
import Derived.WalkKit
import Derived.WalkSpells
import Derived.WalkLawsBesides
import Derived.Lib.Hide
import Derived.Deep.DeepCutAuto
import Derived.Deep.CutBlock
import Derived.Deep.QuietTactic
import Derived.BigQuiet
import Derived.OneCell
import Derived.RangeFuncNested
import Derived.RangeFuncBound
import Derived.RangeFuncLeaves
import Derived.OwnWalkIn
import Derived.TacticsInMore
import Derived.LoopNIn
import Derived.LoopIn
import Derived.Deep.Light
import Derived.Deep.RegionHeld3
import Derived.OrdersIn
import Derived.RangeFuncSeq
import Derived.Laws.EntriesVeiled
import Derived.Deep.DeepFit
import Derived.Deep.DeepMust
import Derived.ChangeKeysEq
import Derived.RangeFuncIn
import Derived.RangeFuncRecord
import Derived.Maps.OwnIn
namespace Go.Proofs.YtbhjfojbjpbdbaaDoor
structure St where
  due : Int
  dl : Int
  dh : Int
  rl : Int
  rh : Int
  sl : Int
  sh : Int
structure Ck where
  st : Int
  rd : Int
  er : Int
structure Bk where
  sts : List St
  wth : Int
  c0 : Int
  c1 : Int
  c2 : Int
  cks : List Ck
  rate : Int
def within (n lo hi : Int) : Bool := decide (lo ≤ n) && decide (n ≤ hi)
def spanOk (a b lo hi wide : Int) : Bool := decide (lo ≤ a) && decide (a ≤ b) && decide (b ≤ hi) && decide (b - a ≤ wide)
def stOk (d : Int) (x : St) : Bool := within x.due (d + 1) 300 && spanOk x.dl x.dh 1 90 2 && spanOk x.rl x.rh 0 30 2 && spanOk x.sl x.sh 0 20 1
def stsOk : Int → List St → Bool
  | _, [] => true
  | d, x :: l => stOk d x && stsOk x.due l
def ckOk (n : Int) (c : Ck) : Bool := within c.st 0 (n - 1) && within c.rd 0 600 && within c.er 0 5
def costsOk (b : Bk) : Bool := within b.c0 0 30 && within b.c1 0 30 && within b.c2 0 30
def headOk (b : Bk) : Bool := within b.sts.length 1 3 && within b.wth 1 7 && decide ((b.cks.length : Int) ≤ 4) && within b.rate 0 99
def bkOk (b : Bk) : Bool := headOk b && stsOk 0 b.sts && costsOk b && b.cks.all (ckOk b.sts.length)
def checkS (b : Bk) : Int := if bkOk b then 0 else 60
structure Tr where
  w : Int
  a0 : Int
  a1 : Int
  a2 : Int
  b0 : Int
  b1 : Int
  b2 : Int
def Tr.comes (t : Tr) : Nat → Int
  | 0 => t.a0
  | 1 => t.a1
  | _ => t.a2
def Tr.rough (t : Tr) : Nat → Int
  | 0 => t.b0
  | 1 => t.b1
  | _ => t.b2
def Tr.put (t : Tr) (k : Nat) (m r : Int) : Tr :=
  match k with
  | 0 => { t with a0 := m, b0 := r }
  | 1 => { t with a1 := m, b1 := r }
  | _ => { t with a2 := m, b2 := r }
def Tr.all (t : Tr) : Int := t.b0 + t.b1 + t.b2
def clockOk (stage minute : Int) (c : Ck) : Bool := decide (c.st ≠ stage) || within (c.rd - minute) (-c.er) c.er
def rightL (cks : List Ck) (stage minute : Int) : Bool := cks.all (clockOk stage minute)
def upto (lo hi : Int) : List Int := (List.range (hi - lo + 1).toNat).map fun (i : Nat) => lo + (i : Int)
def goes (cost : Int) (cks : List Ck) : List St → Nat → Tr → Int → List Tr
  | [], _, t, _ => [t]
  | x :: l, k, t, start =>
    (upto x.dl x.dh).flatMap fun d => (upto x.rl x.rh).flatMap fun r =>
      if rightL cks k (start + d + r + cost) then
        (upto x.sl x.sh).flatMap fun s => goes cost cks l (k + 1) (t.put k (start + d + r + cost) r) (start + d + r + cost + s)
      else []
def Bk.cost (b : Bk) : Nat → Int
  | 0 => b.c0
  | 1 => b.c1
  | _ => b.c2
def bitOf (s : Int) (n : Nat) : Bool := decide (s / 2 ^ n % 2 = 1)
def Tr.start (w : Nat) : Tr := ⟨w, 0, 0, 0, 0, 0, 0⟩
def truths (b : Bk) : List Tr :=
  (List.range 3).flatMap fun w => if bitOf b.wth w then goes (b.cost w) b.cks b.sts 0 (Tr.start w) 0 else []
def minL (f : Tr → Int) (m : Int) (l : List Tr) : Int := l.foldl (fun m t => min m (f t)) m
def maxL (f : Tr → Int) (m : Int) (l : List Tr) : Int := l.foldl (fun m t => max m (f t)) m
def toldLo (f : Tr → Int) : List Tr → Int
  | [] => 0
  | t :: l => minL f (f t) (t :: l)
def toldHi (f : Tr → Int) : List Tr → Int
  | [] => 0
  | t :: l => maxL f (f t) (t :: l)
def Bk.due (b : Bk) (k : Nat) : Int := (b.sts.map St.due).getD k 0
def lateT (b : Bk) (k : Nat) (t : Tr) : Int := max 0 (t.comes k - b.due k)
def owesT (b : Bk) (t : Tr) : Int := b.rate * min (lateT b (b.sts.length - 1) t) t.all
def blamed (b : Bk) (t : Tr) : Bool := decide (0 < lateT b (b.sts.length - 1) t) && decide (t.comes (b.sts.length - 1) - t.all ≤ b.due (b.sts.length - 1))
def askE (b : Bk) (is : Bool) : Int := if bkOk b then (if is then (if (truths b).isEmpty then 62 else 0) else 61) else 60
def isStage (b : Bk) (k : Int) : Bool := within k 0 ((b.sts.length : Int) - 1)
def spanE (b : Bk) (is : Bool) (f : Tr → Int) : Int × Int × Int :=
  if askE b is = 0 then (toldLo f (truths b), toldHi f (truths b), 0) else (0, 0, askE b is)
def rightS (b : Bk) : Bool × Int := if bkOk b then (!(truths b).isEmpty, 0) else (false, 60)
def comesS (b : Bk) (k : Int) : Int × Int × Int := spanE b (isStage b k) fun t => t.comes k.toNat
def lateS (b : Bk) (k : Int) : Int × Int × Int := spanE b (isStage b k) (lateT b k.toNat)
def roughS (b : Bk) (k : Int) : Int × Int × Int := spanE b (isStage b k) fun t => t.rough k.toNat
def owesS (b : Bk) : Int × Int × Int := spanE b true (owesT b)
def weathers (l : List Tr) : Nat := l.foldl (fun s t => s ||| (1 <<< t.w.toNat)) 0
def weatherS (b : Bk) : Int × Int := if askE b true = 0 then ((weathers (truths b) : Nat), 0) else (0, askE b true)
def blames (b : Bk) : Nat := (truths b).countP (blamed b)
def kindOf (b : Bk) : Int := (if 0 < blames b then 1 else 0) + (if blames b = (truths b).length then 1 else 0)
def blameS (b : Bk) : Int × Int := if askE b true = 0 then (kindOf b, 0) else (0, askE b true)
def paysS (b : Bk) : Int × Int :=
  if askE b true = 0 then (if blames b = (truths b).length then toldLo (owesT b) (truths b) else 0, 0) else (0, askE b true)
def Bk.with (b : Bk) (c : Ck) : Bk := { b with cks := b.cks ++ [c] }
def fitsS (b : Bk) (c : Ck) : Bool × Int :=
  if askE b (ckOk b.sts.length c) = 0 then (!(truths (b.with c)).isEmpty, 0) else (false, askE b (ckOk b.sts.length c))
def leaveOut : List Nat → Nat → List Ck → List Ck
  | _, _, [] => []
  | but, k, c :: l => if but.contains k then leaveOut but (k + 1) l else c :: leaveOut but (k + 1) l
def Bk.but (b : Bk) (l : List Nat) : Bk := { b with cks := leaveOut l 0 b.cks }
def picks : (many : Nat) → (below : Nat) → (start : Nat) → List (List Nat)
  | 0, _, _ => [[]]
  | m + 1, below, start => ((List.range below).filter (start ≤ ·)).flatMap fun n => (picks m below (n + 1)).map (n :: ·)
def allPicks (below : Nat) : List (List Nat) := (List.range (below + 1)).flatMap fun m => picks m below 0
def wrongL (b : Bk) : List Nat := ((allPicks b.cks.length).find? fun l => !(truths (b.but l)).isEmpty).getD []
def wrongS (b : Bk) : List Nat × Int := if bkOk b then (wrongL b, 0) else ([], 60)
def firstS (b : Bk) : Int × Int :=
  if askE b true = 0 then
    match (List.range b.sts.length).find? fun k => decide (0 < toldLo (lateT b k) (truths b)) with
    | some k => (k, 0)
    | none => (0, 4)
  else (0, askE b true)
end Go.Proofs.YtbhjfojbjpbdbaaDoor
namespace Go.Proofs.YtbhjfojbjpbdbaaDoor
open Go.RowKit
theorem ret_bool {a b : Bool} (h : a = b) : Ending.returned (.bool a) = .returned (.bool b) := by rw [h]
theorem ret_int {k : IntKind} {a b : Int} (h : a = b) : Ending.returned (.int k a) = .returned (.int k b) := by rw [h]
def SlOf (w : World) (n sz : Nat) (v : Value) (rows : List (List Value)) : Prop :=
  ∃ a cap, v = .slice a rows.length cap ∧ rows.length ≤ cap ∧ rows.length ≤ maxLen ∧ (∀ r ∈ rows, r.length = sz) ∧
    (0 < rows.length → ∃ b o, a = some ⟨b, o, none⟩ ∧ b < n ∧
      ∀ i j r c, rows[i]? = some r → r[j]? = some c → w.cell? ⟨b, o + i * sz + j, none⟩ = some c)
theorem SlOf.below {w w' : World} {n B sz : Nat} {v : Value} {rows : List (List Value)} (h : SlOf w n sz v rows) (hn : n ≤ B) (hb : Below B w w') : SlOf w' n sz v rows := by
  obtain ⟨a, cap, e, h1, h2, h3, h4⟩ := h
  refine ⟨a, cap, e, h1, h2, h3, fun hp => ?_⟩
  obtain ⟨b, o, e1, h5, h6⟩ := h4 hp
  exact ⟨b, o, e1, h5, fun i j r c hi hj => (hb.cell (p := ⟨b, _, none⟩) (by show b < B; omega)).trans (h6 i j r c hi hj)⟩
theorem SlOf.mono {w : World} {n m sz : Nat} {v : Value} {rows : List (List Value)} (h : SlOf w n sz v rows) (hn : n ≤ m) : SlOf w m sz v rows := by
  obtain ⟨a, cap, e, h1, h2, h3, h4⟩ := h
  refine ⟨a, cap, e, h1, h2, h3, fun hp => ?_⟩
  obtain ⟨b, o, e1, h5, h6⟩ := h4 hp
  exact ⟨b, o, e1, by omega, h6⟩
def St.cells (x : St) : List Value := [.int .i64 x.due, .int .i64 x.dl, .int .i64 x.dh, .int .i64 x.rl, .int .i64 x.rh, .int .i64 x.sl, .int .i64 x.sh]
def Ck.cells (x : Ck) : List Value := [.int .i64 x.st, .int .i64 x.rd, .int .i64 x.er]
def Bk.cells (b : Bk) (s k : Value) : List Value := [s, .int .i64 b.wth, .int .i64 b.c0, .int .i64 b.c1, .int .i64 b.c2, k, .int .i64 b.rate]
def Ck.wf (c : Ck) : Prop := (-9223372036854775808 ≤ c.st ∧ c.st ≤ 9223372036854775807) ∧ (-9223372036854775808 ≤ c.rd ∧ c.rd ≤ 9223372036854775807) ∧ (-9223372036854775808 ≤ c.er ∧ c.er ≤ 9223372036854775807)
set_option maxHeartbeats 400000 in
theorem within_any (n lo hi : Int) (w : World) :
    Calls Tryd.prog 66 #[.int .i64 n, .int .i64 lo, .int .i64 hi] w fun e w' => e = .returned (.bool (within n lo hi)) ∧ w = w' := by
  go_enter Tryd.func66, Tryd.ntmps66
  go_wp2
  all_goals (go_ret; exact ⟨ret_bool (by unfold within; rw [Bool.eq_iff_iff]; simp; omega), rfl⟩)
set_option maxHeartbeats 400000 in
theorem isSpan_any (a b lo hi wide : Int) (w : World) (h1 : -1000 ≤ lo) (h2 : hi ≤ 1000) :
    Calls Tryd.prog 67 #[.agg #[.int .i64 a, .int .i64 b], .int .i64 lo, .int .i64 hi, .int .i64 wide] w fun e w' => e = .returned (.bool (spanOk a b lo hi wide)) ∧ Below w.heap.size w w' := by
  go_enter Tryd.func67, Tryd.ntmps67
  go_wp2
  all_goals (go_ret; exact ⟨ret_bool (by unfold spanOk; rw [Bool.eq_iff_iff]; simp; omega), (Below.refl _ _).alloc (Nat.le_refl _) _⟩)
set_option maxHeartbeats 400000 in
theorem isClock_any (w : World) (b : Bk) (s k : Value) (a : Option Addr) (c : Ck) (len cap : Nat) (hs : s = .slice a len cap) (hl : len ≤ maxLen) :
    Calls Tryd.prog 68 #[.agg (b.cells s k).toArray, .agg c.cells.toArray] w fun e w' => e = .returned (.bool (ckOk len c)) ∧ Below w.heap.size w w' := by
  subst hs
  unfold maxLen at hl
  simp only [Bk.cells, Ck.cells]
  go_enter Tryd.func68, Tryd.ntmps68
  go_wp2_with (go_at_call 66; refine (within_any _ _ _ _).mono ?_; rintro e w' ⟨rfl, rfl⟩)
  all_goals (go_ret; exact ⟨ret_bool (by simp [ckOk, *]), ((Below.refl _ _).alloc (Nat.le_refl _) _).alloc (by simp) _⟩)
def stCells (l : List St) : List (List Value) := l.map St.cells
def ckCells (l : List Ck) : List (List Value) := l.map Ck.cells
def BookV (w : World) (n : Nat) (v : Value) (b : Bk) : Prop :=
  ∃ s k, v = .agg (b.cells s k).toArray ∧ SlOf w n 7 s (stCells b.sts) ∧ SlOf w n 3 k (ckCells b.cks)
theorem BookV.below {w w' : World} {n B : Nat} {v : Value} {b : Bk} (h : BookV w n v b) (hn : n ≤ B) (hb : Below B w w') : BookV w' n v b := by
  obtain ⟨s, k, e, h1, h2⟩ := h
  exact ⟨s, k, e, h1.below hn hb, h2.below hn hb⟩
theorem bcell {W w1 : World} (hb : Below W.heap.size W w1) : (∀ b o, b < W.heap.size → w1.cell? ⟨b, o, none⟩ = W.cell? ⟨b, o, none⟩) ∧ (∀ b o, b < W.heap.size → w1.frozen? ⟨b, o, none⟩ = W.frozen? ⟨b, o, none⟩) :=
  ⟨fun b o h => hb.cell (p := ⟨b, o, none⟩) h, fun b o h => hb.frozen (p := ⟨b, o, none⟩) h⟩
def costsFrom (b : Bk) : Nat → Bool
  | 0 => within b.c0 0 30 && (within b.c1 0 30 && within b.c2 0 30)
  | 1 => within b.c1 0 30 && within b.c2 0 30
  | 2 => within b.c2 0 30
  | _ => true
def at3 (x y z : Int) : Nat → Int
  | 0 => x
  | 1 => y
  | _ => z
theorem index3_0 (x y z : Int) : ∀ w, (Instr.index 23 (.agg #[.int .i64 x, .int .i64 y, .int .i64 z]) (.int .i64 0)).run Tryd.prog w = .ok (.int .i64 x) w := fun _ => by kernel_rfl
theorem index3_1 (x y z : Int) : ∀ w, (Instr.index 23 (.agg #[.int .i64 x, .int .i64 y, .int .i64 z]) (.int .i64 1)).run Tryd.prog w = .ok (.int .i64 y) w := fun _ => by kernel_rfl
theorem index3_2 (x y z : Int) : ∀ w, (Instr.index 23 (.agg #[.int .i64 x, .int .i64 y, .int .i64 z]) (.int .i64 2)).run Tryd.prog w = .ok (.int .i64 z) w := fun _ => by kernel_rfl
theorem index3 {w : World} (x y z : Int) {k : Nat} (hk : k < 3) :
    (Instr.index 23 (.agg #[.int .i64 x, .int .i64 y, .int .i64 z]) (.int .i64 (k : Int))).run Tryd.prog w = .ok (.int .i64 (at3 x y z k)) w := by
  have hkk : k = 0 ∨ k = 1 ∨ k = 2 := by omega
  rcases hkk with rfl | rfl | rfl
  · exact index3_0 x y z w
  · exact index3_1 x y z w
  · exact index3_2 x y z w
theorem costsFrom_succ (b : Bk) (k : Nat) (hk : k < 3) : costsFrom b k = (within (at3 b.c0 b.c1 b.c2 k) 0 30 && costsFrom b (k + 1)) := by
  have hkk : k = 0 ∨ k = 1 ∨ k = 2 := by omega
  rcases hkk with rfl | rfl | rfl <;> simp [costsFrom, at3]
theorem sl_at {w : World} {n sz : Nat} {a : Option Addr} {rows : List (List Value)} {k : Nat} {r : List Value}
    (h : 0 < rows.length → ∃ b o, a = some ⟨b, o, none⟩ ∧ b < n ∧ ∀ i j r c, rows[i]? = some r → r[j]? = some c → w.cell? ⟨b, o + i * sz + j, none⟩ = some c)
    (hk : rows[k]? = some r) : ∃ b o, a = some ⟨b, o, none⟩ ∧ b < n ∧ ∀ j c, r[j]? = some c → w.cell? ⟨b, o + k * sz + j, none⟩ = some c := by
  have hlt : k < rows.length := by
    rcases Nat.lt_or_ge k rows.length with h | h
    · exact h
    · rw [List.getElem?_eq_none h] at hk; cases hk
  obtain ⟨b, o, e, hb, hc⟩ := h (by omega)
  exact ⟨b, o, e, hb, fun j c hj => hc k j r c hk hj⟩
set_option maxRecDepth 100000 in
set_option maxHeartbeats 400000 in
theorem check_any (w : World) (v : Value) (b : Bk) (h : BookV w w.heap.size v b) :
    Calls Tryd.prog 17 #[v] w fun e w' => e = .returned (.int .i64 (checkS b)) ∧ Below w.heap.size w w' := by
  obtain ⟨s, k, rfl, hs, hk⟩ := h
  obtain ⟨sa, scap, rfl, hs1, hs2, hs3, hs4⟩ := hs
  obtain ⟨ka, kcap, rfl, hk1, hk2, hk3, hk4⟩ := hk
  simp only [stCells, ckCells, List.length_map] at hs1 hk1 hs2 hk2
  simp only [Bk.cells, stCells, ckCells, List.length_map]
  have hls : b.sts.length ≤ maxLen := by omega
  have hlk : b.cks.length ≤ maxLen := by omega
  unfold maxLen at hls hlk
  go_enter Tryd.func17, Tryd.ntmps17
  go_upto_region 1 with fail
  go_cut [3] (fun s3 wx => s3 = .bool (headOk b) ∧ Below w.heap.size w wx ∧ wx.heap.size = w.heap.size + 1 ∧ wx.heap[w.heap.size]? = some (.cells #[Value.slice sa b.sts.length scap, Value.int IntKind.i64 b.wth, Value.int IntKind.i64 b.c0,
      Value.int IntKind.i64 b.c1, Value.int IntKind.i64 b.c2, Value.slice ka b.cks.length kcap,
      Value.int IntKind.i64 b.rate] 26))
  case first =>
    go_wp2_with (go_at_call 66; refine (within_any _ _ _ _).mono ?_; rintro e w' ⟨rfl, rfl⟩)
    all_goals go_meet
    all_goals exact ⟨by first | (simp [headOk, *]; done) | (simp [headOk, *]; omega), (Below.refl _ _).alloc (Nat.le_refl _) _, by simp, World.alloc_heap_new _ _⟩
  case rest =>
    obtain ⟨rfl, hb1, hz1, hB⟩ := hcut
    have H1 := Lib.hid hs4
    have H2 := Lib.hid hk4
    have H3 := Lib.hid hs3
    have H4 := Lib.hid hk3
    clear hs4 hk4 hs3 hk3
    have hc0 : wc.cell? ⟨w.heap.size, 0, none⟩ = some (.slice sa b.sts.length scap) := by simp [World.cell?, hB]
    have hc1 : wc.cell? ⟨w.heap.size, 1, none⟩ = some (.int .i64 b.wth) := by simp [World.cell?, hB]
    have hc6 : wc.cell? ⟨w.heap.size, 6, none⟩ = some (.int .i64 b.rate) := by simp [World.cell?, hB]
    have hc2 : wc.cell? ⟨w.heap.size, 2, none⟩ = some (.int .i64 b.c0) := by simp [World.cell?, hB]
    have hc3 : wc.cell? ⟨w.heap.size, 3, none⟩ = some (.int .i64 b.c1) := by simp [World.cell?, hB]
    have hc4 : wc.cell? ⟨w.heap.size, 4, none⟩ = some (.int .i64 b.c2) := by simp [World.cell?, hB]
    have hc5 : wc.cell? ⟨w.heap.size, 5, none⟩ = some (.slice ka b.cks.length kcap) := by simp [World.cell?, hB]
    go_wp2_with fail
    go_loopw [3, 4, 34] (fun ok due i wr => ∃ (k : Nat) (o : Bool) (d : Int), k ≤ b.sts.length ∧ ok = .bool o ∧ due = .int .i64 d ∧ i = .int .i64 k ∧ (o && stsOk d (b.sts.drop k)) = (headOk b && stsOk 0 b.sts) ∧ (o = true → 0 ≤ d ∧ d ≤ 300) ∧ Below (w.heap.size + 1) wc wr)
      (fun _ _ i _ => b.sts.length - (intOf i).toNat)
    case atStart => exact ⟨0, _, 0, by omega, rfl, rfl, rfl, rfl, by omega, Below.refl _ _⟩
    case round =>
      obtain ⟨k, o, d, hk, rfl, rfl, rfl, hT, hd, hbr⟩ := hrel
      have HT := Lib.hid hT
      clear hT
      by_cases hlt : k < b.sts.length
      · obtain ⟨x, hx⟩ : ∃ x, b.sts[k]? = some x := ⟨_, List.getElem?_eq_getElem hlt⟩
        obtain ⟨g, q, hsa, hg, hcs⟩ := sl_at H1.out (show (stCells b.sts)[k]? = some x.cells by simp [stCells, hx])
        have HX := Lib.hid hx
        clear hx
        subst hsa
        have hr : ∀ j c, x.cells[j]? = some c → wr.cell? ⟨g, q + k * 7 + j, none⟩ = some c := fun j c hj =>
          (hbr.cell (p := ⟨g, q + k * 7 + j, none⟩) (by show g < _; omega)).trans ((hb1.cell (p := ⟨g, q + k * 7 + j, none⟩) (by show g < _; omega)).trans (hcs j c hj))
        have r0 : wr.cell? ⟨g, q + k * 7, none⟩ = some (.int .i64 x.due) := hr 0 _ rfl
        have r1 : wr.cell? ⟨g, q + k * 7 + 1, none⟩ = some (.int .i64 x.dl) := hr 1 _ rfl
        have r2 : wr.cell? ⟨g, q + k * 7 + 2, none⟩ = some (.int .i64 x.dh) := hr 2 _ rfl
        have r3 : wr.cell? ⟨g, q + k * 7 + 3, none⟩ = some (.int .i64 x.rl) := hr 3 _ rfl
        have r4 : wr.cell? ⟨g, q + k * 7 + 4, none⟩ = some (.int .i64 x.rh) := hr 4 _ rfl
        have r5 : wr.cell? ⟨g, q + k * 7 + 5, none⟩ = some (.int .i64 x.sl) := hr 5 _ rfl
        have r6 : wr.cell? ⟨g, q + k * 7 + 6, none⟩ = some (.int .i64 x.sh) := hr 6 _ rfl
        clear hr hcs
        cases o with
        | false =>
          go_wp2_with fail
          go_roundw
          case rel => exact ⟨k + 1, false, x.due, by omega, rfl, rfl, by go_num, by have := HT.out; simpa using this, by simp, ((hbr.alloc (by have := hbr.size; omega) _))⟩
          case measure => simp [intOf]; omega
        | true =>
          obtain ⟨hd1, hd2⟩ := hd rfl
          clear hd
          go_upto_region 6 with fail
          obtain ⟨W0, hW0⟩ : ∃ W0, wr.alloc (Obj.cells #[Value.int IntKind.i64 x.due, Value.int IntKind.i64 x.dl, Value.int IntKind.i64 x.dh, Value.int IntKind.i64 x.rl, Value.int IntKind.i64 x.rh, Value.int IntKind.i64 x.sl, Value.int IntKind.i64 x.sh] 56) = W0 := ⟨_, rfl⟩
          rw [hW0]
          have g0 : W0.cell? ⟨wr.heap.size, 0, none⟩ = some (.int .i64 x.due) := by rw [← hW0]; simp [World.cell?_alloc_new]
          have g1 : W0.cell? ⟨wr.heap.size, 1, none⟩ = some (.int .i64 x.dl) := by rw [← hW0]; simp [World.cell?_alloc_new]
          have g2 : W0.cell? ⟨wr.heap.size, 2, none⟩ = some (.int .i64 x.dh) := by rw [← hW0]; simp [World.cell?_alloc_new]
          have g3 : W0.cell? ⟨wr.heap.size, 3, none⟩ = some (.int .i64 x.rl) := by rw [← hW0]; simp [World.cell?_alloc_new]
          have g4 : W0.cell? ⟨wr.heap.size, 4, none⟩ = some (.int .i64 x.rh) := by rw [← hW0]; simp [World.cell?_alloc_new]
          have g5 : W0.cell? ⟨wr.heap.size, 5, none⟩ = some (.int .i64 x.sl) := by rw [← hW0]; simp [World.cell?_alloc_new]
          have g6 : W0.cell? ⟨wr.heap.size, 6, none⟩ = some (.int .i64 x.sh) := by rw [← hW0]; simp [World.cell?_alloc_new]
          have hz0 : wr.heap.size < W0.heap.size := by rw [← hW0]; simp
          have hbB : Below (w.heap.size + 1) wc W0 := by rw [← hW0]; exact hbr.alloc (by have := hbr.size; omega) _
          have hz00 : w.heap.size + 1 ≤ W0.heap.size := by have := hbB.size; omega
          have hBB : Below W0.heap.size W0 W0 := Below.refl _ _
          clear hW0
          go_cut [3] (fun s3 wx => s3 = .bool (stOk d x) ∧ Below W0.heap.size W0 wx)
          case first =>
            go_wp2_with (first | (go_at_call 66; refine (within_any _ _ _ _).mono ?_; rintro e w' ⟨rfl, rfl⟩) | (go_at_call 67; refine (isSpan_any _ _ _ _ _ _ (by omega) (by omega)).mono ?_; rintro e w' ⟨rfl, hbb⟩; replace hBB := hBB.trans (hbb.mono hBB.size); obtain ⟨hcc, hff⟩ := bcell hBB))
            all_goals go_meet
            all_goals exact ⟨by first | (simp [stOk, *]; done) | (simp [stOk, *]; omega), hBB⟩
          case rest =>
            obtain ⟨rfl, hBx⟩ := hcut
            obtain ⟨hcc, hff⟩ := bcell hBx
            go_wp2_with fail
            go_roundw
            case rel => exact ⟨k + 1, stOk d x, x.due, by omega, rfl, rfl, by go_num, by have h1 := HT.out; rw [List.drop_eq_getElem_cons hlt] at h1; rw [← h1]; have h2 := HX.out; rw [List.getElem?_eq_getElem hlt] at h2; cases h2; simp [stsOk], by intro h; simp [stOk, within] at h; omega, hbB.trans (hBx.mono (by omega))⟩
            case measure => simp [intOf]; omega
      · have hkl : k = b.sts.length := by omega
        have hT1 : o = (headOk b && stsOk 0 b.sts) := by have h1 := HT.out; rw [hkl, List.drop_length] at h1; simpa [stsOk] using h1
        have HT1 := Lib.hid hT1
        clear hT1 HT hd hkl
        have e2 : wr.cell? ⟨w.heap.size, 2, none⟩ = some (.int .i64 b.c0) := (hbr.cell (p := ⟨w.heap.size, 2, none⟩) (by show w.heap.size < _; omega)).trans hc2
        have e3 : wr.cell? ⟨w.heap.size, 3, none⟩ = some (.int .i64 b.c1) := (hbr.cell (p := ⟨w.heap.size, 3, none⟩) (by show w.heap.size < _; omega)).trans hc3
        have e4 : wr.cell? ⟨w.heap.size, 4, none⟩ = some (.int .i64 b.c2) := (hbr.cell (p := ⟨w.heap.size, 4, none⟩) (by show w.heap.size < _; omega)).trans hc4
        have e5 : wr.cell? ⟨w.heap.size, 5, none⟩ = some (.slice ka b.cks.length kcap) := (hbr.cell (p := ⟨w.heap.size, 5, none⟩) (by show w.heap.size < _; omega)).trans hc5
        go_wp2_with fail
        obtain ⟨wo, rfl⟩ : ∃ wo : World, wo = wr := ⟨_, rfl⟩
        go_loopg [3, 66] 3 (fun n ok i wx => wo = wx ∧ ∃ (k : Nat) (o' : Bool), k ≤ 3 ∧ n = 3 - k ∧ ok = .bool o' ∧ i = .int .i64 k ∧ (o' && costsFrom b k) = (o && costsFrom b 0))
        case atStart => exact ⟨rfl, 0, _, by omega, rfl, rfl, rfl, rfl⟩
        case round =>
          obtain ⟨rfl, k2, o2, hk2', hgk, rfl, rfl, hT2⟩ := hrel
          have HT2 := Lib.hid hT2
          have HG := Lib.hid hgk
          clear hT2 hgk
          by_cases hk3 : k2 < 3
          · have i0 := fun w => index3 (w := w) b.c0 b.c1 b.c2 hk3
            have HCF := Lib.hid (costsFrom_succ b k2 hk3)
            cases o2
            all_goals
              go_wp2_with (go_at_call 66; refine (within_any _ _ _ _).mono ?_; rintro e w' ⟨rfl, rfl⟩)
              go_roundg (3 - (k2 + 1))
              case measure => rw [HG.out]; omega
              case rel => exact ⟨rfl, k2 + 1, _, by omega, rfl, rfl, by go_num, by rw [← HT2.out, HCF.out]; simp⟩
          · obtain rfl : k2 = 3 := by omega
            have hT3 : o2 = (o && costsOk b) := by have := HT2.out; simpa [costsFrom, costsOk, Bool.and_assoc] using this
            have HT3 := Lib.hid hT3
            clear hT3
            clear HT2
            go_wp2_with fail
            go_loopg [3, 78] b.cks.length (fun n ok i wx => ∃ (k : Nat) (o' : Bool), k ≤ b.cks.length ∧ n = b.cks.length - k ∧ ok = .bool o' ∧ i = .int .i64 k ∧ (o' && (b.cks.drop k).all (ckOk b.sts.length)) = (o2 && b.cks.all (ckOk b.sts.length)) ∧ Below (w.heap.size + 1) wc wx)
            case atStart => exact ⟨0, _, by omega, rfl, rfl, rfl, rfl, hbr⟩
            case round =>
              obtain ⟨k3, o3, hk4', hgk, rfl, rfl, hT4, hb3⟩ := hrel
              have HT4 := Lib.hid hT4
              have HG2 := Lib.hid hgk
              clear hT4 hgk
              by_cases hlt3 : k3 < b.cks.length
              · obtain ⟨x, hx⟩ : ∃ x, b.cks[k3]? = some x := ⟨_, List.getElem?_eq_getElem hlt3⟩
                obtain ⟨g, q, hka, hg, hcs⟩ := sl_at H2.out (show (ckCells b.cks)[k3]? = some x.cells by simp [ckCells, hx])
                have hdr : (b.cks.drop k3) = x :: b.cks.drop (k3 + 1) := by
                  rw [List.drop_eq_getElem_cons hlt3]; rw [List.getElem?_eq_getElem hlt3] at hx; cases hx; rfl
                have HD := Lib.hid hdr
                clear hx hdr
                subst hka
                have hr : ∀ j c, x.cells[j]? = some c → wr.cell? ⟨g, q + k3 * 3 + j, none⟩ = some c := fun j c hj =>
                  (hb3.cell (p := ⟨g, q + k3 * 3 + j, none⟩) (by show g < _; omega)).trans ((hb1.cell (p := ⟨g, q + k3 * 3 + j, none⟩) (by show g < _; omega)).trans (hcs j c hj))
                have r0 : wr.cell? ⟨g, q + k3 * 3, none⟩ = some (.int .i64 x.st) := hr 0 _ rfl
                have r1 : wr.cell? ⟨g, q + k3 * 3 + 1, none⟩ = some (.int .i64 x.rd) := hr 1 _ rfl
                have r2 : wr.cell? ⟨g, q + k3 * 3 + 2, none⟩ = some (.int .i64 x.er) := hr 2 _ rfl
                have hbx : ∀ j, wr.cell? ⟨w.heap.size, j, none⟩ = wc.cell? ⟨w.heap.size, j, none⟩ := fun j => hb3.cell (p := ⟨w.heap.size, j, none⟩) (by show w.heap.size < _; omega)
                have b0 := (hbx 0).trans hc0
                have b1 := (hbx 1).trans hc1
                have b2 := (hbx 2).trans hc2
                have b3 := (hbx 3).trans hc3
                have b4 := (hbx 4).trans hc4
                have b5 := (hbx 5).trans hc5
                have b6 := (hbx 6).trans hc6
                have hzw : w.heap.size < wr.heap.size := by have := hb3.size; omega
                clear hr hcs hbx
                cases o3
                all_goals
                  go_wp2_with (first | (go_at_call 68; refine (isClock_any _ b _ _ _ x _ _ rfl (by unfold maxLen; omega)).mono ?_; rintro e w' ⟨rfl, hbb⟩))
                  go_roundg (b.cks.length - (k3 + 1))
                  case measure => rw [HG2.out]; omega
                  case rel =>
                    refine ⟨k3 + 1, _, by omega, rfl, rfl, by go_num, by rw [← HT4.out, HD.out]; simp, ?_⟩
                    have := hb3.size
                    first
                      | exact hb3.alloc (by omega) _
                      | exact (hb3.alloc (by omega) _).trans (hbb.mono (by simp; omega))
              · have hkl : k3 = b.cks.length := by omega
                have hT5 : o3 = (o2 && b.cks.all (ckOk b.sts.length)) := by have h1 := HT4.out; rw [hkl, List.drop_length] at h1; simpa using h1
                have hv : o3 = bkOk b := by rw [hT5, HT3.out, HT1.out]; simp [bkOk]
                clear hkl hT5 HT4 HG2
                cases o3
                all_goals
                  have HV := Lib.hid hv
                  clear hv
                  go_wp2_with fail
                  go_ret
                  exact ⟨ret_int (by unfold checkS; rw [← HV.out]; rfl), hb1.trans (hb3.mono (by omega))⟩
end Go.Proofs.YtbhjfojbjpbdbaaDoor
namespace Go.Proofs.YtbhjfojbjpbdbaaDoor
open Go.RowKit
structure Upd (S : Nat → Prop) (W W' : World) : Prop where
  os : W'.os = W.os
  tape : W'.tape = W.tape
  output : W'.output = W.output
  size : W.heap.size ≤ W'.heap.size
  block : ∀ k, k < W.heap.size → ¬ S k → W'.heap[k]? = W.heap[k]?
theorem Upd.refl (S : Nat → Prop) (W : World) : Upd S W W := ⟨rfl, rfl, rfl, Nat.le_refl _, fun _ _ _ => rfl⟩
theorem Upd.trans {S : Nat → Prop} {a b c : World} (h : Upd S a b) (k : Upd S b c) : Upd S a c :=
  ⟨k.os.trans h.os, k.tape.trans h.tape, k.output.trans h.output, Nat.le_trans h.size k.size, fun i hi hs => (k.block i (Nat.lt_of_lt_of_le hi h.size) hs).trans (h.block i hi hs)⟩
theorem Upd.mono {S T : Nat → Prop} {a b : World} (h : Upd S a b) (hs : ∀ k, k < a.heap.size → S k → T k) : Upd T a b :=
  ⟨h.os, h.tape, h.output, h.size, fun k hk hn => h.block k hk fun e => hn (hs k hk e)⟩
theorem Upd.of_below {S : Nat → Prop} {a b : World} (h : Below a.heap.size a b) : Upd S a b := ⟨h.os, h.tape, h.output, h.size, fun k hk _ => h.block k hk⟩
theorem Upd.below {S : Nat → Prop} {B : Nat} {a b : World} (h : Upd S a b) (hB : B ≤ a.heap.size) (hS : ∀ k, k < B → ¬ S k) : Below B a b :=
  ⟨h.os, h.tape, h.output, h.size, fun k hk => h.block k (by omega) (hS k hk)⟩
theorem Upd.alloc {S : Nat → Prop} {a w : World} (h : Upd S a w) (o : Obj) : Upd S a (w.alloc o) :=
  h.trans ⟨rfl, rfl, rfl, by simp, fun k hk _ => Below.heap_alloc _ _ _ hk⟩
theorem Upd.setCell {S : Nat → Prop} {a w : World} (h : Upd S a w) {p : Addr} (hp : S p.block ∨ a.heap.size ≤ p.block) (v : Value) : Upd S a (w.setCell p v) :=
  ⟨h.os, h.tape, h.output, Nat.le_trans h.size (by show w.heap.size ≤ (w.heap.modify _ _).size; rw [Array.size_modify]; exact Nat.le_refl _),
    fun k hk hs => (Below.heap_setCell _ _ _ _ (by rintro rfl; rcases hp with hp | hp; exact hs hp; omega)).trans (h.block k hk hs)⟩
theorem Upd.drew {S : Nat → Prop} {a w : World} (h : Upd S a w) : Upd S a w.drew := ⟨h.os, h.tape, h.output, h.size, h.block⟩
theorem Upd.putObj {S : Nat → Prop} {a w : World} (h : Upd S a w) {r : Nat} (hr : S r ∨ a.heap.size ≤ r) (o : Obj) : Upd S a (w.putObj r o) :=
  ⟨h.os, h.tape, h.output, by simpa using h.size, fun k hk hs => (World.putObj_heap_other (by rintro rfl; rcases hr with hr | hr; exact hs hr; omega)).trans (h.block k hk hs)⟩
theorem Upd.cell {S : Nat → Prop} {a w : World} (h : Upd S a w) {p : Addr} (hp : p.block < a.heap.size) (hs : ¬ S p.block) : w.cell? p = a.cell? p := World.cell?_of_block (w := a) (h.block p.block hp hs)
theorem Upd.frozen {S : Nat → Prop} {a w : World} (h : Upd S a w) {p : Addr} (hp : p.block < a.heap.size) (hs : ¬ S p.block) : w.frozen? p = a.frozen? p := World.frozen?_of_block (w := a) (h.block p.block hp hs)
theorem SlOf.upd {w w' : World} {n sz : Nat} {v : Value} {rows : List (List Value)} {S : Nat → Prop} (h : SlOf w n sz v rows) (hn : n ≤ w.heap.size) (hS : ∀ k, k < n → ¬ S k) (hb : Upd S w w') : SlOf w' n sz v rows :=
  h.below (Nat.le_refl _) (hb.below hn hS)
def CacheOk (W : World) (M : Nat) (cks : List Ck) : Prop :=
  ∃ es clock, W.heap[M]? = some (.map es clock) ∧ ∀ e ∈ es.toList, ∃ (s m : Int) (v : Bool), e.key = .agg #[.int .i64 s, .int .i64 m] ∧ e.val = .bool v ∧ (¬ (s = -1 ∧ m = -1) → v = rightL cks s m)
theorem CacheOk.of_block {W W' : World} {M : Nat} {cks : List Ck} (h : CacheOk W M cks) (hb : W'.heap[M]? = W.heap[M]?) : CacheOk W' M cks := by
  obtain ⟨es, clock, h1, h2⟩ := h
  exact ⟨es, clock, hb.trans h1, h2⟩
theorem CacheOk.lt {W : World} {M : Nat} {cks : List Ck} (h : CacheOk W M cks) : M < W.heap.size := by
  obtain ⟨es, clock, h1, _⟩ := h
  exact (Array.getElem?_eq_some_iff.1 h1).1
theorem ck115 (e : Bool) (s m : Int) : ∀ w, (Instr.checkKey e 10000 115 (.agg #[.int .i64 s, .int .i64 m])).run Tryd.prog w = .ok () w := by
  intro w
  cases e <;> kernel_rfl
theorem eq115 (s m s' m' : Int) : ∀ w, (Op.equal 115 (.agg #[.int .i64 s, .int .i64 m]) (.agg #[.int .i64 s', .int .i64 m'])).run Tryd.prog w = .ok (s == s' && m == m') w := by
  intro w
  show (Op.equalIn 10000 115 _ _).run _ _ = _
  rw [run_equalIn_agg (d := 9999) (ht := by kernel_rfl) (hp := by kernel_rfl)]
  by_cases h1 : s = s'
  · subst h1
    by_cases h2 : m = m'
    · subst h2
      simp [go_sem, Op.eqFields]
    · simp [go_sem, Op.eqFields, h2]
  · simp [go_sem, Op.eqFields, h1]
def KeysOk (es : List MapEntry) : Prop := ∀ e ∈ es, ∃ (s m : Int), e.key = .agg #[.int .i64 s, .int .i64 m]
theorem find115 (s m : Int) (w : World) : ∀ (es : List MapEntry) (i : Nat), KeysOk es →
    ∃ r, (Instr.findAsking 115 (.agg #[.int .i64 s, .int .i64 m]) es i).run Tryd.prog w = .ok r w ∧
      ∀ j v, r = some (j, v) → i ≤ j ∧ ∃ e, es[j - i]? = some e ∧ e.key = .agg #[.int .i64 s, .int .i64 m] ∧ e.val = v := by
  intro es
  induction es with
  | nil => intro i _; exact ⟨none, rfl, fun j v h => by cases h⟩
  | cons e es ih =>
    intro i hk
    obtain ⟨s', m', he⟩ := hk e (by simp)
    have hq := eq115 s m s' m' w
    by_cases h : (s == s' && m == m') = true
    · refine ⟨some (i, e.val), by simp only [Instr.findAsking, Sem.run_bind, he, hq, Result.andThen_ok, h]; rfl, fun j v hj => ?_⟩
      cases hj
      simp at h
      obtain ⟨rfl, rfl⟩ := h
      exact ⟨Nat.le_refl _, e, by simp, he, rfl⟩
    · obtain ⟨r, hr, hj⟩ := ih (i + 1) (fun e he => hk e (by simp [he]))
      refine ⟨r, by simp only [Instr.findAsking, Sem.run_bind, he, hq, Result.andThen_ok, h]; exact hr, fun j v hjv => ?_⟩
      obtain ⟨h1, e', h2, h3⟩ := hj j v hjv
      refine ⟨by omega, e', ?_, h3⟩
      rw [show j - i = (j - (i + 1)) + 1 by omega]
      simpa using h2
theorem findKey115 (s m : Int) (w : World) (es : List MapEntry) (hk : KeysOk es) :
    ∃ r, (Instr.findKey 115 (.agg #[.int .i64 s, .int .i64 m]) es).run Tryd.prog w = .ok r w ∧
      ∀ j v, r = some (j, v) → ∃ e, es[j]? = some e ∧ e.key = .agg #[.int .i64 s, .int .i64 m] ∧ e.val = v := by
  obtain ⟨r, hr, hj⟩ := find115 s m w es 0 hk
  cases es with
  | nil => exact ⟨none, by kernel_rfl, fun j v h => by cases h⟩
  | cons e es =>
    refine ⟨r, ?_, fun j v h => ?_⟩
    · have hu : ∀ w, (underlying 115).run Tryd.prog w = .ok (.struct (Tryd.prog.fieldsOf 115)) w := fun _ => by kernel_rfl
      simp only [Instr.findKey, Sem.run_bind, hu, Result.andThen_ok, Instr.findNow, Instr.sameNow]
      exact hr
    · obtain ⟨_, e', h1, h2⟩ := hj j v h
      exact ⟨e', by simpa using h1, h2⟩
theorem look115 {W : World} {M : Nat} {cks : List Ck} (h : CacheOk W M cks) (s m : Int) :
    ∃ v ok : Bool, (Instr.lookup 76 (.map (some M)) (.agg #[.int .i64 s, .int .i64 m]) true).run Tryd.prog W = .ok (.tuple #[.bool v, .bool ok]) W ∧
      (ok = true → ¬ (s = -1 ∧ m = -1) → v = rightL cks s m) := by
  obtain ⟨es, clock, h1, h2⟩ := h
  have hk : KeysOk es.toList := fun e he => by obtain ⟨s, m, v, hk, _⟩ := h2 e he; exact ⟨s, m, hk⟩
  obtain ⟨r, hr, hj⟩ := findKey115 s m W es.toList hk
  have hu : ∀ w, (underlying 76).run Tryd.prog w = .ok (.map 115 4) w := fun _ => by kernel_rfl
  have hg : (getObj M).run Tryd.prog W = .ok (.map es clock) W := by simp [getObj, Sem.run, h1]
  have hz : ∀ w, (zeroValue 4).run Tryd.prog w = .ok (.bool false) w := fun _ => by kernel_rfl
  cases r with
  | none =>
    refine ⟨false, false, ?_, by simp⟩
    simp only [Instr.lookup, Sem.run_bind, hu, Result.andThen_ok, hg, ck115, hr, hz, Sem.run_pure]
    rfl
  | some p =>
    obtain ⟨j, v⟩ := p
    obtain ⟨e, he, hek, hev⟩ := hj j v rfl
    obtain ⟨s', m', v', hk', hv', hvr⟩ := h2 e (List.mem_of_getElem? he)
    rw [hek] at hk'
    cases hk'
    refine ⟨v', true, ?_, fun _ hn => hvr hn⟩
    rw [hev] at hv'
    subst hv'
    simp only [Instr.lookup, Sem.run_bind, hu, Result.andThen_ok, hg, ck115, hr, Sem.run_pure]
    rfl
theorem same115 (s m : Int) : Instr.sameBits 10000 (.agg #[.int .i64 s, .int .i64 m]) (.agg #[.int .i64 s, .int .i64 m]) = true := by
  simp [Instr.sameBits]
theorem put115 {W : World} {M : Nat} {cks : List Ck} (h : CacheOk W M cks) (s m : Int) (v : Bool) (hv : v = rightL cks s m) :
    ∃ o, (Instr.mapUpdate 76 (.map (some M)) (.agg #[.int .i64 s, .int .i64 m]) (.bool v)).run Tryd.prog W = .ok () (W.putObj M o) ∧ CacheOk (W.putObj M o) M cks := by
  have hlt := h.lt
  obtain ⟨es, clock, h1, h2⟩ := h
  have hk : KeysOk es.toList := fun e he => by obtain ⟨s, m, v, hk, _⟩ := h2 e he; exact ⟨s, m, hk⟩
  obtain ⟨r, hr, hj⟩ := findKey115 s m W es.toList hk
  have hu : ∀ w, (underlying 76).run Tryd.prog w = .ok (.map 115 4) w := fun _ => by kernel_rfl
  have hg : (getObj M).run Tryd.prog W = .ok (.map es clock) W := by simp [getObj, Sem.run, h1]
  have hs : ∀ o, (setObj M o).run Tryd.prog W = .ok () (W.putObj M o) := fun o => by simp [setObj, Sem.run, h1, World.putObj]
  cases r with
  | none =>
    refine ⟨.map (es.push { key := .agg #[.int .i64 s, .int .i64 m], val := .bool v, born := clock }) (clock + 1), ?_, ?_⟩
    · simp only [Instr.mapUpdate, Sem.run_bind, hu, Result.andThen_ok, hg, ck115, hr, hs]
    · refine ⟨_, _, World.putObj_heap_same hlt, fun e he => ?_⟩
      rw [Array.toList_push, List.mem_append, List.mem_singleton] at he
      rcases he with he | rfl
      · exact h2 e he
      · exact ⟨s, m, v, rfl, rfl, fun _ => hv⟩
  | some p =>
    obtain ⟨j, v0⟩ := p
    obtain ⟨e, he, hek, hev⟩ := hj j v0 rfl
    have hej : (es[j]?).map (·.key) = some (.agg #[.int .i64 s, .int .i64 m]) := by
      rw [← Array.getElem?_toList, he]; simp [hek]
    refine ⟨.map (es.modify j fun e => { e with key := .agg #[.int .i64 s, .int .i64 m], val := .bool v }) clock, ?_, ?_⟩
    · simp only [Instr.mapUpdate, Sem.run_bind, hu, Result.andThen_ok, hg, ck115, hr, hej, Option.getD_some, Instr.keyThatStays, same115, if_true, Sem.run_pure, hs]
    · refine ⟨_, _, World.putObj_heap_same hlt, fun e' he' => ?_⟩
      rw [List.mem_iff_getElem?] at he'
      obtain ⟨i, hi⟩ := he'
      rw [Array.getElem?_toList, Array.getElem?_modify] at hi
      split at hi
      · rename_i hji
        subst hji
        rw [← Array.getElem?_toList, he] at hi
        cases hi
        exact ⟨s, m, v, rfl, rfl, fun _ => hv⟩
      · rw [← Array.getElem?_toList] at hi
        exact h2 e' (List.mem_of_getElem? hi)
end Go.Proofs.YtbhjfojbjpbdbaaDoor
namespace Go.Proofs.YtbhjfojbjpbdbaaDoor
open Go
def Res (P : Program) (v : Value) (S : World → Prop) : Result Next → Prop
  | .ok (.value u) w => u = v ∧ S w
  | .ok .skip w => v = undef ∧ S w
  | .ok (.enter f args) w => Calls P f args w fun e w' => e = .returned v ∧ S w'
  | .ok (.round l fn tmps assign body) w => RoundIn Fence.wide 0 P l fn tmps assign body w fun e w' => e = .returned v ∧ S w'
  | _ => False
theorem roundIn_wide {P : Program} {n m l : Nat} {f : FuncId} {tmps : Array Value} {assign body : Code} {w : World} {R : Ending → World → Prop} (h : RoundIn Fence.wide n P l f tmps assign body w R) : RoundIn Fence.wide m P l f tmps assign body w R :=
  ⟨h.1, fun c cs _ => h.2 c cs (room_wide _)⟩
structure Now (ops : Array Oper) (L : Nat → Bool) (i : Nat) : Prop where
  free : L i = false
  after : ∀ o, ops[i]? = some o → ∀ e ∈ o.after, Region.binds .any e = true → L e.on = true
  closed : ∀ j o, ops[j]? = some o → L j = true → ∀ e ∈ o.after, Region.binds .any e = true → L e.on = true
def Then (S : (Nat → Bool) → World → Prop) (L : Nat → Bool) (i : Nat) (w : World) : Prop := ∀ L' : Nat → Bool, L' i = true → (∀ j, j ≠ i → L' j = L j) → S L' w
def OpDet (P : Program) (ops : Array Oper) (S : (Nat → Bool) → World → Prop) (i : Nat) (o : Oper) (a : Act) (v : Value) : Prop :=
  (Region.wanted o (yielded ops a.tmps) = true ∧ ∀ L w, Now ops L i → S L w → Res P v (Then S L i) ((execOp a.eval o).run P w)) ∨
  (Region.wanted o (yielded ops a.tmps) = false ∧ v = undef ∧ ∀ L w, Now ops L i → S L w → Then S L i w)
def Det (P : Program) (ops : Array Oper) (S : (Nat → Bool) → World → Prop) : List Oper → Nat → Act → (Act → Prop) → Prop
  | [], _, a, K => K a
  | o :: l, i, a, K => ∃ v, OpDet P ops S i o a v ∧ Det P ops S l (i + 1) (a.put o.dst v) K
def waits (ops : Array Oper) (j i : Nat) : Bool :=
  match ops[j]? with
  | some oj => oj.after.any fun e => Region.binds .any e && e.on == i
  | none => false
def detB (ops : Array Oper) : Bool :=
  Region.noSelect ops &&
  (List.range ops.size).all fun i =>
    (match ops[i]? with
     | some oi => oi.after.all fun e => !Region.binds .any e || decide (e.on < i)
     | none => true) &&
    (List.range ops.size).all fun j =>
      match ops[i]?, ops[j]? with
      | some oi, some oj =>
        match oj.dst with
        | some d => (i == j || oi.dst != some d) && (!(oi.looksAt ops).contains d || waits ops i j)
        | none => true
      | _, _ => true
section
variable {P : Program} {ops : Array Oper} {S : (Nat → Bool) → World → Prop}
theorem waits_iff {j i : Nat} : waits ops j i = true ↔ ∃ o, ops[j]? = some o ∧ ∃ e ∈ o.after, Region.binds .any e = true ∧ e.on = i := by
  unfold waits
  cases h : ops[j]? with
  | none => simp
  | some o =>
    simp only [Option.some.injEq, exists_eq_left']
    rw [Array.any_eq_true']
    simp
theorem Now.not_yet {L : Nat → Bool} {i j : Nat} (h : Now ops L i) (hw : waits ops j i = true) : L j = false := by
  cases hj : L j with
  | false => rfl
  | true =>
    obtain ⟨o, ho, e, he, hb, hon⟩ := waits_iff.1 hw
    have := h.closed j o ho hj e he hb
    rw [hon, h.free] at this
    cases this
theorem Now.chain {L : Nat → Bool} {i j k : Nat} (h : Now ops L i) (hj : L j = false) (hw : waits ops k j = true) : L k = false := by
  cases hk : L k with
  | false => rfl
  | true =>
    obtain ⟨o, ho, e, he, hb, hon⟩ := waits_iff.1 hw
    have := h.closed k o ho hk e he hb
    rw [hon, hj] at this
    cases this
theorem Now.up {L : Nat → Bool} {i j k : Nat} (h : Now ops L i) (hj : L j = true) (hw : waits ops j k = true) : L k = true := by
  obtain ⟨o, ho, e, he, hb, hon⟩ := waits_iff.1 hw
  have := h.closed j o ho hj e he hb
  rwa [hon] at this
theorem Now.was {L : Nat → Bool} {i j : Nat} (h : Now ops L i) (hw : waits ops i j = true) : L j = true := by
  obtain ⟨o, ho, e, he, hb, hon⟩ := waits_iff.1 hw
  have := h.after o ho e he hb
  rwa [hon] at this
structure DetB (ops : Array Oper) : Prop where
  sel : ∀ (j : Nat) (o : Oper) cs b, ops[j]? = some o → o.op ≠ .select cs b
  apart : ∀ (i j : Nat) (oi oj : Oper) (d : Tmp), ops[i]? = some oi → ops[j]? = some oj → oj.dst = some d → i ≠ j → oi.dst ≠ some d
  looks : ∀ (i j : Nat) (oi oj : Oper) (d : Tmp), ops[i]? = some oi → ops[j]? = some oj → oj.dst = some d → d ∈ oi.looksAt ops → waits ops i j = true
  back : ∀ i j, waits ops i j = true → j < i
theorem detB_spec (h : detB ops = true) : DetB ops := by
  unfold detB at h
  rw [Bool.and_eq_true, List.all_eq_true] at h
  obtain ⟨hs, h⟩ := h
  have row : ∀ (i : Nat) (oi : Oper), ops[i]? = some oi → (oi.after.all fun e => !Region.binds .any e || decide (e.on < i)) = true ∧ ∀ (j : Nat) (oj : Oper), ops[j]? = some oj →
      (match oj.dst with
        | some d => (i == j || oi.dst != some d) && (!(oi.looksAt ops).contains d || waits ops i j)
        | none => true) = true := by
    intro i oi hi
    have h1 := h i (List.mem_range.2 (Array.getElem?_eq_some_iff.1 hi).1)
    rw [Bool.and_eq_true, List.all_eq_true] at h1
    refine ⟨by simpa only [hi] using h1.1, fun j oj hj => ?_⟩
    have h2 := h1.2 j (List.mem_range.2 (Array.getElem?_eq_some_iff.1 hj).1)
    simpa only [hi, hj] using h2
  refine ⟨Region.noSelect_spec hs, fun i j oi oj d hi hj hd hne => ?_, fun i j oi oj d hi hj hd hl => ?_, fun i j hw => ?_⟩
  · have h1 := (row i oi hi).2 j oj hj
    simp only [hd, Bool.and_eq_true, Bool.or_eq_true, beq_iff_eq, bne_iff_ne] at h1
    exact h1.1.resolve_left hne
  · have h1 := (row i oi hi).2 j oj hj
    simp only [hd, Bool.and_eq_true, Bool.or_eq_true, Bool.not_eq_true'] at h1
    rcases h1.2 with h2 | h2
    · simp [hl] at h2
    · exact h2
  · obtain ⟨o, ho, e, he, hb, hon⟩ := waits_iff.1 hw
    have h1 := Array.all_eq_true_iff_forall_mem.1 (row i o ho).1 e he
    simp only [hb, Bool.not_true, Bool.false_or, decide_eq_true_eq] at h1
    omega
def mixed (ops : Array Oper) (a : Act) (V : Nat → Value) (L : Nat → Bool) : Nat → Act
  | 0 => a
  | k + 1 => if L k then (mixed ops a V L k).put ((ops[k]?).bind (·.dst)) (V k) else mixed ops a V L k
variable {a : Act} {V : Nat → Value}
theorem put_size (x : Act) (d : Option Tmp) (v : Value) : (x.put d v).tmps.size = x.tmps.size := by cases d <;> simp [Act.put]
theorem mixed_size (L : Nat → Bool) : ∀ k, (mixed ops a V L k).tmps.size = a.tmps.size
  | 0 => rfl
  | k + 1 => by unfold mixed; split <;> simp [put_size, mixed_size L k]
theorem put_get (x : Act) (d : Option Tmp) (v : Value) (t : Tmp) : (x.put d v).tmps[t]? = if d = some t then (if t < x.tmps.size then some v else none) else x.tmps[t]? := by
  cases d with
  | none => simp [Act.put]
  | some d =>
    simp only [Act.put, Option.some.injEq]
    rw [Array.getElem?_setIfInBounds]
    by_cases e : d = t
    · subst e; rfl
    · rw [if_neg e, if_neg e]
theorem mixed_agree (t : Tmp) (L M : Nat → Bool) : ∀ k, (∀ j o, j < k → ops[j]? = some o → o.dst = some t → L j = M j) → (mixed ops a V L k).tmps[t]? = (mixed ops a V M k).tmps[t]?
  | 0, _ => rfl
  | k + 1, h => by
    have ih := mixed_agree t L M k (fun j o hj => h j o (by omega))
    unfold mixed
    by_cases hd : (ops[k]?).bind (·.dst) = some t
    · have hlm : L k = M k := by
        cases ho : ops[k]? with
        | none => rw [ho] at hd; cases hd
        | some o => rw [ho] at hd; exact h k o (by omega) ho hd
      rw [hlm]
      split
      · rw [put_get, put_get, mixed_size, mixed_size, if_pos hd, if_pos hd]
      · exact ih
    · have e : ∀ (x : Act), (x.put ((ops[k]?).bind (·.dst)) (V k)).tmps[t]? = x.tmps[t]? := fun x => by rw [put_get, if_neg hd]
      split <;> split <;> simp only [e, ih]
theorem mixed_congr {L M : Nat → Bool} : ∀ k, (∀ j, j < k → L j = M j) → mixed ops a V L k = mixed ops a V M k
  | 0, _ => rfl
  | k + 1, h => by unfold mixed; rw [mixed_congr k (fun j hj => h j (by omega)), h k (by omega)]
theorem mixed_cut (i : Nat) : ∀ k, i ≤ k → mixed ops a V (fun j => decide (j < i)) k = mixed ops a V (fun _ => true) i := by
  intro k hk
  induction k with
  | zero => obtain rfl : i = 0 := by omega
            rfl
  | succ k ih =>
    by_cases e : i = k + 1
    · subst e
      exact mixed_congr _ (fun j hj => by simp [hj])
    · rw [mixed, if_neg (by simp; omega)]
      exact ih (by omega)
theorem mixed_put (hB : DetB ops) {L L' : Nat → Bool} {i : Nat} (hi : L i = false) (hi' : L' i = true) (ho : ∀ j, j ≠ i → L' j = L j) :
    ∀ k, i < k → k ≤ ops.size → mixed ops a V L' k = (mixed ops a V L k).put ((ops[i]?).bind (·.dst)) (V i) := by
  intro k
  induction k with
  | zero => intro h; omega
  | succ k ih =>
    intro hk hks
    by_cases e : i = k
    · subst e
      unfold mixed
      rw [hi, hi', if_pos rfl, if_neg (by simp), mixed_congr i (fun j hj => ho j (by omega))]
    · have h1 := ih (by omega) (by omega)
      unfold mixed
      rw [ho k (fun h => e h.symm), h1]
      split
      · refine Act.put_comm _ _ _ fun d hd hk' => ?_
        have hki : k < ops.size := by omega
        have hii : i < ops.size := by omega
        rw [Array.getElem?_eq_getElem hii] at hd
        rw [Array.getElem?_eq_getElem hki] at hk'
        exact hB.apart k i _ _ d (Array.getElem?_eq_getElem hki) (Array.getElem?_eq_getElem hii) hd (fun h => e h.symm) hk'
      · rfl
theorem eval_of (x y : Act) (o : Operand) (h : ∀ t, o = .tmp t → x.tmps[t]? = y.tmps[t]?) : x.eval o = y.eval o := by
  cases o with
  | tmp t => simp [Act.eval, Array.getD_eq_getD_getElem?, h t rfl]
  | _ => rfl
theorem same_exec (hB : DetB ops) {L : Nat → Bool} {i : Nat} {o : Oper} (ho : ops[i]? = some o) (hN : Now ops L i) :
    execOp (mixed ops a V L ops.size).eval o = execOp (mixed ops a V (fun _ => true) i).eval o ∧
    Region.wanted o (yielded ops (mixed ops a V L ops.size).tmps) = Region.wanted o (yielded ops (mixed ops a V (fun _ => true) i).tmps) := by
  have hlt := (Array.getElem?_eq_some_iff.1 ho).1
  rw [← mixed_cut i ops.size (by omega)]
  have key : ∀ t, t ∈ o.looksAt ops → (mixed ops a V L ops.size).tmps[t]? = (mixed ops a V (fun j => decide (j < i)) ops.size).tmps[t]? := by
    intro t ht
    refine mixed_agree t _ _ _ fun j oj hj hoj hd => ?_
    have hw := hB.looks i j o oj t ho hoj hd ht
    rw [hN.was hw]
    simp [hB.back i j hw]
  constructor
  · refine execOp_congr o (fun cs b => hB.sel i o cs b ho) fun x hx => eval_of _ _ _ fun t ht => key t ?_
    subst ht
    exact List.mem_append_left _ (List.mem_filterMap.2 ⟨.tmp t, by simpa using hx, rfl⟩)
  · unfold Region.wanted
    cases hg : o.guard with
    | none => rfl
    | some gw =>
      obtain ⟨g, want⟩ := gw
      have hy : yielded ops (mixed ops a V L ops.size).tmps g = yielded ops (mixed ops a V (fun j => decide (j < i)) ops.size).tmps g := by
        unfold yielded
        cases ht : (ops[g]?).bind (·.dst) with
        | none => rfl
        | some t => simp only [Option.bind_some, key t (by simp [Oper.looksAt, hg, ht])]
      simp only [hy]
theorem det_vals {K : Act → Prop} : ∀ (l : List Oper) (i : Nat) (a : Act), Det P ops S l i a K →
    ∃ V : Nat → Value, ∃ A : Nat → Act, A 0 = a ∧ (∀ k o, l[k]? = some o → OpDet P ops S (i + k) o (A k) (V k) ∧ A (k + 1) = (A k).put o.dst (V k)) ∧ K (A l.length)
  | [], i, a, h => ⟨fun _ => undef, fun _ => a, rfl, fun k o hk => by simp at hk, h⟩
  | o :: l, i, a, h => by
    obtain ⟨v, h1, h2⟩ := h
    obtain ⟨V, A, hA, hk, hK⟩ := det_vals l (i + 1) _ h2
    refine ⟨fun k => match k with | 0 => v | k + 1 => V k, fun k => match k with | 0 => a | k + 1 => A k, rfl, fun k o' ho => ?_, hK⟩
    cases k with
    | zero =>
      simp at ho
      subst ho
      exact ⟨h1, hA⟩
    | succ k =>
      have := hk k o' (by simpa using ho)
      rw [show i + 1 + k = i + (k + 1) by omega] at this
      exact this
theorem mem_ready_now {listed : Array Bool} {i : Nat} (hc : ∀ j o, ops[j]? = some o → listed.getD j false = true → ∀ e ∈ o.after, Region.binds .any e = true → listed.getD e.on false = true)
    (hs : listed.size = ops.size) (h : i ∈ Region.ready .any ops listed) : Now ops (fun j => listed.getD j false) i ∧ i < ops.size := by
  obtain ⟨h0, o, ho, h1⟩ := mem_ready.1 h
  have hlt := (Array.getElem?_eq_some_iff.1 ho).1
  have hl : i < listed.size := by omega
  refine ⟨⟨?_, fun o' ho' => ?_, hc⟩, hlt⟩
  · simp [hl] at h0 ⊢; exact h0
  · rw [ho] at ho'; cases ho'; exact h1
theorem res_upon {Q : Exit → Act → World → Prop} {o : Oper} {a : Act} {v : Value} {T : World → Prop} {K : Act → World → Prop} {r : Result Next} (h : Res P v T r) (hK : ∀ w, T w → K (a.put o.dst v) w) : o.uponIn Fence.wide 0 P a K Q r := by
  cases r with
  | ok n w =>
    cases n with
    | value u => obtain ⟨rfl, ht⟩ := h; exact hK w ht
    | skip => obtain ⟨rfl, ht⟩ := h; exact hK w ht
    | enter f args =>
      refine ⟨fun hd => (by cases hd), callsIn_wide.2 (Calls.mono h fun e w' he => ?_)⟩
      obtain ⟨rfl, ht⟩ := he
      exact hK w' ht
    | round l fn tmps assign body =>
      refine ⟨fun hd => (by cases hd), roundIn_wide (RoundIn.mono h fun e w' he => ?_)⟩
      obtain ⟨rfl, ht⟩ := he
      exact hK w' ht
    | _ => exact h.elim
  | halt x w => exact h.elim
theorem wp_region_det {Q : Exit → Act → World → Prop} {id : Nat} {w : World} (hm : P.follows .mixedOrders = true) (hB : detB ops = true) (h0 : S (fun _ => false) w.drew)
    (h : Det P ops S ops.toList 0 a (fun a' => ∀ L w', (∀ i, i < ops.size → L i = true) → S L w' → Q .normal a' w')) : (Code.region id ops true).wp P Q a w := by
  have hD := detB_spec hB
  obtain ⟨V, A, hA0, hA, hK⟩ := det_vals _ _ _ h
  have hAm : ∀ k, k ≤ ops.size → A k = mixed ops a V (fun _ => true) k := by
    intro k
    induction k with
    | zero => intro _; exact hA0
    | succ k ih =>
      intro hk
      have hlt : k < ops.size := by omega
      have h1 := (hA k ops[k] (by rw [Array.getElem?_toList]; exact Array.getElem?_eq_getElem hlt)).2
      rw [h1, ih (by omega)]
      simp [mixed, Array.getElem?_eq_getElem hlt]
  refine (wpIn_wide (n := 0)).1 (wpIn_region_any hm ?_)
  have main : ∀ (f : Nat) (listed : Array Bool) (w' : World), listed.size = ops.size →
      (∀ j o, ops[j]? = some o → listed.getD j false = true → ∀ e ∈ o.after, Region.binds .any e = true → listed.getD e.on false = true) →
      ((List.range ops.size).countP fun j => !listed.getD j false) ≤ f → S (fun j => listed.getD j false) w' →
      wpAnyIn Fence.wide 0 P .any ops Q f listed (mixed ops a V (fun j => listed.getD j false) ops.size) w' := by
    have done : ∀ (listed : Array Bool) (w' : World), (∀ i, i < ops.size → listed.getD i false = true) → S (fun j => listed.getD j false) w' → Q .normal (mixed ops a V (fun j => listed.getD j false) ops.size) w' := by
      intro listed w' hall hS
      have h1 := hK (fun j => listed.getD j false) w' hall hS
      rw [Array.length_toList, hAm _ (Nat.le_refl _)] at h1
      rwa [mixed_congr (M := fun _ => true) _ (fun j hj => hall j hj)]
    have least : ∀ (listed : Array Bool), listed.size = ops.size → Region.ready .any ops listed = [] → ∀ i, i < ops.size → listed.getD i false = true := by
      intro listed hs hr i
      induction i using Nat.strongRecOn with
      | _ i ih =>
        intro hi
        cases hl : listed.getD i false with
        | true => rfl
        | false =>
          have hl' : listed.getD i true = false := by
            have : i < listed.size := by omega
            simp [this] at hl ⊢
            exact hl
          have hm : i ∈ Region.ready .any ops listed := mem_ready.2 ⟨hl', ops[i], Array.getElem?_eq_getElem hi, fun e he hb => by
            have hw : waits ops i e.on = true := waits_iff.2 ⟨ops[i], Array.getElem?_eq_getElem hi, e, he, hb, rfl⟩
            have hlt := hD.back i e.on hw
            exact ih e.on hlt (by omega)⟩
          rw [hr] at hm
          cases hm
    intro f
    induction f with
    | zero =>
      intro listed w' hs hc hcnt hS
      have hall : ∀ i, i < ops.size → listed.getD i false = true := fun i hi => by
        have h1 := List.countP_eq_zero.1 (Nat.le_zero.1 hcnt) i (List.mem_range.2 hi)
        simpa using h1
      refine ⟨?_, done listed w' hall hS⟩
      apply List.eq_nil_iff_forall_not_mem.2
      intro i hi
      obtain ⟨hN, hlt⟩ := mem_ready_now hc hs hi
      have h1 := hN.free
      have h2 : listed.getD i false = false := h1
      rw [hall i hlt] at h2
      cases h2
    | succ f ih =>
      intro listed w' hs hc hcnt hS
      refine ⟨fun hr => done listed w' (least listed hs hr) hS, fun i hi => ?_⟩
      obtain ⟨hN, hlt⟩ := mem_ready_now hc hs hi
      have ho : ops[i]? = some ops[i] := Array.getElem?_eq_getElem hlt
      obtain ⟨hx, hw⟩ := same_exec (a := a) (V := V) hD ho hN
      have hdet := (hA i ops[i] (by rw [Array.getElem?_toList]; exact ho)).1
      rw [Nat.zero_add, hAm i (by omega)] at hdet
      have hset : ∀ j, (listed.setIfInBounds i true).getD j false = if j = i then true else listed.getD j false := by
        intro j
        by_cases e : j = i
        · subst e
          have : j < listed.size := by omega
          simp [this]
        · rw [if_neg e, getD_set_ne false (fun h => e h.symm)]
      have next : ∀ w2, Then S (fun j => listed.getD j false) i w2 → wpAnyIn Fence.wide 0 P .any ops Q f (listed.setIfInBounds i true) ((mixed ops a V (fun j => listed.getD j false) ops.size).put ops[i].dst (V i)) w2 := by
        intro w2 hT
        have hmx := mixed_put (a := a) (V := V) hD (L := fun j => listed.getD j false) (L' := fun j => (listed.setIfInBounds i true).getD j false) (i := i) hN.free (by simp [hset])
          (fun j hj => by simp only [hset, if_neg hj]) ops.size hlt (Nat.le_refl _)
        rw [ho, Option.bind_some] at hmx
        rw [← hmx]
        refine ih _ w2 (by simp [hs]) (fun j o hj hl e he hb => ?_) ?_ (hT _ (by simp [hset]) (fun j hj => by simp only [hset, if_neg hj]))
        · rw [hset] at hl ⊢
          split
          · rfl
          · by_cases e1 : j = i
            · subst e1
              exact hN.after o hj e he hb
            · rw [if_neg e1] at hl
              exact hc j o hj hl e he hb
        · have hcount : ((List.range ops.size).countP fun j => !(listed.setIfInBounds i true).getD j false) + 1 ≤ ((List.range ops.size).countP fun j => !listed.getD j false) := by
            have e1 : ((List.range ops.size).countP fun j => !(listed.setIfInBounds i true).getD j false) = ((List.range ops.size).countP fun j => !listed.getD j false && !(j == i)) := by
              refine List.countP_congr fun j _ => ?_
              rw [hset]
              by_cases e : j = i
              · simp [e]
              · simp [e]
            rw [e1]
            have e2 : (List.range ops.size).countP (fun j => !listed.getD j false) = ((List.range ops.size).countP fun j => !listed.getD j false && !(j == i)) + ((List.range ops.size).countP fun j => !listed.getD j false && (j == i)) := by
              induction (List.range ops.size) with
              | nil => rfl
              | cons x l ihl =>
                simp only [List.countP_cons, ihl]
                cases listed.getD x false <;> cases (x == i) <;> simp <;> omega
            rw [e2]
            have e3 : 0 < (List.range ops.size).countP fun j => !listed.getD j false && (j == i) :=
              List.countP_pos_iff.2 ⟨i, List.mem_range.2 hlt, by have := hN.free; simp only [this]; simp⟩
            omega
          omega
      unfold wpOpIn
      simp only [ho]
      rw [hw]
      rcases hdet with ⟨hwant, hres⟩ | ⟨hwant, hv, hS'⟩
      · rw [if_pos hwant]
        unfold Oper.wpIn
        refine ⟨fun _ _ => trivial, ?_⟩
        rw [show Fence.wide.round = none from rfl, Oper.semAt_none, hx]
        exact res_upon (hres _ w' hN hS) next
      · rw [if_neg (by simp [hwant])]
        have := next w' (hS' _ w' hN hS)
        rw [hv] at this
        exact ⟨fun _ _ => trivial, this⟩
  have hstart : mixed ops a V (fun j => (Array.replicate ops.size false).getD j false) ops.size = a := by
    have e : ∀ k, mixed ops a V (fun _ => false) k = a := by
      intro k
      induction k with
      | zero => rfl
      | succ k ih => unfold mixed; simpa using ih
    rw [mixed_congr (M := fun _ => false) _ (fun j _ => ?_)]
    · exact e _
    · by_cases hj : j < ops.size
      · simp [hj]
      · simp [hj]
  have hS0 : (fun j => (Array.replicate ops.size false).getD j false) = (fun _ : Nat => false) := by
    funext j
    by_cases hj : j < ops.size
    · simp [hj]
    · simp [hj]
  have := main ops.size (Array.replicate ops.size false) { w with drawn := w.drawn + 1 } (by simp) (fun j o _ hl => by
      rw [congrFun hS0 j] at hl; cases hl) (Nat.le_trans List.countP_le_length (by simp)) (by rw [hS0]; exact h0)
  rwa [hstart] at this
theorem det_cons {o : Oper} {l : List Oper} {i : Nat} {a : Act} {K : Act → Prop} (v : Value)
    (h : Region.wanted o (yielded ops a.tmps) = true ∧ ∀ L w, Now ops L i → S L w → Res P v (Then S L i) ((execOp a.eval o).run P w))
    (h2 : Det P ops S l (i + 1) (a.put o.dst v) K) : Det P ops S (o :: l) i a K := ⟨v, .inl h, h2⟩
theorem det_skip {o : Oper} {l : List Oper} {i : Nat} {a : Act} {K : Act → Prop}
    (h : Region.wanted o (yielded ops a.tmps) = false ∧ ∀ L w, Now ops L i → S L w → Then S L i w)
    (h2 : Det P ops S l (i + 1) (a.put o.dst undef) K) : Det P ops S (o :: l) i a K := ⟨undef, .inr ⟨h.1, rfl, h.2⟩, h2⟩
theorem det_nil {i : Nat} {a : Act} {K : Act → Prop} (h : K a) : Det P ops S [] i a K := h
end
end Go.Proofs.YtbhjfojbjpbdbaaDoor
namespace Go.Proofs.YtbhjfojbjpbdbaaDoor
open Go Go.RowKit
def ThenX (S : (Nat → Bool) → (Nat → Value) → World → Prop) (L : Nat → Bool) (V : Nat → Value) (i : Nat) (v : Value) (w : World) : Prop :=
  ∀ (L' : Nat → Bool) (V' : Nat → Value), L' i = true → (∀ j, j ≠ i → L' j = L j) → V' i = v → (∀ j, j ≠ i → V' j = V j) → S L' V' w
end Go.Proofs.YtbhjfojbjpbdbaaDoor
namespace Go.Proofs.YtbhjfojbjpbdbaaDoor
open Go Go.RowKit
def ThenM (S : (Nat → Bool) → (Nat → Value) → World → Prop) (L : Nat → Bool) (V : Nat → Value) (i : Nat) (w : World) : Prop :=
  ∀ L' : Nat → Bool, L' i = true → (∀ j, j ≠ i → L' j = L j) → S L' V w
structure FactsW (X : World) (F : Nat → Value → World → Prop) (L : Nat → Bool) (V : Nat → Value) (w : World) : Prop where
  hb : Below X.heap.size X w
  hf : ∀ j, L j = true → F j (V j) w
def Mono (F : Nat → Value → World → Prop) : Prop := ∀ j v w w', F j v w → Below w.heap.size w w' → F j v w'
section
variable {X : World} {F : Nat → Value → World → Prop} {L : Nat → Bool} {V : Nat → Value} {i : Nat} {w w' : World} {v : Value}
theorem FactsW.start (X : World) (F : Nat → Value → World → Prop) : ∀ V, FactsW X F (fun _ => false) V X.drew := fun _ => ⟨(Below.refl _ _).drew, fun _ h => by cases h⟩
theorem FactsW.keep (h : FactsW X F L V w) (hi : ∀ v w, F i v w) : ThenM (FactsW X F) L V i w := fun L' _ h2 => ⟨h.hb, fun j hj => by
  by_cases e : j = i
  · subst e; exact hi _ _
  · rw [h2 j e] at hj; exact h.hf j hj⟩
theorem FactsW.then (h : FactsW X F L V w) (hF : Mono F) (hi : ∀ v w, F i v w) (hb : Below w.heap.size w w') : ThenM (FactsW X F) L V i w' := fun L' _ h2 => ⟨h.hb.trans (hb.mono h.hb.size), fun j hj => by
  by_cases e : j = i
  · subst e; exact hi _ _
  · rw [h2 j e] at hj; exact hF j _ _ _ (h.hf j hj) hb⟩
theorem FactsW.some (h : FactsW X F L V w) (hF : Mono F) (hb : Below w.heap.size w w') (hv : F i v w') : ThenX (FactsW X F) L V i v w' := fun L' V' _ h2 h3 h4 => ⟨h.hb.trans (hb.mono h.hb.size), fun j hj => by
  by_cases e : j = i
  · subst e; rw [h3]; exact hv
  · rw [h2 j e] at hj; rw [h4 j e]; exact hF j _ _ _ (h.hf j hj) hb⟩
theorem FactsW.cell (h : FactsW X F L V w) : ∀ b o, b < X.heap.size → w.cell? ⟨b, o, none⟩ = X.cell? ⟨b, o, none⟩ := fun b o hb => h.hb.cell (p := ⟨b, o, none⟩) hb
end
end Go.Proofs.YtbhjfojbjpbdbaaDoor
namespace Go.Proofs.YtbhjfojbjpbdbaaDoor
open Go.RowKit
def Tr.cells (t : Tr) : List Value := [.int .i64 t.w, .int .i64 t.a0, .int .i64 t.a1, .int .i64 t.a2, .int .i64 t.b0, .int .i64 t.b1, .int .i64 t.b2]
def trCells (l : List Tr) : List (List Value) := l.map Tr.cells
def Bk.cells9 (b : Bk) (s k m t : Value) : List Value := [s, .int .i64 b.wth, .int .i64 b.c0, .int .i64 b.c1, .int .i64 b.c2, k, .int .i64 b.rate, m, t]
def TrOk (t : Tr) : Prop := (0 ≤ t.w ∧ t.w ≤ 2) ∧ (0 ≤ t.a0 ∧ t.a0 ≤ 1000) ∧ (0 ≤ t.a1 ∧ t.a1 ≤ 1000) ∧ (0 ≤ t.a2 ∧ t.a2 ≤ 1000) ∧ (0 ≤ t.b0 ∧ t.b0 ≤ 30) ∧ (0 ≤ t.b1 ∧ t.b1 ≤ 30) ∧ (0 ≤ t.b2 ∧ t.b2 ≤ 30)
def FnOf (W : World) (g : Nat) (first captured : Array Value) (f : Tr → Int) : Prop :=
  ∀ (t : Tr) (W1 : World), TrOk t → Below W.heap.size W W1 → Calls Tryd.prog g (first.push (.agg t.cells.toArray) ++ captured) W1 fun e W2 => e = .returned (.int .i64 (f t)) ∧ Below W1.heap.size W1 W2
def Enters (g : Nat) : Prop := ∀ args w, (callFunc g args).run Tryd.prog w = .ok (.enter g args) w
theorem cell_old {w : World} {o : Obj} {p : Addr} (h : p.block < w.heap.size) : (w.alloc o).cell? p = w.cell? p := World.cell?_of_block (w := w) (Below.heap_alloc w o p.block h)
theorem cell_new {w : World} {c : Array Value} {T : TypeId} {j : Nat} : (w.alloc (.cells c T)).cell? ⟨w.heap.size, j, none⟩ = c[j]? := by
  unfold World.cell?
  rw [World.alloc_heap_new]
  rfl
theorem cell_new' {w : World} {c : Array Value} {T : TypeId} {b j : Nat} (h : b = w.heap.size) : (w.alloc (.cells c T)).cell? ⟨b, j, none⟩ = c[j]? := by subst h; exact cell_new
theorem hs0 (W0 : World) : (∀ b o, b < W0.heap.size → W0.drew.cell? ⟨b, o, none⟩ = W0.cell? ⟨b, o, none⟩) ∧ Below W0.heap.size W0 W0.drew :=
  ⟨fun _ _ _ => rfl, (Below.refl _ _).drew⟩
theorem hs1 {W0 w1 w2 : World} (h2 : Below w1.heap.size w1 w2) (h : (∀ b o, b < W0.heap.size → w1.cell? ⟨b, o, none⟩ = W0.cell? ⟨b, o, none⟩) ∧ Below W0.heap.size W0 w1) : (∀ b o, b < W0.heap.size → w2.cell? ⟨b, o, none⟩ = W0.cell? ⟨b, o, none⟩) ∧ Below W0.heap.size W0 w2 :=
  have hb := h.2.trans (h2.mono h.2.size)
  ⟨fun b o hlt => hb.cell (p := ⟨b, o, none⟩) hlt, hb⟩
theorem hu0 (B : Nat) (V : World) : (∀ b o, b < V.heap.size → b ≠ B → V.drew.cell? ⟨b, o, none⟩ = V.cell? ⟨b, o, none⟩) ∧ Upd (· = B) V V.drew :=
  ⟨fun _ _ _ _ => rfl, (Upd.refl _ _).drew⟩
theorem hu1 {B : Nat} {V w1 w2 : World} (h2 : Below w1.heap.size w1 w2) (h : (∀ b o, b < V.heap.size → b ≠ B → w1.cell? ⟨b, o, none⟩ = V.cell? ⟨b, o, none⟩) ∧ Upd (· = B) V w1) :
    (∀ b o, b < V.heap.size → b ≠ B → w2.cell? ⟨b, o, none⟩ = V.cell? ⟨b, o, none⟩) ∧ Upd (· = B) V w2 :=
  have hb := h.2.trans (Upd.of_below h2)
  ⟨fun b o hlt hne => hb.cell (p := ⟨b, o, none⟩) hlt hne, hb⟩
theorem hu2 {B : Nat} {V w1 : World} {j : Nat} {v : Value} (h : (∀ b o, b < V.heap.size → b ≠ B → w1.cell? ⟨b, o, none⟩ = V.cell? ⟨b, o, none⟩) ∧ Upd (· = B) V w1) :
    (∀ b o, b < V.heap.size → b ≠ B → (w1.setCell ⟨B, j, none⟩ v).cell? ⟨b, o, none⟩ = V.cell? ⟨b, o, none⟩) ∧ Upd (· = B) V (w1.setCell ⟨B, j, none⟩ v) :=
  have hb := h.2.setCell (p := ⟨B, j, none⟩) (.inl rfl) v
  ⟨fun b o hlt hne => hb.cell (p := ⟨b, o, none⟩) hlt hne, hb⟩
theorem mn_eq (a b : Int) : (if b < a then b else a) = min a b := by omega
theorem mx_eq (a b : Int) : (if a < b then b else a) = max a b := by omega
theorem blk_cell {w : World} {B j : Nat} {c : Array Value} {T : TypeId} (h : w.heap[B]? = some (.cells c T)) : w.cell? ⟨B, j, none⟩ = c[j]? := by unfold World.cell?; rw [h]; rfl
theorem blk_frozen {w : World} {B : Nat} {c : Array Value} {T : TypeId} (h : w.heap[B]? = some (.cells c T)) (j : Nat) : w.frozen? ⟨B, j, none⟩ = false := by unfold World.frozen?; rw [h]; simp
theorem blk_set {w : World} {B j : Nat} {c : Array Value} {T : TypeId} {v : Value} (h : w.heap[B]? = some (.cells c T)) : (w.setCell ⟨B, j, none⟩ v).heap[B]? = some (.cells (c.setIfInBounds j v) T) := by
  have hlt := (Array.getElem?_eq_some_iff.1 h).1
  show (w.heap.modify B _)[B]? = _
  rw [Array.getElem?_modify, if_pos rfl, h]
  rfl
set_option maxRecDepth 100000 in
set_option maxHeartbeats 400000 in
theorem told_any (W : World) (b : Bk) (s k m tv : Value) (l : List Tr) (n g : Nat) (first captured : Array Value) (f : Tr → Int) (hn : n ≤ W.heap.size)
    (ht : SlOf W n 7 tv (trCells l)) (hl : l ≠ []) (hok : ∀ t ∈ l, TrOk t) (hf : FnOf W g first captured f) (he : Enters g) :
    Calls Tryd.prog 83 #[.agg (b.cells9 s k m tv).toArray, .agg #[.func (.func g) first captured]] W fun e W' =>
      e = .returned (.agg #[.int .i64 (toldLo f l), .int .i64 (toldHi f l)]) ∧ Below W.heap.size W W' := by
  obtain ⟨ta, tcap, rfl, ht1, ht2, ht3, ht4⟩ := ht
  have H4 := Lib.hid ht4
  clear ht4 ht3
  unfold maxLen at ht2
  simp only [Bk.cells9]
  go_enter Tryd.func83, Tryd.ntmps83
  go_wp2_with fail
  obtain ⟨t0, l', rfl⟩ : ∃ t0 l', l = t0 :: l' := by cases l with | nil => exact absurd rfl hl | cons a b => exact ⟨a, b, rfl⟩
  have HOK := Lib.hid hok
  have ok0 := hok t0 (by simp)
  clear hok
  obtain ⟨g0, q0, e0, hg0, hc0⟩ := sl_at (k := 0) H4.out (show (trCells (t0 :: l'))[0]? = some t0.cells by simp [trCells])
  subst e0
  obtain ⟨W0, hW0⟩ : ∃ W0, ((W.alloc (Obj.cells #[s, Value.int IntKind.i64 b.wth, Value.int IntKind.i64 b.c0, Value.int IntKind.i64 b.c1, Value.int IntKind.i64 b.c2, k, Value.int IntKind.i64 b.rate, m, Value.slice (some ⟨g0, q0, none⟩) (trCells (t0 :: l')).length tcap] 79)).alloc (Obj.cells #[Value.func (Fn.func g) first captured] 107)).alloc (Obj.cells #[Value.int IntKind.i64 0, Value.int IntKind.i64 0] 32) = W0 := ⟨_, rfl⟩
  rw [hW0]
  have hB0 : Below W.heap.size W W0 := by rw [← hW0]; exact (((Below.refl _ _).alloc (Nat.le_refl _) _).alloc (by simp) _).alloc (by simp; omega) _
  have hz0 : W0.heap.size = W.heap.size + 1 + 1 + 1 := by rw [← hW0]; simp
  have z0 : W0.cell? ⟨W.heap.size, 8, none⟩ = some (Value.slice (some ⟨g0, q0, none⟩) (trCells (t0 :: l')).length tcap) := by rw [← hW0, cell_old (by simp; omega), cell_old (by simp), cell_new]; rfl
  have z1 : W0.cell? ⟨W.heap.size + 1, 0, none⟩ = some (Value.func (Fn.func g) first captured) := by rw [← hW0, cell_old (by simp), cell_new' (by simp)]; rfl
  have hr : ∀ j c, t0.cells[j]? = some c → W0.cell? ⟨g0, q0 + 0 * 7 + j, none⟩ = some c := fun j c hj => (hB0.cell (p := ⟨g0, _, none⟩) (by show g0 < _; omega)).trans (hc0 j c hj)
  have r0 : W0.cell? ⟨g0, q0, none⟩ = some (.int .i64 t0.w) := hr 0 _ rfl
  have r1 : W0.cell? ⟨g0, q0 + 1, none⟩ = some (.int .i64 t0.a0) := hr 1 _ rfl
  have r2 : W0.cell? ⟨g0, q0 + 2, none⟩ = some (.int .i64 t0.a1) := hr 2 _ rfl
  have r3 : W0.cell? ⟨g0, q0 + 3, none⟩ = some (.int .i64 t0.a2) := hr 3 _ rfl
  have r4 : W0.cell? ⟨g0, q0 + 4, none⟩ = some (.int .i64 t0.b0) := hr 4 _ rfl
  have r5 : W0.cell? ⟨g0, q0 + 5, none⟩ = some (.int .i64 t0.b1) := hr 5 _ rfl
  have r6 : W0.cell? ⟨g0, q0 + 6, none⟩ = some (.int .i64 t0.b2) := hr 6 _ rfl
  have l0 : W.heap.size < W0.heap.size := by omega
  have l1 : W.heap.size + 1 < W0.heap.size := by omega
  have l2 : g0 < W0.heap.size := by omega
  have hlen : 0 < (trCells (t0 :: l')).length := by simp [trCells]
  have HF := Lib.hid hf
  have HW := Lib.hid hW0
  have HZ := Lib.hid hz0
  clear hr hf hW0 hz0
  unfold Enters at he
  go_upto_region 1 with fail
  go_cut [5] (fun s5 wx => s5 = .int .i64 (f t0) ∧ Below W0.heap.size W0 wx)
  case first =>
    go_region_held3 (fun w' => (∀ b o, b < W0.heap.size → w'.cell? ⟨b, o, none⟩ = W0.cell? ⟨b, o, none⟩) ∧ Below W0.heap.size W0 w') (first | exact hs0 _ | exact hs1 (by assumption) (by assumption))
      (first | (refine (HF.out t0 _ ok0 (hB0.trans (Below.mono (And.right (by assumption)) hB0.size))).mono ?_; rintro e w' ⟨rfl, hbb⟩))
    go_wp2_with fail
    go_meet
    exact ⟨rfl, And.right (by assumption)⟩
  case rest =>
    obtain ⟨rfl, hbx⟩ := hcut
    have hsz := hbx.size
    have z0 : wc.cell? ⟨W.heap.size, 8, none⟩ = some (Value.slice (some ⟨g0, q0, none⟩) (trCells (t0 :: l')).length tcap) := (hbx.cell (p := ⟨W.heap.size, 8, none⟩) l0).trans z0
    have z1 : wc.cell? ⟨W.heap.size + 1, 0, none⟩ = some (Value.func (Fn.func g) first captured) := (hbx.cell (p := ⟨W.heap.size + 1, 0, none⟩) l1).trans z1
    have l0 : W.heap.size < wc.heap.size := by omega
    have l1 : W.heap.size + 1 < wc.heap.size := by omega
    have hbw : Below W.heap.size W wc := hB0.trans (hbx.mono hB0.size)
    have hR : wc.heap[W.heap.size + 1 + 1]? = some (.cells #[Value.int IntKind.i64 0, Value.int IntKind.i64 0] 32) := by
      rw [hbx.block _ (by have := HZ.out; omega), ← HW.out]
      exact (by simp : (((W.alloc _).alloc _).heap.size) = W.heap.size + 1 + 1) ▸ World.alloc_heap_new _ _
    have l3 : W.heap.size + 1 + 1 < wc.heap.size := (Array.getElem?_eq_some_iff.1 hR).1
    have HR := Lib.hid hR
    clear r0 r1 r2 r3 r4 r5 r6 hbx hB0 HW hR
    go_wp2_with fail
    go_loopg [22] (trCells (t0 :: l')).length (fun n i wx => ∃ (k : Nat) (lo hi : Int), k ≤ (trCells (t0 :: l')).length ∧ n = (trCells (t0 :: l')).length - k ∧ i = .int .i64 k ∧ Below wc.heap.size wc wx ∧ wx.heap[wc.heap.size]? = some (.cells #[.int .i64 lo, .int .i64 hi] 32) ∧ minL f lo ((t0 :: l').drop k) = toldLo f (t0 :: l') ∧ maxL f hi ((t0 :: l').drop k) = toldHi f (t0 :: l'))
    case atStart => exact ⟨0, _, _, by omega, rfl, rfl, (Below.refl _ _).alloc (Nat.le_refl _) _, World.alloc_heap_new _ _, rfl, rfl⟩
    case round =>
      obtain ⟨k, lo, hi, hk, hgk, rfl, hbr, hO, hlo, hhi⟩ := hrel
      have HG := Lib.hid hgk
      have HLO := Lib.hid hlo
      have HHI := Lib.hid hhi
      clear hgk hlo hhi
      by_cases hlt : k < (trCells (t0 :: l')).length
      · have hlt' : k < (t0 :: l').length := by simpa [trCells] using hlt
        obtain ⟨x, hx⟩ : ∃ x, (t0 :: l')[k]? = some x := ⟨_, List.getElem?_eq_getElem hlt'⟩
        obtain ⟨g1, q1, e1, hg1, hcs⟩ := sl_at H4.out (show (trCells (t0 :: l'))[k]? = some x.cells by rw [trCells, List.getElem?_map, hx]; rfl)
        cases e1
        have okx := HOK.out x (List.mem_of_getElem? hx)
        have hdr : (t0 :: l').drop k = x :: (t0 :: l').drop (k + 1) := by
          rw [List.drop_eq_getElem_cons hlt']; rw [List.getElem?_eq_getElem hlt'] at hx; cases hx; rfl
        have HD := Lib.hid hdr
        clear hx hdr
        have hr : ∀ j c, x.cells[j]? = some c → wr.cell? ⟨g0, q0 + k * 7 + j, none⟩ = some c := fun j c hj =>
          (hbr.cell (p := ⟨g0, q0 + k * 7 + j, none⟩) (by show g0 < _; omega)).trans ((hbw.cell (p := ⟨g0, q0 + k * 7 + j, none⟩) (by show g0 < _; omega)).trans (hcs j c hj))
        have r0 : wr.cell? ⟨g0, q0 + k * 7, none⟩ = some (.int .i64 x.w) := hr 0 _ rfl
        have r1 : wr.cell? ⟨g0, q0 + k * 7 + 1, none⟩ = some (.int .i64 x.a0) := hr 1 _ rfl
        have r2 : wr.cell? ⟨g0, q0 + k * 7 + 2, none⟩ = some (.int .i64 x.a1) := hr 2 _ rfl
        have r3 : wr.cell? ⟨g0, q0 + k * 7 + 3, none⟩ = some (.int .i64 x.a2) := hr 3 _ rfl
        have r4 : wr.cell? ⟨g0, q0 + k * 7 + 4, none⟩ = some (.int .i64 x.b0) := hr 4 _ rfl
        have r5 : wr.cell? ⟨g0, q0 + k * 7 + 5, none⟩ = some (.int .i64 x.b1) := hr 5 _ rfl
        have r6 : wr.cell? ⟨g0, q0 + k * 7 + 6, none⟩ = some (.int .i64 x.b2) := hr 6 _ rfl
        have hrz := hbr.size
        have hOl : wc.heap.size < wr.heap.size := (Array.getElem?_eq_some_iff.1 hO).1
        have o0 : wr.cell? ⟨wc.heap.size, 0, none⟩ = some (.int .i64 lo) := by unfold World.cell?; rw [hO]; rfl
        have o1 : wr.cell? ⟨wc.heap.size, 1, none⟩ = some (.int .i64 hi) := by unfold World.cell?; rw [hO]; rfl
        have fO : ∀ j, wr.frozen? ⟨wc.heap.size, j, none⟩ = false := fun j => by unfold World.frozen?; rw [hO]; simp
        have z2 : wr.cell? ⟨W.heap.size + 1, 0, none⟩ = some (Value.func (Fn.func g) first captured) := (hbr.cell (p := ⟨W.heap.size + 1, 0, none⟩) l1).trans z1
        clear hr hcs
        go_upto_region 6 with fail
        obtain ⟨V, hV⟩ : ∃ V, wr.alloc (Obj.cells #[Value.int IntKind.i64 x.w, Value.int IntKind.i64 x.a0, Value.int IntKind.i64 x.a1, Value.int IntKind.i64 x.a2, Value.int IntKind.i64 x.b0, Value.int IntKind.i64 x.b1, Value.int IntKind.i64 x.b2] 87) = V := ⟨_, rfl⟩
        rw [hV]
        have hVz : V.heap.size = wr.heap.size + 1 := by rw [← hV]; simp
        have hVB : Below wc.heap.size wc V := by rw [← hV]; exact hbr.alloc hrz _
        have hVO : V.heap[wc.heap.size]? = some (.cells #[.int .i64 lo, .int .i64 hi] 32) := by rw [← hV]; exact (Below.heap_alloc _ _ _ hOl).trans hO
        have hVx : V.heap[wr.heap.size]? = some (.cells #[Value.int IntKind.i64 x.w, Value.int IntKind.i64 x.a0, Value.int IntKind.i64 x.a1, Value.int IntKind.i64 x.a2, Value.int IntKind.i64 x.b0, Value.int IntKind.i64 x.b1, Value.int IntKind.i64 x.b2] 87) := by rw [← hV]; exact World.alloc_heap_new _ _
        have x0 : V.cell? ⟨wr.heap.size, 0, none⟩ = some (.int .i64 x.w) := blk_cell hVx
        have x1 : V.cell? ⟨wr.heap.size, 1, none⟩ = some (.int .i64 x.a0) := blk_cell hVx
        have x2 : V.cell? ⟨wr.heap.size, 2, none⟩ = some (.int .i64 x.a1) := blk_cell hVx
        have x3 : V.cell? ⟨wr.heap.size, 3, none⟩ = some (.int .i64 x.a2) := blk_cell hVx
        have x4 : V.cell? ⟨wr.heap.size, 4, none⟩ = some (.int .i64 x.b0) := blk_cell hVx
        have x5 : V.cell? ⟨wr.heap.size, 5, none⟩ = some (.int .i64 x.b1) := blk_cell hVx
        have x6 : V.cell? ⟨wr.heap.size, 6, none⟩ = some (.int .i64 x.b2) := blk_cell hVx
        have o0 : V.cell? ⟨wc.heap.size, 0, none⟩ = some (.int .i64 lo) := blk_cell hVO
        have o1 : V.cell? ⟨wc.heap.size, 1, none⟩ = some (.int .i64 hi) := blk_cell hVO
        have fO := blk_frozen hVO
        have y1 : V.cell? ⟨W.heap.size + 1, 0, none⟩ = some (Value.func (Fn.func g) first captured) := (hVB.cell (p := ⟨W.heap.size + 1, 0, none⟩) l1).trans z1
        have m0 : wr.heap.size < V.heap.size := by omega
        have m1 : W.heap.size + 1 < V.heap.size := by omega
        have m2 : wr.heap.size ≠ wc.heap.size := by omega
        have m3 : W.heap.size + 1 ≠ wc.heap.size := by omega
        have hBO := Lib.hid hVO
        clear r0 r1 r2 r3 r4 r5 r6 hV hVO hVx hO z1 z2 z0 hbr hVz
        refine wp_region_det (S := fun L w' => ((∀ b o, b < V.heap.size → b ≠ wc.heap.size → w'.cell? ⟨b, o, none⟩ = V.cell? ⟨b, o, none⟩) ∧ Upd (· = wc.heap.size) V w') ∧
          w'.heap[wc.heap.size]? = some (.cells #[.int .i64 (bif L 15 then min lo (f x) else lo), .int .i64 (bif L 17 then max hi (f x) else hi)] 32)) (by kernel_rfl) (by kernel_rfl) ⟨hu0 _ _, hBO.out⟩ ?_
        apply det_cons
        · refine ⟨by rfl, fun L w hN hS => ?_⟩
          obtain ⟨⟨hcc, hu⟩, hb⟩ := hS
          go_simp
          exact ⟨rfl, fun L' _ h2 => ⟨⟨hcc, hu⟩, by rw [h2 15 (by decide), h2 17 (by decide)]; exact hb⟩⟩
        try simp only [Act.put, List.setIfInBounds_toArray, List.set_cons_zero, List.set_cons_succ]
        apply det_cons
        · refine ⟨by rfl, fun L w hN hS => ?_⟩
          obtain ⟨⟨hcc, hu⟩, hb⟩ := hS
          have e := hN.not_yet (j := 15) (by kernel_rfl)
          have o0 : w.cell? ⟨wc.heap.size, 0, none⟩ = some (.int .i64 lo) := by have h := blk_cell (j := 0) hb; rw [e] at h; exact h
          go_simp
          exact ⟨rfl, fun L' _ h2 => ⟨⟨hcc, hu⟩, by rw [h2 15 (by decide), h2 17 (by decide)]; exact hb⟩⟩
        try simp only [Act.put, List.setIfInBounds_toArray, List.set_cons_zero, List.set_cons_succ]
        apply det_cons
        · refine ⟨by rfl, fun L w hN hS => ?_⟩
          obtain ⟨⟨hcc, hu⟩, hb⟩ := hS
          go_simp
          exact ⟨rfl, fun L' _ h2 => ⟨⟨hcc, hu⟩, by rw [h2 15 (by decide), h2 17 (by decide)]; exact hb⟩⟩
        try simp only [Act.put, List.setIfInBounds_toArray, List.set_cons_zero, List.set_cons_succ]
        apply det_cons
        · refine ⟨by rfl, fun L w hN hS => ?_⟩
          obtain ⟨⟨hcc, hu⟩, hb⟩ := hS
          go_simp
          exact ⟨rfl, fun L' _ h2 => ⟨⟨hcc, hu⟩, by rw [h2 15 (by decide), h2 17 (by decide)]; exact hb⟩⟩
        try simp only [Act.put, List.setIfInBounds_toArray, List.set_cons_zero, List.set_cons_succ]
        apply det_cons
        · refine ⟨by rfl, fun L w hN hS => ?_⟩
          obtain ⟨⟨hcc, hu⟩, hb⟩ := hS
          go_simp
          exact ⟨rfl, fun L' _ h2 => ⟨⟨hcc, hu⟩, by rw [h2 15 (by decide), h2 17 (by decide)]; exact hb⟩⟩
        try simp only [Act.put, List.setIfInBounds_toArray, List.set_cons_zero, List.set_cons_succ]
        apply det_cons
        · refine ⟨by rfl, fun L w hN hS => ?_⟩
          obtain ⟨⟨hcc, hu⟩, hb⟩ := hS
          go_simp
          refine (HF.out x _ okx ((hbw.trans (hVB.mono (by omega))).trans (hu.below (by omega) (by intro k hk1 hk2; omega)))).mono ?_
          rintro e w' ⟨rfl, hbb⟩
          have hq := hu1 hbb ⟨hcc, hu⟩
          exact ⟨rfl, fun L' _ h2 => ⟨hq, by rw [h2 15 (by decide), h2 17 (by decide), hbb.block _ ((Array.getElem?_eq_some_iff.1 hb).1)]; exact hb⟩⟩
        try simp only [Act.put, List.setIfInBounds_toArray, List.set_cons_zero, List.set_cons_succ]
        apply det_cons
        · refine ⟨by rfl, fun L w hN hS => ?_⟩
          obtain ⟨⟨hcc, hu⟩, hb⟩ := hS
          go_simp
          exact ⟨congrArg _ (mn_eq _ _), fun L' _ h2 => ⟨⟨hcc, hu⟩, by rw [h2 15 (by decide), h2 17 (by decide)]; exact hb⟩⟩
        try simp only [Act.put, List.setIfInBounds_toArray, List.set_cons_zero, List.set_cons_succ]
        apply det_cons
        · refine ⟨by rfl, fun L w hN hS => ?_⟩
          obtain ⟨⟨hcc, hu⟩, hb⟩ := hS
          go_simp
          exact ⟨rfl, fun L' _ h2 => ⟨⟨hcc, hu⟩, by rw [h2 15 (by decide), h2 17 (by decide)]; exact hb⟩⟩
        try simp only [Act.put, List.setIfInBounds_toArray, List.set_cons_zero, List.set_cons_succ]
        apply det_cons
        · refine ⟨by rfl, fun L w hN hS => ?_⟩
          obtain ⟨⟨hcc, hu⟩, hb⟩ := hS
          have e := hN.not_yet (j := 17) (by kernel_rfl)
          have o1 : w.cell? ⟨wc.heap.size, 1, none⟩ = some (.int .i64 hi) := by have h := blk_cell (j := 1) hb; rw [e] at h; exact h
          go_simp
          exact ⟨rfl, fun L' _ h2 => ⟨⟨hcc, hu⟩, by rw [h2 15 (by decide), h2 17 (by decide)]; exact hb⟩⟩
        try simp only [Act.put, List.setIfInBounds_toArray, List.set_cons_zero, List.set_cons_succ]
        apply det_cons
        · refine ⟨by rfl, fun L w hN hS => ?_⟩
          obtain ⟨⟨hcc, hu⟩, hb⟩ := hS
          go_simp
          exact ⟨rfl, fun L' _ h2 => ⟨⟨hcc, hu⟩, by rw [h2 15 (by decide), h2 17 (by decide)]; exact hb⟩⟩
        try simp only [Act.put, List.setIfInBounds_toArray, List.set_cons_zero, List.set_cons_succ]
        apply det_cons
        · refine ⟨by rfl, fun L w hN hS => ?_⟩
          obtain ⟨⟨hcc, hu⟩, hb⟩ := hS
          go_simp
          exact ⟨rfl, fun L' _ h2 => ⟨⟨hcc, hu⟩, by rw [h2 15 (by decide), h2 17 (by decide)]; exact hb⟩⟩
        try simp only [Act.put, List.setIfInBounds_toArray, List.set_cons_zero, List.set_cons_succ]
        apply det_cons
        · refine ⟨by rfl, fun L w hN hS => ?_⟩
          obtain ⟨⟨hcc, hu⟩, hb⟩ := hS
          go_simp
          exact ⟨rfl, fun L' _ h2 => ⟨⟨hcc, hu⟩, by rw [h2 15 (by decide), h2 17 (by decide)]; exact hb⟩⟩
        try simp only [Act.put, List.setIfInBounds_toArray, List.set_cons_zero, List.set_cons_succ]
        apply det_cons
        · refine ⟨by rfl, fun L w hN hS => ?_⟩
          obtain ⟨⟨hcc, hu⟩, hb⟩ := hS
          go_simp
          refine (HF.out x _ okx ((hbw.trans (hVB.mono (by omega))).trans (hu.below (by omega) (by intro k hk1 hk2; omega)))).mono ?_
          rintro e w' ⟨rfl, hbb⟩
          have hq := hu1 hbb ⟨hcc, hu⟩
          exact ⟨rfl, fun L' _ h2 => ⟨hq, by rw [h2 15 (by decide), h2 17 (by decide), hbb.block _ ((Array.getElem?_eq_some_iff.1 hb).1)]; exact hb⟩⟩
        try simp only [Act.put, List.setIfInBounds_toArray, List.set_cons_zero, List.set_cons_succ]
        apply det_cons
        · refine ⟨by rfl, fun L w hN hS => ?_⟩
          obtain ⟨⟨hcc, hu⟩, hb⟩ := hS
          go_simp
          exact ⟨congrArg _ (mx_eq _ _), fun L' _ h2 => ⟨⟨hcc, hu⟩, by rw [h2 15 (by decide), h2 17 (by decide)]; exact hb⟩⟩
        try simp only [Act.put, List.setIfInBounds_toArray, List.set_cons_zero, List.set_cons_succ]
        apply det_cons
        · refine ⟨by rfl, fun L w hN hS => ?_⟩
          obtain ⟨⟨hcc, hu⟩, hb⟩ := hS
          go_simp
          exact ⟨rfl, fun L' _ h2 => ⟨⟨hcc, hu⟩, by rw [h2 15 (by decide), h2 17 (by decide)]; exact hb⟩⟩
        try simp only [Act.put, List.setIfInBounds_toArray, List.set_cons_zero, List.set_cons_succ]
        apply det_cons
        · refine ⟨by rfl, fun L w hN hS => ?_⟩
          obtain ⟨⟨hcc, hu⟩, hb⟩ := hS
          have fz := blk_frozen hb
          have oc : w.cell? ⟨wc.heap.size, 0, none⟩ = some _ := blk_cell (j := 0) hb
          have hs := blk_set (j := 0) (v := .int .i64 (min lo (f x))) hb
          have HS := Lib.hid hs
          have HB := Lib.hid hb
          clear hs hb
          go_simp
          exact ⟨rfl, fun L' h1 h2 => ⟨⟨fun b o hb1 hb2 => ((hu.setCell (p := ⟨wc.heap.size, 0, none⟩) (.inl rfl) _).cell (p := ⟨b, o, none⟩) hb1 hb2), hu.setCell (p := ⟨wc.heap.size, 0, none⟩) (.inl rfl) _⟩, by rw [h1, h2 17 (by decide)]; exact HS.out⟩⟩
        try simp only [Act.put]
        apply det_cons
        · refine ⟨by rfl, fun L w hN hS => ?_⟩
          obtain ⟨⟨hcc, hu⟩, hb⟩ := hS
          go_simp
          exact ⟨rfl, fun L' _ h2 => ⟨⟨hcc, hu⟩, by rw [h2 15 (by decide), h2 17 (by decide)]; exact hb⟩⟩
        try simp only [Act.put, List.setIfInBounds_toArray, List.set_cons_zero, List.set_cons_succ]
        apply det_cons
        · refine ⟨by rfl, fun L w hN hS => ?_⟩
          obtain ⟨⟨hcc, hu⟩, hb⟩ := hS
          have fz := blk_frozen hb
          have oc : w.cell? ⟨wc.heap.size, 1, none⟩ = some _ := blk_cell (j := 1) hb
          have hs := blk_set (j := 1) (v := .int .i64 (max hi (f x))) hb
          have HS := Lib.hid hs
          have HB := Lib.hid hb
          clear hs hb
          go_simp
          exact ⟨rfl, fun L' h1 h2 => ⟨⟨fun b o hb1 hb2 => ((hu.setCell (p := ⟨wc.heap.size, 1, none⟩) (.inl rfl) _).cell (p := ⟨b, o, none⟩) hb1 hb2), hu.setCell (p := ⟨wc.heap.size, 1, none⟩) (.inl rfl) _⟩, by rw [h1, h2 15 (by decide)]; exact HS.out⟩⟩
        try simp only [Act.put]
        refine det_nil ?_
        rintro L w' hL ⟨⟨hcc, hu⟩, hb⟩
        rw [hL 15 (by decide), hL 17 (by decide)] at hb
        have HBF := Lib.hid hb
        clear hb hcc
        go_wp2_with fail
        go_roundg ((trCells (t0 :: l')).length - (k + 1))
        case measure => rw [HG.out]; omega
        case rel =>
          refine ⟨k + 1, _, _, hlt, rfl, by go_num, ?_, HBF.out, ?_, ?_⟩
          · exact hVB.trans (hu.below hVB.size (by intro k hk1 hk2; omega))
          · rw [← HLO.out, HD.out]; rfl
          · rw [← HHI.out, HD.out]; rfl
      · have hkl : k = (trCells (t0 :: l')).length := by omega
        have e1 : (t0 :: l').drop k = [] := by rw [List.drop_eq_nil_iff]; rw [hkl]; simp [trCells]
        have e2 : lo = toldLo f (t0 :: l') := by rw [← HLO.out, e1]; rfl
        have e3 : hi = toldHi f (t0 :: l') := by rw [← HHI.out, e1]; rfl
        subst e2 e3
        have hrz := hbr.size
        have hOl : wc.heap.size < wr.heap.size := (Array.getElem?_eq_some_iff.1 hO).1
        have o0 : wr.cell? ⟨wc.heap.size, 0, none⟩ = some (.int .i64 (toldLo f (t0 :: l'))) := blk_cell hO
        have o1 : wr.cell? ⟨wc.heap.size, 1, none⟩ = some (.int .i64 (toldHi f (t0 :: l'))) := blk_cell hO
        have hR : wr.heap[W.heap.size + 1 + 1]? = some (.cells #[Value.int IntKind.i64 0, Value.int IntKind.i64 0] 32) := (hbr.block _ l3).trans HR.out
        have c0 : wr.cell? ⟨W.heap.size + 1 + 1, 0, none⟩ = some (.int .i64 0) := blk_cell hR
        have c1 : wr.cell? ⟨W.heap.size + 1 + 1, 1, none⟩ = some (.int .i64 0) := blk_cell hR
        have cf := blk_frozen hR
        clear hkl e1 hO HLO HHI hR
        go_wp2_with fail
        exact bodyPost_ret (v := .agg #[.int .i64 (toldLo f (t0 :: l')), .int .i64 (toldHi f (t0 :: l'))]) (by simp [results, Tryd.results83, go_sem, c0, c1]) rfl ⟨rfl, ((hbw.trans (hbr.mono (by omega))).setCell (by simp; omega) _).setCell (by simp; omega) _⟩
end Go.Proofs.YtbhjfojbjpbdbaaDoor
namespace Go.Proofs.YtbhjfojbjpbdbaaDoor
open Go.RowKit
set_option maxHeartbeats 400000 in
theorem last_any (W : World) (b : Bk) (s k m tv : Value) (n : Nat) (j : Nat) (hs : SlOf W n 7 s (stCells b.sts)) (hj : b.sts.length = j + 1) :
    Calls Tryd.prog 99 #[.agg (b.cells9 s k m tv).toArray] W fun e W' => e = .returned (.int .i64 (j : Int)) ∧ Below W.heap.size W W' := by
  obtain ⟨sa, scap, rfl, hs1, hs2, hs3, hs4⟩ := hs
  simp only [Bk.cells9, stCells, List.length_map] at *
  have hl : b.sts.length ≤ 9223372036854775807 := by unfold maxLen at hs2; omega
  have HJ := Lib.hid hj
  clear hs1 hs2 hs3 hs4 hj
  go_enter Tryd.func99, Tryd.ntmps99
  go_wp2
  go_ret
  exact ⟨ret_int (by have := HJ.out; omega), (Below.refl _ _).alloc (Nat.le_refl _) _⟩
theorem tr_cell_a {W : World} {B : Nat} (t : Tr) (h : W.heap[B]? = some (.cells t.cells.toArray 87)) {k : Nat} (hk : k < 3) : W.cell? ⟨B, 1 + k, none⟩ = some (.int .i64 (t.comes k)) := by
  rw [blk_cell h]
  have hkk : k = 0 ∨ k = 1 ∨ k = 2 := by omega
  rcases hkk with rfl | rfl | rfl <;> rfl
set_option maxRecDepth 100000 in
set_option maxHeartbeats 400000 in
theorem late_any (W : World) (b : Bk) (s k m tv : Value) (n : Nat) (t : Tr) (j : Nat) (hn : n ≤ W.heap.size) (hs : SlOf W n 7 s (stCells b.sts)) (hj : j < b.sts.length) (h3 : b.sts.length ≤ 3) (ht : TrOk t)
    (hd : 0 ≤ b.due j ∧ b.due j ≤ 1000) :
    Calls Tryd.prog 77 #[.agg (b.cells9 s k m tv).toArray, .agg t.cells.toArray, .int .i64 j] W fun e W' => e = .returned (.int .i64 (lateT b j t)) ∧ Below W.heap.size W W' := by
  obtain ⟨sa, scap, rfl, hs1, hs2, hs3, hs4⟩ := hs
  obtain ⟨x, hx⟩ : ∃ x, b.sts[j]? = some x := ⟨_, List.getElem?_eq_getElem hj⟩
  have hdue : b.due j = x.due := by simp [Bk.due, hx]
  rw [hdue] at hd
  obtain ⟨g, q, hsa, hg, hcs⟩ := sl_at hs4 (show (stCells b.sts)[j]? = some x.cells by simp [stCells, hx])
  subst hsa
  have hc : 0 ≤ t.comes j ∧ t.comes j ≤ 1000 := by
    have hkk : j = 0 ∨ j = 1 ∨ j = 2 := by omega
    obtain ⟨_, h0, h1, h2, _⟩ := ht
    rcases hkk with rfl | rfl | rfl <;> assumption
  have c0 : W.cell? ⟨g, q + j * 7, none⟩ = some (.int .i64 x.due) := hcs 0 _ rfl
  have hl : (j : Int) < (b.sts.length : Int) := by omega
  have hl3 : (j : Int) < 3 := by omega
  have HS : Hid (lateT b j t = max 0 (t.comes j - x.due)) := by show _ = _; unfold lateT; rw [hdue]
  clear hs1 hs2 hs3 hs4 hcs hdue hx
  simp only [Bk.cells9, stCells, List.length_map]
  go_enter Tryd.func77, Tryd.ntmps77
  go_upto_region 1 with fail
  obtain ⟨V, hV⟩ : ∃ V, (W.alloc (Obj.cells #[Value.slice (some ⟨g, q, none⟩) b.sts.length scap, Value.int IntKind.i64 b.wth, Value.int IntKind.i64 b.c0, Value.int IntKind.i64 b.c1, Value.int IntKind.i64 b.c2, k, Value.int IntKind.i64 b.rate, m, tv] 79)).alloc (Obj.cells t.cells.toArray 87) = V := ⟨_, rfl⟩
  have hBV : Below W.heap.size W V := by rw [← hV]; exact ((Below.refl _ _).alloc (Nat.le_refl _) _).alloc (by simp) _
  have hzV : V.heap.size = W.heap.size + 1 + 1 := by rw [← hV]; simp
  have v0 : V.cell? ⟨W.heap.size, 0, none⟩ = some (Value.slice (some ⟨g, q, none⟩) b.sts.length scap) := by rw [← hV, cell_old (by simp), cell_new]; rfl
  have v1 : V.cell? ⟨W.heap.size + 1, 1 + j, none⟩ = some (.int .i64 (t.comes j)) := tr_cell_a t (by rw [← hV]; exact (by simp : (W.alloc _).heap.size = W.heap.size + 1) ▸ World.alloc_heap_new _ _) (by omega)
  have v2 : V.cell? ⟨g, q + j * 7, none⟩ = some (.int .i64 x.due) := (hBV.cell (p := ⟨g, q + j * 7, none⟩) (by show g < _; omega)).trans c0
  have l0 : W.heap.size < V.heap.size := by omega
  have l1 : W.heap.size + 1 < V.heap.size := by omega
  have l2 : g < V.heap.size := by omega
  simp only [Tr.cells] at hV
  simp only [Tr.cells]
  rw [hV]
  clear hV c0 hzV
  have hw1 : IntKind.i64.wrap (t.comes j - x.due) = t.comes j - x.due := IntWalk.i64_in _ (by omega)
  refine wp_region_det (S := fun _ w' => (∀ b o, b < V.heap.size → w'.cell? ⟨b, o, none⟩ = V.cell? ⟨b, o, none⟩) ∧ Below V.heap.size V w') (by kernel_rfl) (by kernel_rfl) (hs0 V) ?_
  repeat
    apply det_cons
    · refine ⟨by rfl, fun L w hN hS => ?_⟩
      obtain ⟨hcc, hu⟩ := hS
      go_simp
      first
        | exact ⟨congrArg (Value.int .i64) (mx_eq _ _), fun _ _ _ => ⟨hcc, hu⟩⟩
        | exact ⟨rfl, fun _ _ _ => ⟨hcc, hu⟩⟩
    try simp only [Act.put, List.setIfInBounds_toArray, List.set_cons_zero, List.set_cons_succ]
  refine det_nil ?_
  rintro L w' hL ⟨hcc, hu⟩
  go_wp2
  all_goals (go_ret; exact ⟨ret_int (by rw [HS.out]; omega), hBV.trans (hu.mono (by omega))⟩)
def intCells (l : List Int) : List (List Value) := l.map fun x => [.int .i64 x]
set_option maxRecDepth 100000 in
set_option maxHeartbeats 400000 in
theorem sum_any (W : World) (v : Value) (xs : List Int) (n : Nat) (hs : SlOf W n 1 v (intCells xs)) (hb : ∀ x ∈ xs, -1000 ≤ x ∧ x ≤ 1000) (hl : xs.length ≤ 100) :
    Calls Tryd.prog 100 #[v] W fun e W' => e = .returned (.int .i64 xs.sum) ∧ W = W' := by
  obtain ⟨a, cap, rfl, h1, h2, h3, h4⟩ := hs
  simp only [intCells, List.length_map] at h1
  have H4 := Lib.hid h4
  have HB := Lib.hid hb
  clear h3 h4 hb h1 h2
  simp only [intCells, List.length_map]
  go_enter Tryd.func100, Tryd.ntmps100
  go_wp2_with fail
  go_loopg [3, 8] xs.length (fun n s i wx => W = wx ∧ ∃ (k : Nat) (acc : Int), k ≤ xs.length ∧ n = xs.length - k ∧ s = .int .i64 acc ∧ i = .int .i64 k ∧ acc + (xs.drop k).sum = xs.sum ∧ (-1000 * k ≤ acc ∧ acc ≤ 1000 * k))
  case atStart => exact ⟨rfl, 0, 0, by omega, rfl, rfl, rfl, by simp, by omega⟩
  case round =>
    obtain ⟨rfl, k, acc, hk, hgk, rfl, rfl, hs, hbd⟩ := hrel
    have HG := Lib.hid hgk
    have HS := Lib.hid hs
    clear hgk hs
    by_cases hlt : k < xs.length
    · obtain ⟨x, hx⟩ : ∃ x, xs[k]? = some x := ⟨_, List.getElem?_eq_getElem hlt⟩
      obtain ⟨g, q, e1, hg, hcs⟩ := sl_at H4.out (show (intCells xs)[k]? = some [.int .i64 x] by simp [intCells, hx])
      subst e1
      have hbx := HB.out x (List.mem_of_getElem? hx)
      have hdr : xs.drop k = x :: xs.drop (k + 1) := by
        rw [List.drop_eq_getElem_cons hlt]; rw [List.getElem?_eq_getElem hlt] at hx; cases hx; rfl
      have HD := Lib.hid hdr
      have r0 : W.cell? ⟨g, q + k * 1 + 0, none⟩ = some (.int .i64 x) := hcs 0 _ rfl
      simp only [Nat.mul_one, Nat.add_zero] at r0
      clear hx hdr hcs
      go_wp2_with fail
      go_roundg (xs.length - (k + 1))
      case measure => rw [HG.out]; omega
      case rel => exact ⟨rfl, k + 1, _, hlt, rfl, rfl, by go_num, by rw [← HS.out, HD.out]; simp [Int.add_assoc], by omega⟩
    · have hkl : k = xs.length := by omega
      have e1 : acc = xs.sum := by have := HS.out; rw [hkl, List.drop_length] at this; simpa using this
      subst e1
      clear hkl
      go_wp2_with fail
      go_ret
      exact ⟨rfl, rfl⟩
structure Bds (b : Bk) : Prop where
  l1 : 1 ≤ b.sts.length
  l3 : b.sts.length ≤ 3
  due : ∀ j, 0 ≤ b.due j ∧ b.due j ≤ 1000
  rate : 0 ≤ b.rate ∧ b.rate ≤ 99
theorem rough_slice {V : World} {B : Nat} (t : Tr) (h : V.heap[B]? = some (.cells t.cells.toArray 87)) : SlOf V V.heap.size 1 (.slice (some ⟨B, 4, none⟩) 3 3) (intCells [t.b0, t.b1, t.b2]) := by
  have hlt := (Array.getElem?_eq_some_iff.1 h).1
  refine ⟨_, 3, rfl, by simp [intCells], by simp [maxLen, intCells], by simp [intCells], fun _ => ⟨B, 4, rfl, hlt, fun i j r c hi hj => ?_⟩⟩
  rw [blk_cell h]
  have hi3 : i < 3 := by
    rcases Nat.lt_or_ge i 3 with h | h
    · exact h
    · rw [List.getElem?_eq_none (by simp [intCells]; omega)] at hi; cases hi
  have hii : i = 0 ∨ i = 1 ∨ i = 2 := by omega
  rcases hii with rfl | rfl | rfl <;> simp [intCells] at hi <;> subst hi <;> (rcases j with _ | j <;> simp at hj <;> subst hj <;> rfl)
theorem lateT_bd {b : Bk} {t : Tr} {j : Nat} (hj : j < 3) (ht : TrOk t) (hd : 0 ≤ b.due j ∧ b.due j ≤ 1000) : 0 ≤ lateT b j t ∧ lateT b j t ≤ 1000 := by
  have hc : 0 ≤ t.comes j ∧ t.comes j ≤ 1000 := by
    have hkk : j = 0 ∨ j = 1 ∨ j = 2 := by omega
    obtain ⟨_, h0, h1, h2, _⟩ := ht
    rcases hkk with rfl | rfl | rfl <;> assumption
  unfold lateT
  omega
theorem mul_bd {a x : Int} (h0 : 0 ≤ a) (h1 : a ≤ 99) (h2 : 0 ≤ x) (h3 : x ≤ 1000) : 0 ≤ a * x ∧ a * x ≤ 99000 :=
  ⟨Int.mul_nonneg h0 h2, by have := Int.mul_le_mul h1 h3 h2 (by omega); omega⟩
set_option maxRecDepth 100000 in
set_option maxHeartbeats 400000 in
theorem owes_any (W : World) (b : Bk) (s k m tv : Value) (n : Nat) (t : Tr) (hn : n ≤ W.heap.size) (hs : SlOf W n 7 s (stCells b.sts)) (hB : Bds b) (ht : TrOk t) :
    Calls Tryd.prog 84 #[.agg (b.cells9 s k m tv).toArray, .agg t.cells.toArray] W fun e W' => e = .returned (.int .i64 (owesT b t)) ∧ Below W.heap.size W W' := by
  obtain ⟨hl1, hl3, hdu, hr⟩ := hB
  have hlb := lateT_bd (b := b) (t := t) (j := b.sts.length - 1) (by omega) ht (hdu _)
  have hallb : 0 ≤ t.all ∧ t.all ≤ 1000 := by obtain ⟨_, _, _, _, h1, h2, h3⟩ := ht; unfold Tr.all; omega
  have hmb := mul_bd hr.1 hr.2 (x := min (lateT b (b.sts.length - 1) t) t.all) (by omega) (by omega)
  have hw : IntKind.i64.wrap (b.rate * min (lateT b (b.sts.length - 1) t) t.all) = owesT b t := IntWalk.i64_in _ (by omega)
  have hsum : ([t.b0, t.b1, t.b2] : List Int).sum = t.all := by simp [Tr.all]; omega
  simp only [Bk.cells9, Tr.cells]
  go_enter Tryd.func84, Tryd.ntmps84
  go_upto_region 1 with fail
  obtain ⟨V, hV⟩ : ∃ V, (W.alloc (Obj.cells (b.cells9 s k m tv).toArray 79)).alloc (Obj.cells t.cells.toArray 87) = V := ⟨_, rfl⟩
  have hBV : Below W.heap.size W V := by rw [← hV]; exact ((Below.refl _ _).alloc (Nat.le_refl _) _).alloc (by simp) _
  have hzV : V.heap.size = W.heap.size + 1 + 1 := by rw [← hV]; simp
  have hb0 : V.heap[W.heap.size]? = some (.cells (b.cells9 s k m tv).toArray 79) := by rw [← hV]; exact (Below.heap_alloc _ _ _ (by simp)).trans (World.alloc_heap_new _ _)
  have hb1 : V.heap[W.heap.size + 1]? = some (.cells t.cells.toArray 87) := by rw [← hV]; exact (by simp : (W.alloc _).heap.size = W.heap.size + 1) ▸ World.alloc_heap_new _ _
  have hsV : SlOf V W.heap.size 7 s (stCells b.sts) := (hs.below hn hBV).mono hn
  have hrs := rough_slice t hb1
  simp only [Bk.cells9, Tr.cells] at hV
  rw [hV]
  have v0 : V.cell? ⟨W.heap.size, 0, none⟩ = some s := blk_cell hb0
  have v1 : V.cell? ⟨W.heap.size, 1, none⟩ = some (.int .i64 b.wth) := blk_cell hb0
  have v2 : V.cell? ⟨W.heap.size, 2, none⟩ = some (.int .i64 b.c0) := blk_cell hb0
  have v3 : V.cell? ⟨W.heap.size, 3, none⟩ = some (.int .i64 b.c1) := blk_cell hb0
  have v4 : V.cell? ⟨W.heap.size, 4, none⟩ = some (.int .i64 b.c2) := blk_cell hb0
  have v5 : V.cell? ⟨W.heap.size, 5, none⟩ = some k := blk_cell hb0
  have v6 : V.cell? ⟨W.heap.size, 6, none⟩ = some (.int .i64 b.rate) := blk_cell hb0
  have v7 : V.cell? ⟨W.heap.size, 7, none⟩ = some m := blk_cell hb0
  have v8 : V.cell? ⟨W.heap.size, 8, none⟩ = some tv := blk_cell hb0
  have t0 : V.cell? ⟨W.heap.size + 1, 0, none⟩ = some (.int .i64 t.w) := blk_cell hb1
  have t1 : V.cell? ⟨W.heap.size + 1, 1, none⟩ = some (.int .i64 t.a0) := blk_cell hb1
  have t2 : V.cell? ⟨W.heap.size + 1, 2, none⟩ = some (.int .i64 t.a1) := blk_cell hb1
  have t3 : V.cell? ⟨W.heap.size + 1, 3, none⟩ = some (.int .i64 t.a2) := blk_cell hb1
  have t4 : V.cell? ⟨W.heap.size + 1, 4, none⟩ = some (.int .i64 t.b0) := blk_cell hb1
  have t5 : V.cell? ⟨W.heap.size + 1, 5, none⟩ = some (.int .i64 t.b1) := blk_cell hb1
  have t6 : V.cell? ⟨W.heap.size + 1, 6, none⟩ = some (.int .i64 t.b2) := blk_cell hb1
  have l0 : W.heap.size < V.heap.size := by omega
  have l1 : W.heap.size + 1 < V.heap.size := by omega
  have HSum := Lib.hid hsum
  have HSV := Lib.hid hsV
  have HRS := Lib.hid hrs
  clear hV hzV hsum hb0 hb1 hsV hrs hs
  refine wp_region_det (S := fun _ w' => (∀ b o, b < V.heap.size → w'.cell? ⟨b, o, none⟩ = V.cell? ⟨b, o, none⟩) ∧ Below V.heap.size V w') (by kernel_rfl) (by kernel_rfl) (hs0 V) ?_
  repeat
    apply det_cons
    · refine ⟨by rfl, fun L w hN hS => ?_⟩
      obtain ⟨hcc, hu⟩ := hS
      go_simp
      first
        | exact ⟨congrArg (Value.int .i64) (mn_eq _ _), fun _ _ _ => ⟨hcc, hu⟩⟩
        | exact ⟨rfl, fun _ _ _ => ⟨hcc, hu⟩⟩
        | (refine (last_any _ b s k m tv _ (b.sts.length - 1) (HSV.out.below (by omega) hu) (by omega)).mono ?_; rintro e w' ⟨rfl, hbb⟩; exact ⟨rfl, fun _ _ _ => hs1 hbb ⟨hcc, hu⟩⟩)
        | (refine (late_any _ b s k m tv W.heap.size t _ (by have := hu.size; omega) (HSV.out.below (by omega) hu) (by omega) hl3 ht (hdu _)).mono ?_; rintro e w' ⟨rfl, hbb⟩; exact ⟨rfl, fun _ _ _ => hs1 hbb ⟨hcc, hu⟩⟩)
        | (refine (sum_any _ _ [t.b0, t.b1, t.b2] _ (HRS.out.below (Nat.le_refl _) hu) (by obtain ⟨_, _, _, _, h1, h2, h3⟩ := ht; intro x hx; simp at hx; omega) (by simp)).mono ?_; rintro e w' ⟨rfl, rfl⟩; exact ⟨congrArg Ending.returned (congrArg (Value.int .i64) HSum.out), fun _ _ _ => ⟨hcc, hu⟩⟩)
    try simp only [Act.put, List.setIfInBounds_toArray, List.set_cons_zero, List.set_cons_succ]
  refine det_nil ?_
  rintro L w' hL ⟨hcc, hu⟩
  go_wp2
  all_goals (go_ret; exact ⟨rfl, hBV.trans (hu.mono (by omega))⟩)
set_option maxRecDepth 100000 in
set_option maxHeartbeats 400000 in
theorem blame_any (W : World) (b : Bk) (s k m tv : Value) (l : List Tr) (n : Nat) (hn : n ≤ W.heap.size) (hs : SlOf W n 7 s (stCells b.sts)) (hB : Bds b)
    (htv : SlOf W n 7 tv (trCells l)) (hok : ∀ t ∈ l, TrOk t) :
    Calls Tryd.prog 81 #[.agg (b.cells9 s k m tv).toArray] W fun e W' => e = .returned (.agg #[.int .i64 (l.countP (blamed b) : Nat), .int .i64 (l.length : Nat)]) ∧ Below W.heap.size W W' := by
  obtain ⟨ta, tcap, rfl, ht1, ht2, ht3, ht4⟩ := htv
  have H4 := Lib.hid ht4
  have HOK := Lib.hid hok
  have HS0 := Lib.hid hs
  obtain ⟨sa, scap, rfl, hs1, hs2, hs3, hs4⟩ := hs
  have H5 := Lib.hid hs4
  unfold maxLen at ht2
  have htl : (trCells l).length = l.length := by simp [trCells]
  rw [htl] at ht1 ht2
  have HTL := Lib.hid htl
  obtain ⟨hl1, hl3, hdu, hr⟩ := hB
  obtain ⟨j, hj⟩ : ∃ j, b.sts.length = j + 1 := ⟨b.sts.length - 1, by omega⟩
  have hj3 : j < 3 := by omega
  obtain ⟨x, hx⟩ : ∃ x, b.sts[j]? = some x := ⟨_, List.getElem?_eq_getElem (by omega)⟩
  have hdue : b.due j = x.due := by simp [Bk.due, hx]
  obtain ⟨g, q, hsa, hg, hcs⟩ := sl_at hs4 (show (stCells b.sts)[j]? = some x.cells by simp [stCells, hx])
  subst hsa
  have hxd := hdu j
  rw [hdue] at hxd
  have d0 : W.cell? ⟨g, q + j * 7, none⟩ = some (.int .i64 x.due) := hcs 0 _ rfl
  have HDU := Lib.hid hdu
  have HJ := Lib.hid hj
  have HDE := Lib.hid hdue
  have hsl : (stCells b.sts).length = j + 1 := by simp [stCells, hj]
  rw [hsl] at HS0
  clear ht4 ht3 hok hdu hs1 hs2 hs3 hs4 hcs hx hdue
  have hbl : ∀ t, blamed b t = (decide (0 < lateT b j t) && decide (t.comes j - t.all ≤ x.due)) := fun t => by
    unfold blamed; rw [hj, Nat.add_sub_cancel, HDE.out]
  have HBL := Lib.hid hbl
  clear hbl hj
  simp only [Bk.cells9, htl, hsl]
  clear htl hsl
  go_enter Tryd.func81, Tryd.ntmps81
  go_wp2_with fail
  obtain ⟨W1, hW1⟩ : ∃ W1, ((W.alloc (Obj.cells #[Value.slice (some ⟨g, q, none⟩) (j + 1) scap, Value.int IntKind.i64 b.wth, Value.int IntKind.i64 b.c0, Value.int IntKind.i64 b.c1, Value.int IntKind.i64 b.c2, k, Value.int IntKind.i64 b.rate, m, Value.slice ta l.length tcap] 79)).alloc (Obj.cells #[Value.int IntKind.i64 0, Value.int IntKind.i64 0] 99)).alloc (Obj.cells #[Value.int IntKind.i64 0, Value.int IntKind.i64 ↑l.length] 99) = W1 := ⟨_, rfl⟩
  rw [hW1]
  have hB1 : Below W.heap.size W W1 := by rw [← hW1]; exact (((Below.refl _ _).alloc (Nat.le_refl _) _).alloc (by simp) _).alloc (by simp; omega) _
  have hz1 : W1.heap.size = W.heap.size + 1 + 1 + 1 := by rw [← hW1]; simp
  have hx0 : W1.heap[W.heap.size]? = some (.cells #[Value.slice (some ⟨g, q, none⟩) (j + 1) scap, Value.int IntKind.i64 b.wth, Value.int IntKind.i64 b.c0, Value.int IntKind.i64 b.c1, Value.int IntKind.i64 b.c2, k, Value.int IntKind.i64 b.rate, m, Value.slice ta l.length tcap] 79) := by
    rw [← hW1, Below.heap_alloc _ _ _ (by simp; omega), Below.heap_alloc _ _ _ (by simp)]; exact World.alloc_heap_new _ _
  have hx1 : W1.heap[W.heap.size + 1]? = some (.cells #[Value.int IntKind.i64 0, Value.int IntKind.i64 0] 99) := by
    rw [← hW1, Below.heap_alloc _ _ _ (by simp)]; exact (by simp : (W.alloc _).heap.size = W.heap.size + 1) ▸ World.alloc_heap_new _ _
  have hx2 : W1.heap[W.heap.size + 1 + 1]? = some (.cells #[Value.int IntKind.i64 0, Value.int IntKind.i64 ↑l.length] 99) := by
    rw [← hW1]; exact (by simp : ((W.alloc _).alloc _).heap.size = W.heap.size + 1 + 1) ▸ World.alloc_heap_new _ _
  have HX0 := Lib.hid hx0
  have HX1 := Lib.hid hx1
  have HX2 := Lib.hid hx2
  have HZ1 := Lib.hid hz1
  clear hx0 hx1 hx2 hW1
  go_loopg [13] l.length (fun n i wx => ∃ (q : Nat) (so : Nat), q ≤ l.length ∧ n = l.length - q ∧ i = .int .i64 q ∧ so ≤ q ∧ so + (l.drop q).countP (blamed b) = l.countP (blamed b) ∧ Below (W.heap.size + 1 + 1) W1 wx ∧
    wx.heap[W.heap.size + 1 + 1]? = some (.cells #[.int .i64 so, .int .i64 l.length] 99))
  case atStart => exact ⟨0, 0, by omega, rfl, rfl, by omega, by simp, Below.refl _ _, HX2.out⟩
  case round =>
    obtain ⟨q1, so, hq1, hgk, rfl, hso, hcnt, hbr, hV2⟩ := hrel
    have HG := Lib.hid hgk
    have HC := Lib.hid hcnt
    have HV2 := Lib.hid hV2
    have hrz := hbr.size
    clear hgk hcnt
    have hz1 := HZ1.out
    have hz2 : W.heap.size + 1 + 1 < W1.heap.size := by omega
    by_cases hlt : q1 < l.length
    · obtain ⟨t, ht⟩ : ∃ t, l[q1]? = some t := ⟨_, List.getElem?_eq_getElem hlt⟩
      obtain ⟨g1, p1, e1, hg1, hcs⟩ := sl_at H4.out (show (trCells l)[q1]? = some t.cells by rw [trCells, List.getElem?_map, ht]; rfl)
      subst e1
      have okt := HOK.out t (List.mem_of_getElem? ht)
      have hdr : l.drop q1 = t :: l.drop (q1 + 1) := by
        rw [List.drop_eq_getElem_cons hlt]; rw [List.getElem?_eq_getElem hlt] at ht; cases ht; rfl
      have HD := Lib.hid hdr
      clear ht hdr
      have hWr : Below W.heap.size W wr := hB1.trans (hbr.mono (by omega))
      have hr : ∀ j c, t.cells[j]? = some c → wr.cell? ⟨g1, p1 + q1 * 7 + j, none⟩ = some c := fun j c hj =>
        (hWr.cell (p := ⟨g1, p1 + q1 * 7 + j, none⟩) (by show g1 < _; omega)).trans (hcs j c hj)
      have r0 : wr.cell? ⟨g1, p1 + q1 * 7, none⟩ = some (.int .i64 t.w) := hr 0 _ rfl
      have r1 : wr.cell? ⟨g1, p1 + q1 * 7 + 1, none⟩ = some (.int .i64 t.a0) := hr 1 _ rfl
      have r2 : wr.cell? ⟨g1, p1 + q1 * 7 + 2, none⟩ = some (.int .i64 t.a1) := hr 2 _ rfl
      have r3 : wr.cell? ⟨g1, p1 + q1 * 7 + 3, none⟩ = some (.int .i64 t.a2) := hr 3 _ rfl
      have r4 : wr.cell? ⟨g1, p1 + q1 * 7 + 4, none⟩ = some (.int .i64 t.b0) := hr 4 _ rfl
      have r5 : wr.cell? ⟨g1, p1 + q1 * 7 + 5, none⟩ = some (.int .i64 t.b1) := hr 5 _ rfl
      have r6 : wr.cell? ⟨g1, p1 + q1 * 7 + 6, none⟩ = some (.int .i64 t.b2) := hr 6 _ rfl
      clear hr hcs hV2
      go_upto_region 5 with fail
      obtain ⟨V, hV⟩ : ∃ V, wr.alloc (Obj.cells t.cells.toArray 87) = V := ⟨_, rfl⟩
      have hVW : Below W.heap.size W V := by rw [← hV]; exact hWr.alloc (by omega) _
      have hVz : V.heap.size = wr.heap.size + 1 := by rw [← hV]; simp
      have hV1 : Below (W.heap.size + 1 + 1) W1 V := by rw [← hV]; exact hbr.alloc (by omega) _
      have hV0 : V.heap[W.heap.size]? = _ := (hV1.block W.heap.size (by omega)).trans HX0.out
      have hVt : V.heap[wr.heap.size]? = some (.cells t.cells.toArray 87) := by rw [← hV]; exact World.alloc_heap_new _ _
      have hVv : V.heap[W.heap.size + 1 + 1]? = some (.cells #[.int .i64 so, .int .i64 l.length] 99) := by rw [← hV]; exact (Below.heap_alloc _ _ _ (by omega)).trans HV2.out
      simp only [Tr.cells] at hV
      rw [hV]
      have v0 : V.cell? ⟨W.heap.size, 0, none⟩ = some (.slice (some ⟨g, q, none⟩) (j + 1) scap) := blk_cell hV0
      have v1 : V.cell? ⟨W.heap.size, 1, none⟩ = some (.int .i64 b.wth) := blk_cell hV0
      have v2 : V.cell? ⟨W.heap.size, 2, none⟩ = some (.int .i64 b.c0) := blk_cell hV0
      have v3 : V.cell? ⟨W.heap.size, 3, none⟩ = some (.int .i64 b.c1) := blk_cell hV0
      have v4 : V.cell? ⟨W.heap.size, 4, none⟩ = some (.int .i64 b.c2) := blk_cell hV0
      have v5 : V.cell? ⟨W.heap.size, 5, none⟩ = some k := blk_cell hV0
      have v6 : V.cell? ⟨W.heap.size, 6, none⟩ = some (.int .i64 b.rate) := blk_cell hV0
      have v7 : V.cell? ⟨W.heap.size, 7, none⟩ = some m := blk_cell hV0
      have v8 : V.cell? ⟨W.heap.size, 8, none⟩ = some (.slice (some ⟨g1, p1, none⟩) l.length tcap) := blk_cell hV0
      have t0 : V.cell? ⟨wr.heap.size, 0, none⟩ = some (.int .i64 t.w) := blk_cell hVt
      have t1 : V.cell? ⟨wr.heap.size, 1, none⟩ = some (.int .i64 t.a0) := blk_cell hVt
      have t2 : V.cell? ⟨wr.heap.size, 2, none⟩ = some (.int .i64 t.a1) := blk_cell hVt
      have t3 : V.cell? ⟨wr.heap.size, 3, none⟩ = some (.int .i64 t.a2) := blk_cell hVt
      have t4 : V.cell? ⟨wr.heap.size, 4, none⟩ = some (.int .i64 t.b0) := blk_cell hVt
      have t5 : V.cell? ⟨wr.heap.size, 5, none⟩ = some (.int .i64 t.b1) := blk_cell hVt
      have t6 : V.cell? ⟨wr.heap.size, 6, none⟩ = some (.int .i64 t.b2) := blk_cell hVt
      have tj : V.cell? ⟨wr.heap.size, 1 + j, none⟩ = some (.int .i64 (t.comes j)) := tr_cell_a t hVt hj3
      have d1 : V.cell? ⟨g, q + j * 7, none⟩ = some (.int .i64 x.due) := (hVW.cell (p := ⟨g, q + j * 7, none⟩) (by show g < _; omega)).trans d0
      have l0 : W.heap.size < V.heap.size := by omega
      have l1 : wr.heap.size < V.heap.size := by omega
      have l2 : g < V.heap.size := by omega
      have i1 : (j : Int) < 3 := by omega
      have i2 : (j : Int) < (j : Int) + 1 := by omega
      have hsV : SlOf V W.heap.size 7 (.slice (some ⟨g, q, none⟩) (j + 1) scap) (stCells b.sts) := (HS0.out.below hn hVW).mono hn
      have hrs := rough_slice t hVt
      have hcb : 0 ≤ t.comes j ∧ t.comes j ≤ 1000 := by
        have hkk : j = 0 ∨ j = 1 ∨ j = 2 := by omega
        obtain ⟨_, h0, h1, h2, _⟩ := okt
        rcases hkk with rfl | rfl | rfl <;> assumption
      have hallb : 0 ≤ t.all ∧ t.all ≤ 1000 := by obtain ⟨_, _, _, _, h1, h2, h3⟩ := okt; unfold Tr.all; omega
      have hw1 : IntKind.i64.wrap (t.comes j - t.all) = t.comes j - t.all := IntWalk.i64_in _ (by omega)
      have hsum : ([t.b0, t.b1, t.b2] : List Int).sum = t.all := by simp [Tr.all]; omega
      have HSV := Lib.hid hsV
      have HRS := Lib.hid hrs
      have HSum := Lib.hid hsum
      have hzz3 := hV1.size
      have HVv := Lib.hid hVv
      have HV0 := Lib.hid hV0
      clear r0 r1 r2 r3 r4 r5 r6 hV hV0 hVt hVv hsV hrs hsum hVz hz1
      have hz3 : W.heap.size + 1 + 1 < V.heap.size := by have := hV1.size; omega
      by_cases hlate : 0 < lateT b j t
      · by_cases hle : t.comes j - t.all ≤ x.due
        · refine wp_region_det (S := fun _ w' => (∀ b o, b < V.heap.size → w'.cell? ⟨b, o, none⟩ = V.cell? ⟨b, o, none⟩) ∧ Below V.heap.size V w') (by kernel_rfl) (by kernel_rfl) (hs0 V) ?_
          repeat
            apply det_cons
            · refine ⟨by rfl, fun L w hN hS => ?_⟩
              obtain ⟨hcc, hu⟩ := hS
              go_simp
              first
                | exact ⟨rfl, fun _ _ _ => ⟨hcc, hu⟩⟩
                | (refine (last_any _ b _ k m _ _ j (HSV.out.below (by omega) hu) HJ.out).mono ?_; rintro e w' ⟨rfl, hbb⟩; exact ⟨rfl, fun _ _ _ => hs1 hbb ⟨hcc, hu⟩⟩)
                | (refine (late_any _ b _ k m _ W.heap.size t j (by have := hu.size; omega) (HSV.out.below (by omega) hu) (by have := HJ.out; omega) hl3 okt (HDU.out _)).mono ?_; rintro e w' ⟨rfl, hbb⟩; exact ⟨rfl, fun _ _ _ => hs1 hbb ⟨hcc, hu⟩⟩)
                | (refine (sum_any _ _ [t.b0, t.b1, t.b2] _ (HRS.out.below (Nat.le_refl _) hu) (by obtain ⟨_, _, _, _, h1, h2, h3⟩ := okt; intro x hx; simp at hx; omega) (by simp)).mono ?_; rintro e w' ⟨rfl, rfl⟩; exact ⟨congrArg Ending.returned (congrArg (Value.int .i64) HSum.out), fun _ _ _ => ⟨hcc, hu⟩⟩)
            try simp only [Act.put, List.setIfInBounds_toArray, List.set_cons_zero, List.set_cons_succ]
          refine det_nil ?_
          rintro L w' hL ⟨hcc, hu⟩
          have hv2 := (hu.block _ hz3).trans HVv.out
          have hsz := hu.size
          have c0 : w'.cell? ⟨W.heap.size + 1 + 1, 0, none⟩ = some (.int .i64 so) := blk_cell hv2
          have c1 : w'.cell? ⟨W.heap.size + 1 + 1, 1, none⟩ = some (.int .i64 l.length) := blk_cell hv2
          have cf := blk_frozen hv2
          have HV3 := Lib.hid hv2
          have hbb2 : Below (W.heap.size + 1 + 1) W1 w' := hV1.trans (hu.mono (by omega))
          clear hcc hL hv2
          go_wp2_with fail
          go_roundg (l.length - (q1 + 1))
          case measure => rw [HG.out]; omega
          case rel => exact ⟨q1 + 1, so + 1, hlt, rfl, by go_num, by omega, by rw [← HC.out, HD.out, List.countP_cons, HBL.out]; simp only [hlate, hle, decide_true, Bool.and_self, if_true]; omega, hbb2.setCell (by simp) _, by have := blk_set (j := 0) (v := .int .i64 ((so : Int) + 1)) HV3.out; exact this⟩
        · have hle' : x.due < t.comes j - t.all := by omega
          refine wp_region_det (S := fun _ w' => (∀ b o, b < V.heap.size → w'.cell? ⟨b, o, none⟩ = V.cell? ⟨b, o, none⟩) ∧ Below V.heap.size V w') (by kernel_rfl) (by kernel_rfl) (hs0 V) ?_
          repeat
            apply det_cons
            · refine ⟨by rfl, fun L w hN hS => ?_⟩
              obtain ⟨hcc, hu⟩ := hS
              go_simp
              first
                | exact ⟨rfl, fun _ _ _ => ⟨hcc, hu⟩⟩
                | (refine (last_any _ b _ k m _ _ j (HSV.out.below (by omega) hu) HJ.out).mono ?_; rintro e w' ⟨rfl, hbb⟩; exact ⟨rfl, fun _ _ _ => hs1 hbb ⟨hcc, hu⟩⟩)
                | (refine (late_any _ b _ k m _ W.heap.size t j (by have := hu.size; omega) (HSV.out.below (by omega) hu) (by have := HJ.out; omega) hl3 okt (HDU.out _)).mono ?_; rintro e w' ⟨rfl, hbb⟩; exact ⟨rfl, fun _ _ _ => hs1 hbb ⟨hcc, hu⟩⟩)
                | (refine (sum_any _ _ [t.b0, t.b1, t.b2] _ (HRS.out.below (Nat.le_refl _) hu) (by obtain ⟨_, _, _, _, h1, h2, h3⟩ := okt; intro x hx; simp at hx; omega) (by simp)).mono ?_; rintro e w' ⟨rfl, rfl⟩; exact ⟨congrArg Ending.returned (congrArg (Value.int .i64) HSum.out), fun _ _ _ => ⟨hcc, hu⟩⟩)
            try simp only [Act.put, List.setIfInBounds_toArray, List.set_cons_zero, List.set_cons_succ]
          refine det_nil ?_
          rintro L w' hL ⟨hcc, hu⟩
          have hv2 := (hu.block _ hz3).trans HVv.out
          have hsz := hu.size
          have c0 : w'.cell? ⟨W.heap.size + 1 + 1, 0, none⟩ = some (.int .i64 so) := blk_cell hv2
          have c1 : w'.cell? ⟨W.heap.size + 1 + 1, 1, none⟩ = some (.int .i64 l.length) := blk_cell hv2
          have cf := blk_frozen hv2
          have HV3 := Lib.hid hv2
          have hbb2 : Below (W.heap.size + 1 + 1) W1 w' := hV1.trans (hu.mono (by omega))
          clear hcc hL hv2
          go_wp2_with fail
          go_roundg (l.length - (q1 + 1))
          case measure => rw [HG.out]; omega
          case rel => exact ⟨q1 + 1, so, hlt, rfl, by go_num, by omega, by rw [← HC.out, HD.out, List.countP_cons, HBL.out]; simp [hlate, hle], hbb2, HV3.out⟩
      · have hlate' : lateT b j t ≤ 0 := by omega
        have hle : True := trivial
        refine wp_region_det (S := fun _ w' => (∀ b o, b < V.heap.size → w'.cell? ⟨b, o, none⟩ = V.cell? ⟨b, o, none⟩) ∧ Below V.heap.size V w') (by kernel_rfl) (by kernel_rfl) (hs0 V) ?_
        repeat
          first
            | (apply det_skip
               · exact ⟨by rfl, fun L w hN hS => fun _ _ _ => hS⟩)
            | (apply det_cons
               · refine ⟨by rfl, fun L w hN hS => ?_⟩
                 obtain ⟨hcc, hu⟩ := hS
                 go_simp
                 first
                   | exact ⟨rfl, fun _ _ _ => ⟨hcc, hu⟩⟩
                   | (refine (last_any _ b _ k m _ _ j (HSV.out.below (by omega) hu) HJ.out).mono ?_; rintro e w' ⟨rfl, hbb⟩; exact ⟨rfl, fun _ _ _ => hs1 hbb ⟨hcc, hu⟩⟩)
                   | (refine (late_any _ b _ k m _ W.heap.size t j (by have := hu.size; omega) (HSV.out.below (by omega) hu) (by have := HJ.out; omega) hl3 okt (HDU.out _)).mono ?_; rintro e w' ⟨rfl, hbb⟩; exact ⟨rfl, fun _ _ _ => hs1 hbb ⟨hcc, hu⟩⟩)
                   | (refine (sum_any _ _ [t.b0, t.b1, t.b2] _ (HRS.out.below (Nat.le_refl _) hu) (by obtain ⟨_, _, _, _, h1, h2, h3⟩ := okt; intro x hx; simp at hx; omega) (by simp)).mono ?_; rintro e w' ⟨rfl, rfl⟩; exact ⟨congrArg Ending.returned (congrArg (Value.int .i64) HSum.out), fun _ _ _ => ⟨hcc, hu⟩⟩))
          try simp only [Act.put, List.setIfInBounds_toArray, List.set_cons_zero, List.set_cons_succ]
        refine det_nil ?_
        rintro L w' hL ⟨hcc, hu⟩
        have hv2 := (hu.block _ hz3).trans HVv.out
        have hsz := hu.size
        have c0 : w'.cell? ⟨W.heap.size + 1 + 1, 0, none⟩ = some (.int .i64 so) := blk_cell hv2
        have c1 : w'.cell? ⟨W.heap.size + 1 + 1, 1, none⟩ = some (.int .i64 l.length) := blk_cell hv2
        have cf := blk_frozen hv2
        have HV3 := Lib.hid hv2
        have hbb2 : Below (W.heap.size + 1 + 1) W1 w' := hV1.trans (hu.mono (by omega))
        clear hcc hL hv2
        go_wp2_with fail
        go_roundg (l.length - (q1 + 1))
        case measure => rw [HG.out]; omega
        case rel => exact ⟨q1 + 1, so, hlt, rfl, by go_num, by omega, by rw [← HC.out, HD.out, List.countP_cons, HBL.out]; simp; omega, hbb2, HV3.out⟩
    · have hkl : q1 = l.length := by omega
      have e1 : so = l.countP (blamed b) := by have := HC.out; rw [hkl, List.drop_length] at this; simpa using this
      have hx1 := (hbr.block (W.heap.size + 1) (by omega)).trans HX1.out
      have c0 : wr.cell? ⟨W.heap.size + 1 + 1, 0, none⟩ = some (.int .i64 (l.countP (blamed b) : Nat)) := by rw [← e1]; exact blk_cell HV2.out
      have c1 : wr.cell? ⟨W.heap.size + 1 + 1, 1, none⟩ = some (.int .i64 l.length) := blk_cell HV2.out
      have r0 : wr.cell? ⟨W.heap.size + 1, 0, none⟩ = some (.int .i64 0) := blk_cell hx1
      have r1 : wr.cell? ⟨W.heap.size + 1, 1, none⟩ = some (.int .i64 0) := blk_cell hx1
      have rf := blk_frozen hx1
      clear hkl e1 hx1 hV2
      go_wp2_with fail
      exact bodyPost_ret (v := .agg #[.int .i64 (l.countP (blamed b) : Nat), .int .i64 l.length]) (by simp [results, Tryd.results81, go_sem, r0, r1]) rfl ⟨rfl, ((hB1.trans (hbr.mono (by omega))).setCell (by simp) _).setCell (by simp) _⟩
end Go.Proofs.YtbhjfojbjpbdbaaDoor
namespace Go.Proofs.YtbhjfojbjpbdbaaDoor
open Go.RowKit
structure Glob (W : World) : Prop where
  k0 : W.cell? ⟨0, 0, none⟩ = some (.func (.func 125) #[] #[])
  k1 : W.cell? ⟨0, 1, none⟩ = some (.func (.func 123) #[] #[])
  n0 : W.cell? ⟨1, 0, none⟩ = some (.int .i64 (-1))
  n1 : W.cell? ⟨1, 1, none⟩ = some (.int .i64 (-1))
theorem lt_of_cell {W : World} {p : Addr} {v : Value} (h : W.cell? p = some v) : p.block < W.heap.size := by
  rcases Nat.lt_or_ge p.block W.heap.size with h1 | h1
  · exact h1
  · unfold World.cell? at h
    rw [Array.getElem?_eq_none h1] at h
    cases h
theorem Glob.below {W W' : World} {B : Nat} (h : Glob W) (hB : 2 ≤ B) (hb : Below B W W') : Glob W' :=
  ⟨(hb.cell (p := ⟨0, 0, none⟩) (by show 0 < B; omega)).trans h.k0, (hb.cell (p := ⟨0, 1, none⟩) (by show 0 < B; omega)).trans h.k1,
   (hb.cell (p := ⟨1, 0, none⟩) (by show 1 < B; omega)).trans h.n0, (hb.cell (p := ⟨1, 1, none⟩) (by show 1 < B; omega)).trans h.n1⟩
theorem Glob.size {W : World} (h : Glob W) : 2 ≤ W.heap.size := lt_of_cell h.n0
theorem ne_of_map {W : World} {M : Nat} {es : Array MapEntry} {c : Nat} {p : Addr} {v : Value} (hM : W.heap[M]? = some (.map es c)) (h : W.cell? p = some v) : p.block ≠ M := by
  intro e
  unfold World.cell? at h
  rw [e, hM] at h
  cases h
def CksOk (l : List Ck) : Prop := ∀ c ∈ l, (0 ≤ c.st ∧ c.st ≤ 2) ∧ (0 ≤ c.rd ∧ c.rd ≤ 600) ∧ (0 ≤ c.er ∧ c.er ≤ 5)
set_option maxRecDepth 100000 in
set_option maxHeartbeats 800000 in
theorem right_any (W : World) (b : Bk) (s k tv : Value) (M n : Nat) (sp mi : Int) (hn : n ≤ W.heap.size) (hk : SlOf W n 3 k (ckCells b.cks)) (hC : CacheOk W M b.cks) (hG : Glob W) (hok : CksOk b.cks) (hl : b.cks.length ≤ 1000)
    (hs : 0 ≤ sp ∧ sp ≤ 2) (hm : 0 ≤ mi ∧ mi ≤ 1000) :
    Calls Tryd.prog 103 #[.agg (b.cells9 s k (.map (some M)) tv).toArray, .agg #[.int .i64 sp, .int .i64 mi]] W fun e W' =>
      e = .returned (.bool (rightL b.cks sp mi)) ∧ Upd (· = M) W W' ∧ CacheOk W' M b.cks := by
  obtain ⟨ka, kcap, rfl, hk1, hk2, hk3, hk4⟩ := hk
  have hkl : (ckCells b.cks).length = b.cks.length := by simp [ckCells]
  have H4 := Lib.hid hk4
  have HOK := Lib.hid hok
  have hMlt := hC.lt
  obtain ⟨W1, hW1⟩ : ∃ W1, (W.alloc (Obj.cells #[s, Value.int IntKind.i64 b.wth, Value.int IntKind.i64 b.c0, Value.int IntKind.i64 b.c1, Value.int IntKind.i64 b.c2, Value.slice ka b.cks.length kcap, Value.int IntKind.i64 b.rate, Value.map (some M), tv] 79)).alloc (Obj.cells #[.int .i64 sp, .int .i64 mi] 115) = W1 := ⟨_, rfl⟩
  have hB1 : Below W.heap.size W W1 := by rw [← hW1]; exact ((Below.refl _ _).alloc (Nat.le_refl _) _).alloc (by simp) _
  have hz1 : W1.heap.size = W.heap.size + 1 + 1 := by rw [← hW1]; simp
  have hx0 : W1.heap[W.heap.size]? = some (.cells #[s, Value.int IntKind.i64 b.wth, Value.int IntKind.i64 b.c0, Value.int IntKind.i64 b.c1, Value.int IntKind.i64 b.c2, Value.slice ka b.cks.length kcap, Value.int IntKind.i64 b.rate, Value.map (some M), tv] 79) := by
    rw [← hW1, Below.heap_alloc _ _ _ (by simp)]; exact World.alloc_heap_new _ _
  have hx1 : W1.heap[W.heap.size + 1]? = some (.cells #[.int .i64 sp, .int .i64 mi] 115) := by
    rw [← hW1]; exact (by simp : (W.alloc _).heap.size = W.heap.size + 1) ▸ World.alloc_heap_new _ _
  have hC1 : CacheOk W1 M b.cks := hC.of_block (hB1.block M hMlt)
  obtain ⟨v, ok, hrun, hv⟩ := look115 hC1 sp mi
  have hv' : ok = true → v = rightL b.cks sp mi := fun h => hv h (by omega)
  have v5 : W1.cell? ⟨W.heap.size, 5, none⟩ = some (Value.slice ka b.cks.length kcap) := blk_cell hx0
  have v7 : W1.cell? ⟨W.heap.size, 7, none⟩ = some (Value.map (some M)) := blk_cell hx0
  have s0 : W1.cell? ⟨W.heap.size + 1, 0, none⟩ = some (.int .i64 sp) := blk_cell hx1
  have s1 : W1.cell? ⟨W.heap.size + 1, 1, none⟩ = some (.int .i64 mi) := blk_cell hx1
  have hG1 := hG.below hG.size hB1
  have n0 := hG1.n0
  have n1 := hG1.n1
  have HX0 := Lib.hid hx0
  have HX1 := Lib.hid hx1
  clear hk1 hk3 hk4 hok hv hx0 hx1 hC hG hG1
  simp only [Bk.cells9, hkl]
  clear hkl
  go_enter Tryd.func103, Tryd.ntmps103
  go_upto_region 1 with fail
  try rw [hW1]
  have hsne : ¬ sp = -1 := by omega
  clear hW1
  cases ok with
  | true =>
    obtain rfl := hv' rfl
    clear hv'
    go_wp2
    go_ret
    exact ⟨rfl, Upd.of_below hB1, hC1⟩
  | false =>
    clear hv'
    go_wp2_with fail
    go_loopg [7, 28] b.cks.length (fun n is i wx => ∃ (q : Nat) (o : Bool), q ≤ b.cks.length ∧ n = b.cks.length - q ∧ is = .bool o ∧ i = .int .i64 q ∧ (o && (b.cks.drop q).all (clockOk sp mi)) = rightL b.cks sp mi ∧ Below W1.heap.size W1 wx)
    case atStart => exact ⟨0, true, by omega, rfl, rfl, rfl, by simp [rightL], Below.refl _ _⟩
    case round =>
      obtain ⟨q1, o, hq1, hgk, rfl, rfl, hT, hbr⟩ := hrel
      have HG := Lib.hid hgk
      have HT := Lib.hid hT
      have hrz := hbr.size
      clear hgk hT hrun
      have u0 : wr.cell? ⟨W.heap.size + 1, 0, none⟩ = some (.int .i64 sp) := (hbr.cell (p := ⟨W.heap.size + 1, 0, none⟩) (by show W.heap.size + 1 < _; omega)).trans s0
      have u1 : wr.cell? ⟨W.heap.size + 1, 1, none⟩ = some (.int .i64 mi) := (hbr.cell (p := ⟨W.heap.size + 1, 1, none⟩) (by show W.heap.size + 1 < _; omega)).trans s1
      have lz : W.heap.size + 1 < wr.heap.size := by omega
      by_cases hlt : q1 < b.cks.length
      · obtain ⟨x, hx⟩ : ∃ x, b.cks[q1]? = some x := ⟨_, List.getElem?_eq_getElem hlt⟩
        obtain ⟨g, p, e1, hg, hcs⟩ := sl_at H4.out (show (ckCells b.cks)[q1]? = some x.cells by simp [ckCells, hx])
        subst e1
        obtain ⟨okx0, okx1, okx2⟩ := HOK.out x (List.mem_of_getElem? hx)
        have hdr : b.cks.drop q1 = x :: b.cks.drop (q1 + 1) := by
          rw [List.drop_eq_getElem_cons hlt]; rw [List.getElem?_eq_getElem hlt] at hx; cases hx; rfl
        have HD := Lib.hid hdr
        have hr : ∀ j c, x.cells[j]? = some c → wr.cell? ⟨g, p + q1 * 3 + j, none⟩ = some c := fun j c hj =>
          ((hB1.trans (hbr.mono (by omega))).cell (p := ⟨g, p + q1 * 3 + j, none⟩) (by show g < _; omega)).trans (hcs j c hj)
        have r0 : wr.cell? ⟨g, p + q1 * 3, none⟩ = some (.int .i64 x.st) := hr 0 _ rfl
        have r1 : wr.cell? ⟨g, p + q1 * 3 + 1, none⟩ = some (.int .i64 x.rd) := hr 1 _ rfl
        have r2 : wr.cell? ⟨g, p + q1 * 3 + 2, none⟩ = some (.int .i64 x.er) := hr 2 _ rfl
        clear hx hdr hr hcs
        cases o with
        | false =>
          go_wp2_with fail
          go_roundg (b.cks.length - (q1 + 1))
          case measure => rw [HG.out]; omega
          case rel => exact ⟨q1 + 1, false, hlt, rfl, rfl, by go_num, by rw [← HT.out]; rfl, hbr.alloc (by omega) _⟩
        | true =>
          by_cases hst : x.st = sp
          · have hst1 : (x.st != sp) = false := by simp [hst]
            have HST := Lib.hid hst
            clear hst
            go_wp2_with (go_at_call 66; refine (within_any _ _ _ _).mono ?_; rintro e w' ⟨rfl, rfl⟩)
            go_roundg (b.cks.length - (q1 + 1))
            case measure => rw [HG.out]; omega
            case rel => exact ⟨q1 + 1, _, hlt, rfl, rfl, by go_num, by rw [← HT.out, HD.out]; simp [clockOk, HST.out], hbr.alloc (by omega) _⟩
          · have hst1 : (x.st != sp) = true := by simp [hst]
            have HST := Lib.hid hst
            clear hst
            go_wp2_with fail
            go_roundg (b.cks.length - (q1 + 1))
            case measure => rw [HG.out]; omega
            case rel => exact ⟨q1 + 1, true, hlt, rfl, rfl, by go_num, by rw [← HT.out, HD.out]; simp [clockOk, HST.out], hbr.alloc (by omega) _⟩
      · have hkl : q1 = b.cks.length := by omega
        have hT1 : o = rightL b.cks sp mi := by have := HT.out; rw [hkl, List.drop_length] at this; simpa using this
        subst hT1
        have hCr : CacheOk wr M b.cks := hC1.of_block (hbr.block M hC1.lt)
        obtain ⟨ob, hput, hCp⟩ := put115 hCr sp mi _ rfl
        have u7 : wr.cell? ⟨W.heap.size, 7, none⟩ = some (Value.map (some M)) := (hbr.cell (p := ⟨W.heap.size, 7, none⟩) (by show W.heap.size < _; omega)).trans v7
        clear hkl HT
        go_wp2_with fail
        go_ret
        exact ⟨rfl, Upd.putObj (S := (· = M)) ((Upd.of_below hB1).trans (Upd.of_below hbr)) (.inl rfl) _, hCp⟩
def natCells (l : List Nat) : List (List Value) := l.map fun (x : Nat) => [.int .i64 (x : Int)]
set_option maxRecDepth 100000 in
set_option maxHeartbeats 400000 in
theorem index_any (W : World) (v : Value) (l : List Nat) (n k : Nat) (hs : SlOf W n 1 v (natCells l)) :
    Calls Tryd.prog 101 #[v, .int .i64 k] W fun e W' => (∃ r : Int, e = .returned (.int .i64 r) ∧ (0 ≤ r ↔ l.contains k = true)) ∧ W = W' := by
  obtain ⟨a, cap, rfl, h1, h2, h3, h4⟩ := hs
  simp only [natCells, List.length_map] at h1 h2
  unfold maxLen at h2
  have H4 := Lib.hid h4
  clear h3 h4
  simp only [natCells, List.length_map]
  obtain ⟨Post, hPost⟩ : ∃ Post : Ending → World → Prop, Post = fun e W' => (∃ r : Int, e = .returned (.int .i64 r) ∧ (0 ≤ r ↔ l.contains k = true)) ∧ W = W' := ⟨_, rfl⟩
  have HP := Lib.hid hPost
  rw [← hPost]
  clear hPost
  go_enter Tryd.func101, Tryd.ntmps101
  go_wp2_with fail
  go_loopg [8] l.length (fun n i wx => W = wx ∧ ∃ (q : Nat), q ≤ l.length ∧ n = l.length - q ∧ i = .int .i64 q ∧ (l.contains k = (l.drop q).contains k))
  case atStart => exact ⟨rfl, 0, by omega, rfl, rfl, by simp⟩
  case round =>
    obtain ⟨rfl, q1, hq1, hgk, rfl, hT⟩ := hrel
    have HG := Lib.hid hgk
    have HT := Lib.hid hT
    clear hgk hT
    by_cases hlt : q1 < l.length
    · obtain ⟨x, hx⟩ : ∃ x, l[q1]? = some x := ⟨_, List.getElem?_eq_getElem hlt⟩
      obtain ⟨g, p, e1, hg, hcs⟩ := sl_at H4.out (show (natCells l)[q1]? = some [.int .i64 (x : Int)] by simp [natCells, hx])
      subst e1
      have hdr : l.drop q1 = x :: l.drop (q1 + 1) := by
        rw [List.drop_eq_getElem_cons hlt]; rw [List.getElem?_eq_getElem hlt] at hx; cases hx; rfl
      have HD := Lib.hid hdr
      have r0 : W.cell? ⟨g, p + q1 * 1 + 0, none⟩ = some (.int .i64 (x : Int)) := hcs 0 _ rfl
      simp only [Nat.mul_one, Nat.add_zero] at r0
      clear hx hdr hcs
      by_cases hkx : k = x
      · subst hkx
        go_wp2_with fail
        rw [HP.out]
        exact ⟨⟨_, rfl, by rw [HT.out, HD.out]; simp⟩, rfl⟩
      · have hkx1 : ((k : Int) == (x : Int)) = false := by simp; omega
        have hkx2 : (k == x) = false := by simp [hkx]
        go_wp2_with fail
        go_roundg (l.length - (q1 + 1))
        case measure => rw [HG.out]; omega
        case rel => exact ⟨rfl, q1 + 1, hlt, rfl, by go_num, by rw [HT.out, HD.out, List.contains_cons, hkx2]; simp⟩
    · have hkl : q1 = l.length := by omega
      have hT1 : l.contains k = false := by rw [HT.out, hkl, List.drop_length]; rfl
      have HT1 := Lib.hid hT1
      clear hkl HT hT1
      go_wp2_with fail
      rw [HP.out]
      exact ⟨⟨_, rfl, by rw [HT1.out]; simp⟩, rfl⟩
set_option maxHeartbeats 400000 in
theorem contains_any (W : World) (v : Value) (l : List Nat) (n k : Nat) (hs : SlOf W n 1 v (natCells l)) :
    Calls Tryd.prog 94 #[v, .int .i64 k] W fun e W' => e = .returned (.bool (l.contains k)) ∧ W = W' := by
  have HS := Lib.hid hs
  clear hs
  go_enter Tryd.func94, Tryd.ntmps94
  go_wp2_with (go_at_call 101; refine (index_any _ _ l n k HS.out).mono ?_; rintro e w' ⟨⟨r, rfl, hr⟩, rfl⟩; have HR := Lib.hid hr; clear hr)
  all_goals (go_ret; exact ⟨ret_bool (by rw [Bool.eq_iff_iff, decide_eq_true_iff]; exact HR.out), rfl⟩)
end Go.Proofs.YtbhjfojbjpbdbaaDoor
namespace Go.Proofs.YtbhjfojbjpbdbaaDoor
open Go.RowKit
def accBlk (Bt : Nat) (W : World) : Option Nat :=
  match W.cell? ⟨Bt, 8, none⟩ with
  | some (.slice (some a) _ _) => some a.block
  | _ => none
theorem accBlk_same {Bt : Nat} {W W' : World} (h : W'.heap[Bt]? = W.heap[Bt]?) : accBlk Bt W' = accBlk Bt W := by
  unfold accBlk
  rw [World.cell?_of_block (w := W) (a := ⟨Bt, 8, none⟩) h]
structure Safe (l Bt : Nat) (W : World) (k : Nat) : Prop where
  nl : k ≠ l
  nb : k ≠ Bt
  na : accBlk Bt W ≠ some k
structure Eff (M l Bt : Nat) (W W' : World) : Prop where
  upd : Upd (fun k => k = M ∨ k = l ∨ k = Bt ∨ accBlk Bt W = some k) W W'
  acc : ∀ k, accBlk Bt W' = some k → accBlk Bt W = some k ∨ W.heap.size ≤ k
section
variable {M l Bt : Nat}
theorem Eff.refl (W : World) : Eff M l Bt W W := ⟨Upd.refl _ _, fun _ h => .inl h⟩
theorem Eff.trans {a b c : World} (h : Eff M l Bt a b) (k : Eff M l Bt b c) : Eff M l Bt a c := by
  refine ⟨⟨k.upd.os.trans h.upd.os, k.upd.tape.trans h.upd.tape, k.upd.output.trans h.upd.output, Nat.le_trans h.upd.size k.upd.size, fun i hi hs => ?_⟩, fun i hi => ?_⟩
  · refine (k.upd.block i (Nat.lt_of_lt_of_le hi h.upd.size) ?_).trans (h.upd.block i hi hs)
    rintro (e | e | e | e)
    · exact hs (.inl e)
    · exact hs (.inr (.inl e))
    · exact hs (.inr (.inr (.inl e)))
    · rcases h.acc i e with e | e
      · exact hs (.inr (.inr (.inr e)))
      · omega
  · rcases k.acc i hi with e | e
    · exact h.acc i e
    · exact .inr (Nat.le_trans h.upd.size e)
theorem Eff.size {a b : World} (h : Eff M l Bt a b) : a.heap.size ≤ b.heap.size := h.upd.size
theorem Eff.of_below {a b : World} (hB : Bt < a.heap.size) (h : Below a.heap.size a b) : Eff M l Bt a b :=
  ⟨Upd.of_below h, fun _ hk => by rw [accBlk_same (h.block Bt hB)] at hk; exact .inl hk⟩
theorem Eff.of_updM {a b : World} (hB : Bt < a.heap.size) (hM : M ≠ Bt) (h : Upd (· = M) a b) : Eff M l Bt a b :=
  ⟨h.mono (fun _ _ e => .inl e), fun _ hk => by rw [accBlk_same (h.block Bt hB (fun e => hM e.symm))] at hk; exact .inl hk⟩
theorem Eff.setCell {a w : World} (h : Eff M l Bt a w) {p : Addr} (hp : a.heap.size ≤ p.block) (hne : p.block ≠ Bt) (v : Value) : Eff M l Bt a (w.setCell p v) :=
  ⟨h.upd.setCell (.inr hp) v, fun k hk => by rw [accBlk_same (Below.heap_setCell w p v Bt (fun e => hne e.symm))] at hk; exact h.acc k hk⟩
theorem Eff.alloc {a w : World} (h : Eff M l Bt a w) (hB : Bt < w.heap.size) (o : Obj) : Eff M l Bt a (w.alloc o) :=
  h.trans (Eff.of_below hB ((Below.refl _ _).alloc (Nat.le_refl _) o))
theorem Safe.eff {W W' : World} {k : Nat} (h : Safe l Bt W k) (hk : k < W.heap.size) (he : Eff M l Bt W W') : Safe l Bt W' k :=
  ⟨h.nl, h.nb, fun e => by rcases he.acc k e with e | e; exact h.na e; omega⟩
theorem Safe.block {W W' : World} {k : Nat} (h : Safe l Bt W k) (hk : k < W.heap.size) (hM : k ≠ M) (he : Eff M l Bt W W') : W'.heap[k]? = W.heap[k]? :=
  he.upd.block k hk (by rintro (e | e | e | e); exact hM e; exact h.nl e; exact h.nb e; exact h.na e)
def SlSafe (l Bt : Nat) (W : World) (v : Value) (rows : List (List Value)) : Prop := rows ≠ [] → ∀ a len cap, v = .slice (some a) len cap → Safe l Bt W a.block
theorem SlOf.eff {w w' : World} {n sz : Nat} {v : Value} {rows : List (List Value)} {es : Array MapEntry} {c : Nat} (hM : w.heap[M]? = some (.map es c)) (h : SlOf w n sz v rows) (hs : SlSafe l Bt w v rows) (he : Eff M l Bt w w') : SlOf w' n sz v rows := by
  obtain ⟨a, cap, e, h1, h2, h3, h4⟩ := h
  refine ⟨a, cap, e, h1, h2, h3, fun hp => ?_⟩
  obtain ⟨b, o, e1, h5, h6⟩ := h4 hp
  refine ⟨b, o, e1, h5, fun i j r c hi hj => ?_⟩
  have hc := h6 i j r c hi hj
  have hsafe := hs (List.length_pos_iff.1 hp) ⟨b, o, none⟩ _ _ (by rw [e, e1])
  have hlt : b < w.heap.size := lt_of_cell hc
  have hne : b ≠ M := ne_of_map hM hc
  exact (World.cell?_of_block (w := w) (a := ⟨b, o + i * sz + j, none⟩) (hsafe.block hlt hne he)).trans hc
theorem SlSafe.eff {w w' : World} {n sz : Nat} {v : Value} {rows : List (List Value)} (h : SlOf w n sz v rows) (hn : n ≤ w.heap.size) (hs : SlSafe l Bt w v rows) (he : Eff M l Bt w w') : SlSafe l Bt w' v rows := by
  obtain ⟨a, cap, e, h1, h2, h3, h4⟩ := h
  intro hr a' len' cap' e'
  obtain ⟨b, o, e1, h5, h6⟩ := h4 (List.length_pos_iff.2 hr)
  have := hs hr a' len' cap' e'
  rw [e, e1] at e'
  cases e'
  exact this.eff (by show b < _; omega) he
structure Env (b : Bk) (s k tv : Value) (n M l Bt Bb By Br Bd : Nat) (W : World) : Prop where
  hb : W.heap[Bb]? = some (.cells (b.cells9 s k (.map (some M)) tv).toArray 79)
  hy : W.heap[By]? = some (.cells #[.func (.yield l) #[] #[]] 122)
  hr : W.heap[Br]? = some (.cells #[.func (.func 103) #[.agg (b.cells9 s k (.map (some M)) tv).toArray] #[]] 123)
  hd : W.heap[Bd]? = some (.cells #[.func (.func 104) #[] #[.pointer (some ⟨Bb, 0, none⟩), .pointer (some ⟨By, 0, none⟩), .pointer (some ⟨Br, 0, none⟩), .pointer (some ⟨Bd, 0, none⟩)]] 124)
  sb : Safe l Bt W Bb
  sy : Safe l Bt W By
  sr : Safe l Bt W Br
  sd : Safe l Bt W Bd
  s0 : Safe l Bt W 0
  s1 : Safe l Bt W 1
  sM : Safe l Bt W M
  hs : SlOf W n 7 s (stCells b.sts)
  ss : SlSafe l Bt W s (stCells b.sts)
  hk : SlOf W n 3 k (ckCells b.cks)
  sk : SlSafe l Bt W k (ckCells b.cks)
  hM : CacheOk W M b.cks
  hG : Glob W
  hn : n ≤ W.heap.size
  lB : Bt < W.heap.size
  ll : l < W.heap.size
  la : ∀ k, accBlk Bt W = some k → k < W.heap.size
theorem Env.eff {b : Bk} {s k tv : Value} {n Bb By Br Bd : Nat} {W W' : World} (h : Env b s k tv n M l Bt Bb By Br Bd W) (he : Eff M l Bt W W') (hC : CacheOk W' M b.cks) (hla : ∀ k, accBlk Bt W' = some k → k < W'.heap.size) :
    Env b s k tv n M l Bt Bb By Br Bd W' := by
  obtain ⟨es, c, hm, _⟩ := h.hM
  have nb : ∀ {B : Nat} {o : Obj}, W.heap[B]? = some o → o.isCells = true → B ≠ M := fun h1 h2 e => by rw [e, hm] at h1; cases h1; cases h2
  have keep : ∀ {B : Nat} {o : Obj}, W.heap[B]? = some o → o.isCells = true → Safe l Bt W B → W'.heap[B]? = some o := fun h1 h2 hs => (hs.block (Array.getElem?_eq_some_iff.1 h1).1 (nb h1 h2) he).trans h1
  have lt : ∀ {B : Nat} {o : Obj}, W.heap[B]? = some o → B < W.heap.size := fun h1 => (Array.getElem?_eq_some_iff.1 h1).1
  have g0 : W'.heap[0]? = W.heap[0]? := h.s0.block (lt_of_cell h.hG.k0) (ne_of_map hm h.hG.k0) he
  have g1 : W'.heap[1]? = W.heap[1]? := h.s1.block (lt_of_cell h.hG.n0) (ne_of_map hm h.hG.n0) he
  exact ⟨keep h.hb rfl h.sb, keep h.hy rfl h.sy, keep h.hr rfl h.sr, keep h.hd rfl h.sd,
    h.sb.eff (lt h.hb) he, h.sy.eff (lt h.hy) he, h.sr.eff (lt h.hr) he, h.sd.eff (lt h.hd) he, h.s0.eff (lt_of_cell h.hG.k0) he, h.s1.eff (lt_of_cell h.hG.n0) he, h.sM.eff (lt hm) he,
    h.hs.eff hm h.ss he, h.ss.eff h.hs h.hn he, h.hk.eff hm h.sk he, h.sk.eff h.hk h.hn he, hC,
    ⟨(World.cell?_of_block (w := W) (a := ⟨0, 0, none⟩) g0).trans h.hG.k0, (World.cell?_of_block (w := W) (a := ⟨0, 1, none⟩) g0).trans h.hG.k1,
     (World.cell?_of_block (w := W) (a := ⟨1, 0, none⟩) g1).trans h.hG.n0, (World.cell?_of_block (w := W) (a := ⟨1, 1, none⟩) g1).trans h.hG.n1⟩,
    Nat.le_trans h.hn he.size, Nat.lt_of_lt_of_le h.lB he.size, Nat.lt_of_lt_of_le h.ll he.size, hla⟩
end
end Go.Proofs.YtbhjfojbjpbdbaaDoor
namespace Go.Proofs.YtbhjfojbjpbdbaaDoor
open Go.RowKit
structure AccLaw (l Bt : Nat) (Acc : List Tr → World → Prop) : Prop where
  keep : ∀ pre W W', Acc pre W → W.heap.size ≤ W'.heap.size → (∀ k, (k = l ∨ k = Bt ∨ accBlk Bt W = some k) → W'.heap[k]? = W.heap[k]?) → Acc pre W'
  lt : ∀ pre W k, Acc pre W → accBlk Bt W = some k → k < W.heap.size
def YieldsTo (l Bt N : Nat) (Acc : List Tr → World → Prop) : Prop := ∀ (pre : List Tr) (t : Tr) (W : World), Acc pre W → TrOk t → pre.length < N →
  YieldAt Fence.wide 0 Tryd.prog l #[.agg t.cells.toArray] W fun e W' => e = .returned (.bool true) ∧ Acc (pre ++ [t]) W' ∧
    Upd (fun k => k = l ∨ k = Bt ∨ accBlk Bt W = some k) W W' ∧ (∀ k, accBlk Bt W' = some k → accBlk Bt W = some k ∨ W.heap.size ≤ k)
theorem acc_below {l Bt : Nat} {Acc : List Tr → World → Prop} (hA : AccLaw l Bt Acc) {pre : List Tr} {W W' : World} (h : Acc pre W) (hl : l < W.heap.size) (hB : Bt < W.heap.size) (hb : Below W.heap.size W W') : Acc pre W' :=
  hA.keep pre W W' h hb.size (fun k hk => hb.block k (by rcases hk with rfl | rfl | hk; exact hl; exact hB; exact hA.lt _ _ _ h hk))
theorem Env.below {b : Bk} {s k tv : Value} {n M l Bt Bb By Br Bd : Nat} {W W' : World} (h : Env b s k tv n M l Bt Bb By Br Bd W) (hb : Below W.heap.size W W') : Env b s k tv n M l Bt Bb By Br Bd W' :=
  h.eff (Eff.of_below h.lB hb) (h.hM.of_block (hb.block M h.hM.lt)) (fun k hk => by rw [accBlk_same (hb.block Bt h.lB)] at hk; exact Nat.lt_of_lt_of_le (h.la k hk) hb.size)
set_option maxHeartbeats 400000 in
theorem waiting_any (W : World) : Calls Tryd.prog 105 #[] W fun e W' => e = .returned (.agg #[.int .i64 0, .int .i64 0, .int .i64 0]) ∧ Below W.heap.size W W' := by
  go_enter Tryd.func105, Tryd.ntmps105
  go_wp2
  refine bodyPost_ret (v := .agg #[.int .i64 0, .int .i64 0, .int .i64 0]) (by simp [results, Tryd.results105, go_sem]) rfl ⟨rfl, ((Below.refl _ _).alloc (Nat.le_refl _) _).alloc (by simp) _⟩
theorem info3 : ∃ i, Tryd.prog.info? 3 = some i := by
  have h : (Tryd.prog.info? 3).isSome = true := by kernel_rfl
  cases h1 : Tryd.prog.info? 3 with
  | none => rw [h1] at h; cases h
  | some i => exact ⟨i, rfl⟩
theorem eq85 (x y z : Int) (hx : ¬ x = 0) : ∀ w, (binOp .eql 85 (.agg #[.int .i64 x, .int .i64 y, .int .i64 z]) (.agg #[.int .i64 0, .int .i64 0, .int .i64 0])).run Tryd.prog w = .ok (.bool false) w := by
  intro w
  obtain ⟨i, hi⟩ := info3
  have h1 : (x == 0) = false := by simp [hx]
  have hq : (Op.equalIn (9999 + 1) 85 (.agg #[.int .i64 x, .int .i64 y, .int .i64 z]) (.agg #[.int .i64 0, .int .i64 0, .int .i64 0])).run Tryd.prog w = .ok false w := by
    rw [run_equalIn_array w 9999 _ _ Tryd.underlying85 hi]
    simp [List.range, List.range.loop, Op.eqItems, go_sem, h1]
  rw [run_eql_struct]
  show ((Op.equalIn (9999 + 1) 85 _ _).run _ _).andThen _ = _
  rw [hq]
  rfl
structure Big (b : Bk) : Prop where
  bd : Bds b
  ck : CksOk b.cks
  nc : b.cks.length ≤ 1000
  st : ∀ x ∈ b.sts, (1 ≤ x.dl ∧ x.dl ≤ x.dh ∧ x.dh ≤ 90) ∧ (0 ≤ x.rl ∧ x.rl ≤ x.rh ∧ x.rh ≤ 30) ∧ (0 ≤ x.sl ∧ x.sl ≤ x.sh ∧ x.sh ≤ 20)
  co : ∀ k, 0 ≤ b.cost k ∧ b.cost k ≤ 30
theorem upto_cons {lo hi : Int} (h : lo ≤ hi) : upto lo hi = lo :: upto (lo + 1) hi := by
  unfold upto
  have e : (hi - lo + 1).toNat = (hi - (lo + 1) + 1).toNat + 1 := by omega
  rw [e, List.range_succ_eq_map, List.map_cons, List.map_map]
  simp only [Int.natCast_zero, Int.add_zero, List.cons.injEq, true_and]
  refine List.map_congr_left fun x _ => ?_
  simp only [Function.comp, Nat.succ_eq_add_one]
  omega
theorem upto_nil {lo hi : Int} (h : hi < lo) : upto lo hi = [] := by
  unfold upto
  rw [show (hi - lo + 1).toNat = 0 by omega]
  rfl
section
variable {b : Bk} {s k tv : Value} {n M l Bt Bb By Br Bd N : Nat} {Acc : List Tr → World → Prop}
set_option maxRecDepth 100000 in
set_option maxHeartbeats 1000000 in
theorem drive_leaf (hA : AccLaw l Bt Acc) (hY : YieldsTo l Bt N Acc) (hb : Big b) (j : Nat) (t : Tr) (fr : Int) (pre : List Tr) (W : World) (hj : j = b.sts.length) (ht : TrOk t) (h0 : 1 ≤ t.a0)
    (hE : Env b s k tv n M l Bt Bb By Br Bd W) (hacc : Acc pre W) (hNN : pre.length < N) :
    Calls Tryd.prog 104 #[.agg t.cells.toArray, .int .i64 j, .int .i64 fr, .pointer (some ⟨Bb, 0, none⟩), .pointer (some ⟨By, 0, none⟩), .pointer (some ⟨Br, 0, none⟩), .pointer (some ⟨Bd, 0, none⟩)] W fun e W' =>
      e = .returned (.bool true) ∧ Acc (pre ++ [t]) W' ∧ Eff M l Bt W W' ∧ CacheOk W' M b.cks ∧ Env b s k tv n M l Bt Bb By Br Bd W' := by
  subst hj
  obtain ⟨sa, scap, rfl, hs1, hs2, hs3, hs4⟩ := hE.hs
  have hsl : (stCells b.sts).length = b.sts.length := by simp [stCells]
  have hl3 := hb.bd.l3
  have hBW : Bb < W.heap.size := (Array.getElem?_eq_some_iff.1 hE.hb).1
  have hyW : By < W.heap.size := (Array.getElem?_eq_some_iff.1 hE.hy).1
  obtain ⟨V, hV⟩ : ∃ V, W.alloc (Obj.cells t.cells.toArray 87) = V := ⟨_, rfl⟩
  have hBV : Below W.heap.size W V := by rw [← hV]; exact (Below.refl _ _).alloc (Nat.le_refl _) _
  have hVz : V.heap.size = W.heap.size + 1 := by rw [← hV]; simp
  have hVt : V.heap[W.heap.size]? = some (.cells t.cells.toArray 87) := by rw [← hV]; exact World.alloc_heap_new _ _
  have hEV := hE.below hBV
  have hAV := acc_below hA hacc hE.ll hE.lB hBV
  have v0 : V.cell? ⟨Bb, 0, none⟩ = some (.slice sa b.sts.length scap) := by rw [blk_cell hEV.hb, hsl]; rfl
  have y0 : V.cell? ⟨By, 0, none⟩ = some (.func (.yield l) #[] #[]) := blk_cell hEV.hy
  have t0 : V.cell? ⟨W.heap.size, 0, none⟩ = some (.int .i64 t.w) := blk_cell hVt
  have t1 : V.cell? ⟨W.heap.size, 1, none⟩ = some (.int .i64 t.a0) := blk_cell hVt
  have t2 : V.cell? ⟨W.heap.size, 2, none⟩ = some (.int .i64 t.a1) := blk_cell hVt
  have t3 : V.cell? ⟨W.heap.size, 3, none⟩ = some (.int .i64 t.a2) := blk_cell hVt
  have t4 : V.cell? ⟨W.heap.size, 4, none⟩ = some (.int .i64 t.b0) := blk_cell hVt
  have t5 : V.cell? ⟨W.heap.size, 5, none⟩ = some (.int .i64 t.b1) := blk_cell hVt
  have t6 : V.cell? ⟨W.heap.size, 6, none⟩ = some (.int .i64 t.b2) := blk_cell hVt
  have l0 : W.heap.size < V.heap.size := by omega
  have l1 : Bb < V.heap.size := by omega
  have l2 : By < V.heap.size := by omega
  have heq := eq85 t.a0 t.a1 t.a2 (by omega)
  have HE := Lib.hid hE
  have HEV := Lib.hid hEV
  have HAV := Lib.hid hAV
  have HYH := Lib.hid hY
  have HA := Lib.hid hA
  clear hE hEV hAV hY hA hs1 hs2 hs3 hs4 hVt hacc hVz
  simp only [Tr.cells] at hV
  simp only [Tr.cells]
  go_enter Tryd.func104, Tryd.ntmps104
  go_upto_region 2 with fail
  try rw [hV]
  clear hV
  refine wp_region_det (S := fun L w' => (L 7 = false ∧ (∀ b o, b < V.heap.size → w'.cell? ⟨b, o, none⟩ = V.cell? ⟨b, o, none⟩) ∧ Below V.heap.size V w') ∨ (L 7 = true ∧ Acc (pre ++ [t]) w' ∧ Eff M l Bt V w' ∧ CacheOk w' M b.cks)) (by kernel_rfl) (by kernel_rfl) (.inl ⟨rfl, hs0 V⟩) ?_
  apply det_cons
  · refine ⟨by rfl, fun L w hN hS => ?_⟩
    have h7 : L 7 = false := (hN.chain (hN.chain (hN.chain (hN.chain hN.free (k := 1) (by kernel_rfl)) (k := 3) (by kernel_rfl)) (k := 4) (by kernel_rfl)) (k := 7) (by kernel_rfl))
    obtain ⟨_, hcc, hu⟩ := hS.resolve_right (by rw [h7]; simp)
    clear hS
    have H7 := Lib.hid h7
    clear h7
    go_simp
    exact ⟨rfl, fun L' _ h2 => .inl ⟨by rw [h2 7 (by decide)]; exact H7.out, hcc, hu⟩⟩
  try simp only [Act.put, List.setIfInBounds_toArray, List.set_cons_zero, List.set_cons_succ]
  apply det_cons
  · refine ⟨by rfl, fun L w hN hS => ?_⟩
    have h7 : L 7 = false := (hN.chain (hN.chain (hN.chain hN.free (k := 3) (by kernel_rfl)) (k := 4) (by kernel_rfl)) (k := 7) (by kernel_rfl))
    obtain ⟨_, hcc, hu⟩ := hS.resolve_right (by rw [h7]; simp)
    clear hS
    have H7 := Lib.hid h7
    clear h7
    go_simp
    exact ⟨rfl, fun L' _ h2 => .inl ⟨by rw [h2 7 (by decide)]; exact H7.out, hcc, hu⟩⟩
  try simp only [Act.put, List.setIfInBounds_toArray, List.set_cons_zero, List.set_cons_succ]
  apply det_cons
  · refine ⟨by rfl, fun L w hN hS => ?_⟩
    have h7 : L 7 = false := (hN.chain (hN.chain (hN.chain hN.free (k := 3) (by kernel_rfl)) (k := 4) (by kernel_rfl)) (k := 7) (by kernel_rfl))
    obtain ⟨_, hcc, hu⟩ := hS.resolve_right (by rw [h7]; simp)
    clear hS
    have H7 := Lib.hid h7
    clear h7
    go_simp
    refine (waiting_any _).mono ?_
    rintro e w' ⟨rfl, hbb⟩
    exact ⟨rfl, fun L' _ h2 => .inl ⟨by rw [h2 7 (by decide)]; exact H7.out, hs1 hbb ⟨hcc, hu⟩⟩⟩
  try simp only [Act.put, List.setIfInBounds_toArray, List.set_cons_zero, List.set_cons_succ]
  apply det_cons
  · refine ⟨by rfl, fun L w hN hS => ?_⟩
    have h7 : L 7 = false := (hN.chain (hN.chain hN.free (k := 4) (by kernel_rfl)) (k := 7) (by kernel_rfl))
    obtain ⟨_, hcc, hu⟩ := hS.resolve_right (by rw [h7]; simp)
    clear hS
    have H7 := Lib.hid h7
    clear h7
    go_simp
    exact ⟨rfl, fun L' _ h2 => .inl ⟨by rw [h2 7 (by decide)]; exact H7.out, hcc, hu⟩⟩
  try simp only [Act.put, List.setIfInBounds_toArray, List.set_cons_zero, List.set_cons_succ]
  apply det_cons
  · refine ⟨by rfl, fun L w hN hS => ?_⟩
    have h7 : L 7 = false := (hN.chain hN.free (k := 7) (by kernel_rfl))
    obtain ⟨_, hcc, hu⟩ := hS.resolve_right (by rw [h7]; simp)
    clear hS
    have H7 := Lib.hid h7
    clear h7
    go_simp
    exact ⟨rfl, fun L' _ h2 => .inl ⟨by rw [h2 7 (by decide)]; exact H7.out, hcc, hu⟩⟩
  try simp only [Act.put, List.setIfInBounds_toArray, List.set_cons_zero, List.set_cons_succ]
  apply det_cons
  · refine ⟨by rfl, fun L w hN hS => ?_⟩
    have h7 : L 7 = false := (hN.chain hN.free (k := 7) (by kernel_rfl))
    obtain ⟨_, hcc, hu⟩ := hS.resolve_right (by rw [h7]; simp)
    clear hS
    have H7 := Lib.hid h7
    clear h7
    go_simp
    exact ⟨rfl, fun L' _ h2 => .inl ⟨by rw [h2 7 (by decide)]; exact H7.out, hcc, hu⟩⟩
  try simp only [Act.put, List.setIfInBounds_toArray, List.set_cons_zero, List.set_cons_succ]
  apply det_cons
  · refine ⟨by rfl, fun L w hN hS => ?_⟩
    have h7 : L 7 = false := (hN.chain hN.free (k := 7) (by kernel_rfl))
    obtain ⟨_, hcc, hu⟩ := hS.resolve_right (by rw [h7]; simp)
    clear hS
    have H7 := Lib.hid h7
    clear h7
    go_simp
    exact ⟨rfl, fun L' _ h2 => .inl ⟨by rw [h2 7 (by decide)]; exact H7.out, hcc, hu⟩⟩
  try simp only [Act.put, List.setIfInBounds_toArray, List.set_cons_zero, List.set_cons_succ]
  apply det_cons
  · refine ⟨by rfl, fun L w hN hS => ?_⟩
    obtain ⟨_, hcc, hu⟩ := hS.resolve_right (by rw [hN.free]; simp)
    clear hS
    have haw : Acc pre w := acc_below HA.out HAV.out HEV.out.ll HEV.out.lB hu
    obtain ⟨fn, tmps, assign, body, hy, hR⟩ := HYH.out pre t w haw ht hNN
    simp only [Tr.cells] at hy
    have HR := Lib.hid hR
    clear hR haw
    go_simp
    refine RoundIn.mono HR.out ?_
    rintro e w' ⟨rfl, h1, h2, h3⟩
    refine ⟨rfl, fun L' hL' _ => .inr ⟨hL', h1, (Eff.of_below HEV.out.lB hu).trans ⟨h2.mono (fun k _ hk => .inr hk), h3⟩, ?_⟩⟩
    have hEw := HEV.out.below hu
    exact hEw.hM.of_block (h2.block M hEw.hM.lt (by rintro (e | e | e); exact hEw.sM.nl e; exact hEw.sM.nb e; exact hEw.sM.na e))
  try simp only [Act.put, List.setIfInBounds_toArray, List.set_cons_zero, List.set_cons_succ]
  apply det_cons
  · refine ⟨by rfl, fun L w hN hS => ?_⟩
    have h7 : L 7 = true := hN.was (by kernel_rfl)
    obtain ⟨_, h1, h2, h3⟩ := hS.resolve_left (by rw [h7]; simp)
    clear hS
    have H7 := Lib.hid h7
    clear h7
    go_simp
    exact ⟨rfl, fun L' _ hL => .inr ⟨by rw [hL 7 (by decide)]; exact H7.out, h1, h2, h3⟩⟩
  try simp only [Act.put, List.setIfInBounds_toArray, List.set_cons_zero, List.set_cons_succ]
  apply det_cons
  · refine ⟨by rfl, fun L w hN hS => ?_⟩
    have h7 : L 7 = true := hN.was (by kernel_rfl)
    obtain ⟨_, h1, h2, h3⟩ := hS.resolve_left (by rw [h7]; simp)
    clear hS
    have H7 := Lib.hid h7
    clear h7
    go_simp
    exact ⟨rfl, fun L' _ hL => .inr ⟨by rw [hL 7 (by decide)]; exact H7.out, h1, h2, h3⟩⟩
  try simp only [Act.put, List.setIfInBounds_toArray, List.set_cons_zero, List.set_cons_succ]
  refine det_nil ?_
  rintro L w' hL hS
  obtain ⟨_, h1, h2, h3⟩ := hS.resolve_left (by rw [hL 7 (by decide)]; simp)
  clear hS hL
  go_wp2
  go_ret
  have he : Eff M l Bt W w' := (Eff.of_below HE.out.lB hBV).trans h2
  exact ⟨rfl, h1, he, h3, HE.out.eff he h3 (HA.out.lt _ _ · h1)⟩
end
end Go.Proofs.YtbhjfojbjpbdbaaDoor
namespace Go.Proofs.YtbhjfojbjpbdbaaDoor
open Go.RowKit
section
variable {b : Bk} {s k tv : Value} {n M l Bt Bb By Br Bd N : Nat} {Acc : List Tr → World → Prop}
structure Loc (b : Bk) (M l Bt : Nat) (Acc : List Tr → World → Prop) (Tb Xb : Nat) (x : St) (W : World) (t' : Tr) (cur : List Tr) (wx : World) : Prop where
  acc : Acc cur wx
  eff : Eff M l Bt W wx
  cache : CacheOk wx M b.cks
  tb : wx.heap[Tb]? = some (.cells t'.cells.toArray 87)
  xb : wx.heap[Xb]? = some (.cells x.cells.toArray 56)
  st : Safe l Bt wx Tb
  sx : Safe l Bt wx Xb
variable {Tb Xb : Nat} {x : St} {W : World} {t' : Tr} {cur : List Tr}
theorem nM_of_cells {W : World} {B : Nat} {c : Array Value} {T : TypeId} {cks : List Ck} (hC : CacheOk W M cks) (h : W.heap[B]? = some (.cells c T)) : B ≠ M := by
  obtain ⟨es, c', hm, _⟩ := hC
  intro e
  rw [e, hm] at h
  cases h
theorem Loc.env {wx : World} (h : Loc b M l Bt Acc Tb Xb x W t' cur wx) (hA : AccLaw l Bt Acc) (hE : Env b s k tv n M l Bt Bb By Br Bd W) : Env b s k tv n M l Bt Bb By Br Bd wx :=
  hE.eff h.eff h.cache (fun k hk => hA.lt _ _ k h.acc hk)
theorem Loc.step {wx wy : World} (h : Loc b M l Bt Acc Tb Xb x W t' cur wx) {cur' : List Tr} (he : Eff M l Bt wx wy) (ha : Acc cur' wy) (hC : CacheOk wy M b.cks) : Loc b M l Bt Acc Tb Xb x W t' cur' wy := by
  have lt : ∀ {B : Nat} {o : Obj}, wx.heap[B]? = some o → B < wx.heap.size := fun h1 => (Array.getElem?_eq_some_iff.1 h1).1
  exact ⟨ha, h.eff.trans he, hC, (h.st.block (lt h.tb) (nM_of_cells h.cache h.tb) he).trans h.tb, (h.sx.block (lt h.xb) (nM_of_cells h.cache h.xb) he).trans h.xb,
    h.st.eff (lt h.tb) he, h.sx.eff (lt h.xb) he⟩
theorem Loc.below {wx wy : World} (h : Loc b M l Bt Acc Tb Xb x W t' cur wx) (hA : AccLaw l Bt Acc) (hE : Env b s k tv n M l Bt Bb By Br Bd W) (hb : Below wx.heap.size wx wy) : Loc b M l Bt Acc Tb Xb x W t' cur wy :=
  have hx := h.env hA hE
  h.step (Eff.of_below hx.lB hb) (acc_below hA h.acc hx.ll hx.lB hb) (h.cache.of_block (hb.block M h.cache.lt))
theorem Loc.right {wx wy : World} (h : Loc b M l Bt Acc Tb Xb x W t' cur wx) (hA : AccLaw l Bt Acc) (hE : Env b s k tv n M l Bt Bb By Br Bd W) (hu : Upd (· = M) wx wy) (hC : CacheOk wy M b.cks) : Loc b M l Bt Acc Tb Xb x W t' cur wy := by
  have hx := h.env hA hE
  have hM := hx.sM
  have he : Eff M l Bt wx wy := Eff.of_updM hx.lB hM.nb hu
  refine h.step he (hA.keep _ _ _ h.acc hu.size fun k hk => hu.block k ?_ ?_) hC
  · rcases hk with rfl | rfl | hk
    · exact hx.ll
    · exact hx.lB
    · exact hx.la k hk
  · rintro rfl
    rcases hk with e | e | e
    · exact hM.nl e
    · exact hM.nb e
    · exact hM.na e
theorem put_cells (t : Tr) {j : Nat} (hj : j < 3) (m r : Int) : (t.cells.toArray.setIfInBounds (1 + j) (.int .i64 m)).setIfInBounds (4 + j) (.int .i64 r) = (t.put j m r).cells.toArray := by
  have hkk : j = 0 ∨ j = 1 ∨ j = 2 := by omega
  rcases hkk with rfl | rfl | rfl <;> rfl
theorem tr_cell_b {W : World} {B : Nat} (t : Tr) (h : W.heap[B]? = some (.cells t.cells.toArray 87)) {k : Nat} (hk : k < 3) : W.cell? ⟨B, 4 + k, none⟩ = some (.int .i64 (t.rough k)) := by
  rw [blk_cell h]
  have hkk : k = 0 ∨ k = 1 ∨ k = 2 := by omega
  rcases hkk with rfl | rfl | rfl <;> rfl
theorem Loc.put {wx : World} (h : Loc b M l Bt Acc Tb Xb x W t' cur wx) (hA : AccLaw l Bt Acc) {j : Nat} (hj : j < 3) (m r : Int) (hne : Tb ≠ Xb) (hV : W.heap.size ≤ Tb) :
    Loc b M l Bt Acc Tb Xb x W (t'.put j m r) cur ((wx.setCell ⟨Tb, 1 + j, none⟩ (.int .i64 m)).setCell ⟨Tb, 4 + j, none⟩ (.int .i64 r)) := by
  have hsame : ∀ k, k ≠ Tb → ((wx.setCell ⟨Tb, 1 + j, none⟩ (.int .i64 m)).setCell ⟨Tb, 4 + j, none⟩ (.int .i64 r)).heap[k]? = wx.heap[k]? := fun k hk =>
    (Below.heap_setCell _ _ _ _ hk).trans (Below.heap_setCell _ _ _ _ hk)
  have hsz : ((wx.setCell ⟨Tb, 1 + j, none⟩ (.int .i64 m)).setCell ⟨Tb, 4 + j, none⟩ (.int .i64 r)).heap.size = wx.heap.size := by simp [World.setCell]
  have hacc := accBlk_same (hsame Bt (fun e => h.st.nb e.symm))
  refine ⟨hA.keep _ _ _ h.acc (by omega) (fun k hk => hsame k ?_), (h.eff.setCell hV h.st.nb _).setCell hV h.st.nb _, h.cache.of_block (hsame M (fun e => nM_of_cells h.cache h.tb e.symm)), ?_, (hsame Xb hne.symm).trans h.xb,
    ⟨h.st.nl, h.st.nb, by rw [hacc]; exact h.st.na⟩, ⟨h.sx.nl, h.sx.nb, by rw [hacc]; exact h.sx.na⟩⟩
  · rintro rfl
    rcases hk with e | e | e
    · exact h.st.nl e
    · exact h.st.nb e
    · exact h.st.na e
  · rw [← put_cells t' hj]
    exact blk_set (blk_set h.tb)
theorem put_put (t : Tr) (j : Nat) (m r m' r' : Int) : (t.put j m r).put j m' r' = t.put j m' r' := by
  rcases j with _ | _ | j <;> rfl
theorem put_w (t : Tr) (j : Nat) (m r : Int) : (t.put j m r).w = t.w := by
  unfold Tr.put
  split <;> rfl
theorem put_ok {t : Tr} (h : TrOk t) {j : Nat} {m r : Int} (hm : 0 ≤ m ∧ m ≤ 1000) (hr : 0 ≤ r ∧ r ≤ 30) : TrOk (t.put j m r) := by
  obtain ⟨h0, h1, h2, h3, h4, h5, h6⟩ := h
  unfold Tr.put
  split
  · exact ⟨h0, hm, h2, h3, hr, h5, h6⟩
  · exact ⟨h0, h1, hm, h3, h4, hr, h6⟩
  · exact ⟨h0, h1, h2, hm, h4, h5, hr⟩
theorem put_a0 {t : Tr} {j : Nat} {m r : Int} (hm : 1 ≤ m) (h : 0 < j → 1 ≤ t.a0) : 1 ≤ (t.put j m r).a0 := by
  unfold Tr.put
  split
  · exact hm
  · exact h (by omega)
  · rename_i h1 h2; exact h (by rcases Nat.eq_zero_or_pos j with e | e; exact absurd e h1; exact e)
theorem idx_bd {x : St} {b : Bk} (hb : Big b) {j : Nat} (h : b.sts[j]? = some x) : (1 ≤ x.dl ∧ x.dl ≤ x.dh ∧ x.dh ≤ 90) ∧ (0 ≤ x.rl ∧ x.rl ≤ x.rh ∧ x.rh ≤ 30) ∧ (0 ≤ x.sl ∧ x.sl ≤ x.sh ∧ x.sh ≤ 20) :=
  hb.st x (List.mem_of_getElem? h)
def goStops (cost : Int) (cks : List Ck) (l : List St) (j : Nat) (t : Tr) (minute r : Int) (ss : List Int) : List Tr := ss.flatMap fun s => goes cost cks l (j + 1) (t.put j minute r) (minute + s)
def goRoads (cost : Int) (cks : List Ck) (x : St) (l : List St) (j : Nat) (t : Tr) (fr d : Int) (rs : List Int) : List Tr := rs.flatMap fun r =>
  if rightL cks j (fr + d + r + cost) then goStops cost cks l j t (fr + d + r + cost) r (upto x.sl x.sh) else []
def goDrives (cost : Int) (cks : List Ck) (x : St) (l : List St) (j : Nat) (t : Tr) (fr : Int) (ds : List Int) : List Tr := ds.flatMap fun d => goRoads cost cks x l j t fr d (upto x.rl x.rh)
theorem goes_cons (cost : Int) (cks : List Ck) (x : St) (l : List St) (j : Nat) (t : Tr) (fr : Int) : goes cost cks (x :: l) j t fr = goDrives cost cks x l j t fr (upto x.dl x.dh) := rfl
theorem goRoads_cons (cost : Int) (cks : List Ck) (x : St) (l : List St) (j : Nat) (t : Tr) (fr d : Int) {r rh : Int} (h : r ≤ rh) : goRoads cost cks x l j t fr d (upto r rh) =
    (if rightL cks j (fr + d + r + cost) then goStops cost cks l j t (fr + d + r + cost) r (upto x.sl x.sh) else []) ++ goRoads cost cks x l j t fr d (upto (r + 1) rh) := by rw [upto_cons h]; rfl
theorem goStops_cons (cost : Int) (cks : List Ck) (l : List St) (j : Nat) (t : Tr) (m r : Int) {s sh : Int} (h : s ≤ sh) : goStops cost cks l j t m r (upto s sh) =
    goes cost cks l (j + 1) (t.put j m r) (m + s) ++ goStops cost cks l j t m r (upto (s + 1) sh) := by rw [upto_cons h]; rfl
theorem goDrives_cons (cost : Int) (cks : List Ck) (x : St) (l : List St) (j : Nat) (t : Tr) (fr : Int) {d dh : Int} (h : d ≤ dh) : goDrives cost cks x l j t fr (upto d dh) =
    goRoads cost cks x l j t fr d (upto x.rl x.rh) ++ goDrives cost cks x l j t fr (upto (d + 1) dh) := by rw [upto_cons h]; rfl
theorem Safe.new' {W W' : World} {K : Nat} (hE : Env b s k tv n M l Bt Bb By Br Bd W) (hb : Below W.heap.size W W') (hK : W.heap.size ≤ K) : Safe l Bt W' K :=
  ⟨by have := hE.ll; omega, by have := hE.lB; omega, fun e => by rw [accBlk_same (hb.block Bt hE.lB)] at e; have := hE.la K e; omega⟩
theorem five_slice (wr : World) (a b c d e : Int) : SlOf (wr.alloc (.cells #[.int .i64 a, .int .i64 b, .int .i64 c, .int .i64 d, .int .i64 e] 3)).drew (wr.heap.size + 1) 1 (.slice (some ⟨wr.heap.size, 0, none⟩) 5 5) (intCells [a, b, c, d, e]) := by
  refine ⟨_, 5, rfl, by simp [intCells], by simp [maxLen, intCells], by simp [intCells], fun _ => ⟨wr.heap.size, 0, rfl, by omega, fun i j r v hi hj => ?_⟩⟩
  have hi5 : i < 5 := by
    rcases Nat.lt_or_ge i 5 with h | h
    · exact h
    · rw [List.getElem?_eq_none (by simp [intCells]; omega)] at hi; cases hi
  have h1 := cell_new (w := wr) (c := #[.int .i64 a, .int .i64 b, .int .i64 c, .int .i64 d, .int .i64 e]) (T := 3) (j := 0 + i * 1 + j)
  refine Eq.trans (show _ = (wr.alloc (.cells #[.int .i64 a, .int .i64 b, .int .i64 c, .int .i64 d, .int .i64 e] 3)).cell? ⟨wr.heap.size, 0 + i * 1 + j, none⟩ from rfl) ?_
  rw [h1]
  have hii : i = 0 ∨ i = 1 ∨ i = 2 ∨ i = 3 ∨ i = 4 := by omega
  rcases hii with rfl | rfl | rfl | rfl | rfl <;> simp [intCells] at hi <;> subst hi <;> (rcases j with _ | j <;> simp at hj <;> subst hj <;> rfl)
theorem five_sum (fr dl d r c : Int) : [fr, dl, d, r, c].sum = fr + (dl + d) + r + c := by simp; omega
def DriveAt (b : Bk) (s k tv : Value) (n M l Bt Bb By Br Bd N wn : Nat) (Acc : List Tr → World → Prop) (rest : List St) : Prop :=
  ∀ (j : Nat) (t : Tr) (fr : Int) (pre : List Tr) (W : World), b.sts.drop j = rest → j ≤ b.sts.length → TrOk t → t.w = (wn : Int) → (0 < j → 1 ≤ t.a0) → (0 ≤ fr ∧ fr ≤ 170 * j) →
    Env b s k tv n M l Bt Bb By Br Bd W → Acc pre W → (pre ++ goes (b.cost wn) b.cks rest j t fr).length ≤ N →
    Calls Tryd.prog 104 #[.agg t.cells.toArray, .int .i64 j, .int .i64 fr, .pointer (some ⟨Bb, 0, none⟩), .pointer (some ⟨By, 0, none⟩), .pointer (some ⟨Br, 0, none⟩), .pointer (some ⟨Bd, 0, none⟩)] W fun e W' =>
      e = .returned (.bool true) ∧ Acc (pre ++ goes (b.cost wn) b.cks rest j t fr) W' ∧ Eff M l Bt W W' ∧ CacheOk W' M b.cks
end
end Go.Proofs.YtbhjfojbjpbdbaaDoor
namespace Go.Proofs.YtbhjfojbjpbdbaaDoor
open Go.RowKit
section
variable {b : Bk} {s k tv : Value} {n M l Bt Bb By Br Bd N : Nat} {Acc : List Tr → World → Prop}
set_option maxRecDepth 100000 in
set_option maxHeartbeats 2000000 in
theorem drive_step (hA : AccLaw l Bt Acc) (hb : Big b) {wn : Nat} (hwn : wn < 3) {x : St} {rest : List St} (hI : DriveAt b s k tv n M l Bt Bb By Br Bd N wn Acc rest) : DriveAt b s k tv n M l Bt Bb By Br Bd N wn Acc (x :: rest) := by
  intro j t fr pre W hdrop hjl ht htw h0 hfr hE hacc hlen
  have hj : j < b.sts.length := by
    rcases Nat.lt_or_ge j b.sts.length with h | h
    · exact h
    · rw [List.drop_eq_nil_of_le h] at hdrop; cases hdrop
  have hx : b.sts[j]? = some x := by
    rw [List.drop_eq_getElem_cons hj] at hdrop
    rw [List.getElem?_eq_getElem hj]
    injection hdrop with h1 _
    rw [h1]
  have hrest : b.sts.drop (j + 1) = rest := by
    rw [List.drop_eq_getElem_cons hj] at hdrop
    injection hdrop
  have hxb := idx_bd hb hx
  have hcb := hb.co wn
  have hl3 := hb.bd.l3
  have hj3 : j < 3 := by omega
  obtain ⟨sa, scap, es, hs1, hs2, hs3, hs4⟩ := hE.hs
  have hsl : (stCells b.sts).length = b.sts.length := by simp [stCells]
  obtain ⟨g, q, hsa, hg, hcs⟩ := sl_at hs4 (show (stCells b.sts)[j]? = some x.cells by simp [stCells, hx])
  rw [hsa, hsl] at es
  subst es
  have hBW : Bb < W.heap.size := (Array.getElem?_eq_some_iff.1 hE.hb).1
  obtain ⟨V, hV⟩ : ∃ V, W.alloc (Obj.cells t.cells.toArray 87) = V := ⟨_, rfl⟩
  have hBV : Below W.heap.size W V := by rw [← hV]; exact (Below.refl _ _).alloc (Nat.le_refl _) _
  have hVz : V.heap.size = W.heap.size + 1 := by rw [← hV]; simp
  have hVt : V.heap[W.heap.size]? = some (.cells t.cells.toArray 87) := by rw [← hV]; exact World.alloc_heap_new _ _
  have hEV := hE.below hBV
  have v0 : V.cell? ⟨Bb, 0, none⟩ = some (.slice (some ⟨g, q, none⟩) b.sts.length scap) := by rw [blk_cell hEV.hb]; rfl
  have hr : ∀ i c, x.cells[i]? = some c → V.cell? ⟨g, q + j * 7 + i, none⟩ = some c := fun i c hi =>
    (hBV.cell (p := ⟨g, q + j * 7 + i, none⟩) (by have := hE.hn; show g < _; omega)).trans (hcs i c hi)
  have r0 : V.cell? ⟨g, q + j * 7, none⟩ = some (.int .i64 x.due) := hr 0 _ rfl
  have r1 : V.cell? ⟨g, q + j * 7 + 1, none⟩ = some (.int .i64 x.dl) := hr 1 _ rfl
  have r2 : V.cell? ⟨g, q + j * 7 + 2, none⟩ = some (.int .i64 x.dh) := hr 2 _ rfl
  have r3 : V.cell? ⟨g, q + j * 7 + 3, none⟩ = some (.int .i64 x.rl) := hr 3 _ rfl
  have r4 : V.cell? ⟨g, q + j * 7 + 4, none⟩ = some (.int .i64 x.rh) := hr 4 _ rfl
  have r5 : V.cell? ⟨g, q + j * 7 + 5, none⟩ = some (.int .i64 x.sl) := hr 5 _ rfl
  have r6 : V.cell? ⟨g, q + j * 7 + 6, none⟩ = some (.int .i64 x.sh) := hr 6 _ rfl
  have ne1 : ((j : Int) == (b.sts.length : Int)) = false := by simp; omega
  have i1 : (j : Int) < (b.sts.length : Int) := by omega
  obtain ⟨V2, hV2⟩ : ∃ V2, V.alloc (Obj.cells x.cells.toArray 56) = V2 := ⟨_, rfl⟩
  have hBV2 : Below V.heap.size V V2 := by rw [← hV2]; exact (Below.refl _ _).alloc (Nat.le_refl _) _
  have hW2 : Below W.heap.size W V2 := hBV.trans (hBV2.mono (by omega))
  have hE2 := hE.below hW2
  have hx2 : V2.heap[W.heap.size + 1]? = some (.cells x.cells.toArray 56) := by rw [← hV2, ← hVz]; exact World.alloc_heap_new _ _
  have hLoc : Loc b M l Bt Acc W.heap.size (W.heap.size + 1) x W t pre V2 :=
    ⟨acc_below hA hacc hE.ll hE.lB hW2, Eff.of_below hE.lB hW2, hE2.hM, (hBV2.block _ (by omega)).trans hVt, hx2,
     Safe.new' hE hW2 (Nat.le_refl _), Safe.new' hE hW2 (by omega)⟩
  have x1 : V2.cell? ⟨W.heap.size + 1, 1, none⟩ = some (.int .i64 x.dl) := blk_cell hx2
  have x2 : V2.cell? ⟨W.heap.size + 1, 2, none⟩ = some (.int .i64 x.dh) := blk_cell hx2
  have HE := Lib.hid hE
  have HA := Lib.hid hA
  have HI := Lib.hid hI
  have HL := Lib.hid hLoc
  have HTW := Lib.hid htw
  have HRest := Lib.hid hrest
  rw [goes_cons] at hlen ⊢
  obtain ⟨TA, hTA⟩ : ∃ TA, pre ++ goDrives (b.cost wn) b.cks x rest j t fr (upto x.dl x.dh) = TA := ⟨_, rfl⟩
  rw [hTA] at hlen ⊢
  have HTA := Lib.hid hTA
  have HTL := Lib.hid hlen
  clear hE hA hI hLoc htw hrest hs1 hs2 hs3 hs4 hcs hr hx hdrop hE2 hEV hVt hx2 hsl hTA hlen hacc
  simp only [Tr.cells, St.cells] at hV hV2
  simp only [Tr.cells]
  go_enter Tryd.func104, Tryd.ntmps104
  go_wp2_with fail
  clear r0 r1 r2 r3 r4 r5 r6 v0 x1 x2 hV hV2
  go_loopg [45] (x.dh - x.dl + 1).toNat (fun n i wx => ∃ (d : Nat) (t' : Tr) (cur : List Tr), (d : Int) ≤ x.dh - x.dl + 1 ∧ n = (x.dh - x.dl + 1).toNat - d ∧ i = .int .i64 d ∧ Loc b M l Bt Acc W.heap.size (W.heap.size + 1) x W t' cur wx ∧
    TrOk t' ∧ t'.w = (wn : Int) ∧ (∀ m r, t'.put j m r = t.put j m r) ∧ cur ++ goDrives (b.cost wn) b.cks x rest j t fr (upto (x.dl + d) x.dh) = TA)
  case atStart => exact ⟨0, t, pre, by omega, rfl, rfl, HL.out, ht, HTW.out, fun _ _ => rfl, by simpa using HTA.out⟩
  case round =>
    obtain ⟨d, t1, cur, hd, hgk, rfl, hL1, hok1, htw1, htp1, hT1⟩ := hrel
    have HG := Lib.hid hgk
    have HT1 := Lib.hid hT1
    have HL1 := Lib.hid hL1
    have HTW1 := Lib.hid htw1
    have HTP1 := Lib.hid htp1
    clear hgk hT1 htw1 htp1
    by_cases hlt : (d : Int) < x.dh - x.dl + 1
    · have x3 : wr.cell? ⟨W.heap.size + 1, 3, none⟩ = some (.int .i64 x.rl) := blk_cell hL1.xb
      clear hL1
      obtain ⟨TB, hTB⟩ : ∃ TB, cur ++ goRoads (b.cost wn) b.cks x rest j t fr (x.dl + d) (upto x.rl x.rh) = TB := ⟨_, rfl⟩
      have HTB := Lib.hid hTB
      clear hTB
      go_wp2_with fail
      go_step3
      go_wp2_with fail
      go_step3
      go_wp2_with fail
      go_loopg [13] (x.rh - x.rl + 1).toNat (fun n i wx => ∃ (r : Int) (t' : Tr) (cur : List Tr), (x.rl ≤ r ∧ r ≤ x.rh + 1) ∧ n = (x.rh + 1 - r).toNat ∧ i = .int .i64 r ∧ Loc b M l Bt Acc W.heap.size (W.heap.size + 1) x W t' cur wx ∧
        TrOk t' ∧ t'.w = (wn : Int) ∧ (∀ m r, t'.put j m r = t.put j m r) ∧ cur ++ goRoads (b.cost wn) b.cks x rest j t fr (x.dl + d) (upto r x.rh) = TB)
      case atStart => exact ⟨x.rl, t1, cur, by omega, by omega, rfl, HL1.out, hok1, HTW1.out, HTP1.out, HTB.out⟩
      case round =>
        rename_i gk1 wr1 _ _
        obtain ⟨r, t2, cur2, hr, hgk2, rfl, hL2, hok2, htw2, htp2, hT2⟩ := hrel
        have HG2 := Lib.hid hgk2
        have HT2 := Lib.hid hT2
        have HL2 := Lib.hid hL2
        have HTW2 := Lib.hid htw2
        have HTP2 := Lib.hid htp2
        have x4 : wr.cell? ⟨W.heap.size + 1, 4, none⟩ = some (.int .i64 x.rh) := blk_cell hL2.xb
        clear hgk2 hT2 htw2 htp2 hL2
        by_cases hlr : r ≤ x.rh
        · go_upto_region 10 with fail
          have hEr := HL2.out.env HA.out HE.out
          have t0 : wr.cell? ⟨W.heap.size, 0, none⟩ = some (.int .i64 (wn : Int)) := by rw [blk_cell HL2.out.tb, ← HTW2.out]; rfl
          have x1 : wr.cell? ⟨W.heap.size + 1, 1, none⟩ = some (.int .i64 x.dl) := blk_cell HL2.out.xb
          have c2 : wr.cell? ⟨Bb, 2 + wn, none⟩ = some (.int .i64 (b.cost wn)) := by
            rw [blk_cell hEr.hb]
            have hkk : wn = 0 ∨ wn = 1 ∨ wn = 2 := by omega
            rcases hkk with rfl | rfl | rfl <;> rfl
          have iw : (wn : Int) < 3 := by omega
          have HER := Lib.hid hEr
          clear hEr
          refine wp_region_det (S := fun L w' => w' = if L 12 then (wr.alloc (.cells #[.int .i64 fr, .int .i64 x.dl, .int .i64 (d : Int), .int .i64 r, .int .i64 (b.cost wn)] 3)).drew else wr.drew) (by kernel_rfl) (by kernel_rfl) rfl ?_
          apply det_cons
          · refine ⟨by rfl, fun L w hN hS => ?_⟩
            have h7 : L 12 = false := (hN.chain hN.free (k := 12) (by kernel_rfl))
            rw [h7, if_neg (by simp)] at hS
            subst hS
            have H7 := Lib.hid h7
            clear h7
            go_simp
            exact ⟨rfl, fun L' _ h2 => by show _ = if L' 12 = true then _ else _; rw [h2 12 (by decide), H7.out, if_neg (by simp)]⟩
          try simp only [Act.put, List.setIfInBounds_toArray, List.set_cons_zero, List.set_cons_succ]
          apply det_cons
          · refine ⟨by rfl, fun L w hN hS => ?_⟩
            have h7 : L 12 = false := (hN.chain (hN.chain (hN.chain hN.free (k := 2) (by kernel_rfl)) (k := 3) (by kernel_rfl)) (k := 12) (by kernel_rfl))
            rw [h7, if_neg (by simp)] at hS
            subst hS
            have H7 := Lib.hid h7
            clear h7
            go_simp
            exact ⟨rfl, fun L' _ h2 => by show _ = if L' 12 = true then _ else _; rw [h2 12 (by decide), H7.out, if_neg (by simp)]⟩
          try simp only [Act.put, List.setIfInBounds_toArray, List.set_cons_zero, List.set_cons_succ]
          apply det_cons
          · refine ⟨by rfl, fun L w hN hS => ?_⟩
            have h7 : L 12 = false := (hN.chain (hN.chain hN.free (k := 3) (by kernel_rfl)) (k := 12) (by kernel_rfl))
            rw [h7, if_neg (by simp)] at hS
            subst hS
            have H7 := Lib.hid h7
            clear h7
            go_simp
            exact ⟨rfl, fun L' _ h2 => by show _ = if L' 12 = true then _ else _; rw [h2 12 (by decide), H7.out, if_neg (by simp)]⟩
          try simp only [Act.put, List.setIfInBounds_toArray, List.set_cons_zero, List.set_cons_succ]
          apply det_cons
          · refine ⟨by rfl, fun L w hN hS => ?_⟩
            have h7 : L 12 = false := (hN.chain hN.free (k := 12) (by kernel_rfl))
            rw [h7, if_neg (by simp)] at hS
            subst hS
            have H7 := Lib.hid h7
            clear h7
            go_simp
            exact ⟨rfl, fun L' _ h2 => by show _ = if L' 12 = true then _ else _; rw [h2 12 (by decide), H7.out, if_neg (by simp)]⟩
          try simp only [Act.put, List.setIfInBounds_toArray, List.set_cons_zero, List.set_cons_succ]
          apply det_cons
          · refine ⟨by rfl, fun L w hN hS => ?_⟩
            have h7 : L 12 = false := (hN.chain hN.free (k := 12) (by kernel_rfl))
            rw [h7, if_neg (by simp)] at hS
            subst hS
            have H7 := Lib.hid h7
            clear h7
            go_simp
            exact ⟨rfl, fun L' _ h2 => by show _ = if L' 12 = true then _ else _; rw [h2 12 (by decide), H7.out, if_neg (by simp)]⟩
          try simp only [Act.put, List.setIfInBounds_toArray, List.set_cons_zero, List.set_cons_succ]
          apply det_cons
          · refine ⟨by rfl, fun L w hN hS => ?_⟩
            have h7 : L 12 = false := (hN.chain hN.free (k := 12) (by kernel_rfl))
            rw [h7, if_neg (by simp)] at hS
            subst hS
            have H7 := Lib.hid h7
            clear h7
            go_simp
            exact ⟨rfl, fun L' _ h2 => by show _ = if L' 12 = true then _ else _; rw [h2 12 (by decide), H7.out, if_neg (by simp)]⟩
          try simp only [Act.put, List.setIfInBounds_toArray, List.set_cons_zero, List.set_cons_succ]
          apply det_cons
          · refine ⟨by rfl, fun L w hN hS => ?_⟩
            have h7 : L 12 = false := (hN.chain (hN.chain (hN.chain (hN.chain hN.free (k := 7) (by kernel_rfl)) (k := 10) (by kernel_rfl)) (k := 11) (by kernel_rfl)) (k := 12) (by kernel_rfl))
            rw [h7, if_neg (by simp)] at hS
            subst hS
            have H7 := Lib.hid h7
            clear h7
            go_simp
            exact ⟨rfl, fun L' _ h2 => by show _ = if L' 12 = true then _ else _; rw [h2 12 (by decide), H7.out, if_neg (by simp)]⟩
          try simp only [Act.put, List.setIfInBounds_toArray, List.set_cons_zero, List.set_cons_succ]
          apply det_cons
          · refine ⟨by rfl, fun L w hN hS => ?_⟩
            have h7 : L 12 = false := (hN.chain (hN.chain (hN.chain hN.free (k := 10) (by kernel_rfl)) (k := 11) (by kernel_rfl)) (k := 12) (by kernel_rfl))
            rw [h7, if_neg (by simp)] at hS
            subst hS
            have H7 := Lib.hid h7
            clear h7
            go_simp
            exact ⟨rfl, fun L' _ h2 => by show _ = if L' 12 = true then _ else _; rw [h2 12 (by decide), H7.out, if_neg (by simp)]⟩
          try simp only [Act.put, List.setIfInBounds_toArray, List.set_cons_zero, List.set_cons_succ]
          apply det_cons
          · refine ⟨by rfl, fun L w hN hS => ?_⟩
            have h7 : L 12 = false := (hN.chain (hN.chain (hN.chain (hN.chain hN.free (k := 9) (by kernel_rfl)) (k := 10) (by kernel_rfl)) (k := 11) (by kernel_rfl)) (k := 12) (by kernel_rfl))
            rw [h7, if_neg (by simp)] at hS
            subst hS
            have H7 := Lib.hid h7
            clear h7
            go_simp
            exact ⟨rfl, fun L' _ h2 => by show _ = if L' 12 = true then _ else _; rw [h2 12 (by decide), H7.out, if_neg (by simp)]⟩
          try simp only [Act.put, List.setIfInBounds_toArray, List.set_cons_zero, List.set_cons_succ]
          apply det_cons
          · refine ⟨by rfl, fun L w hN hS => ?_⟩
            have h7 : L 12 = false := (hN.chain (hN.chain (hN.chain hN.free (k := 10) (by kernel_rfl)) (k := 11) (by kernel_rfl)) (k := 12) (by kernel_rfl))
            rw [h7, if_neg (by simp)] at hS
            subst hS
            have H7 := Lib.hid h7
            clear h7
            go_simp
            exact ⟨rfl, fun L' _ h2 => by show _ = if L' 12 = true then _ else _; rw [h2 12 (by decide), H7.out, if_neg (by simp)]⟩
          try simp only [Act.put, List.setIfInBounds_toArray, List.set_cons_zero, List.set_cons_succ]
          apply det_cons
          · refine ⟨by rfl, fun L w hN hS => ?_⟩
            have h7 : L 12 = false := (hN.chain (hN.chain hN.free (k := 11) (by kernel_rfl)) (k := 12) (by kernel_rfl))
            rw [h7, if_neg (by simp)] at hS
            subst hS
            have H7 := Lib.hid h7
            clear h7
            go_simp
            exact ⟨rfl, fun L' _ h2 => by show _ = if L' 12 = true then _ else _; rw [h2 12 (by decide), H7.out, if_neg (by simp)]⟩
          try simp only [Act.put, List.setIfInBounds_toArray, List.set_cons_zero, List.set_cons_succ]
          apply det_cons
          · refine ⟨by rfl, fun L w hN hS => ?_⟩
            have h7 : L 12 = false := (hN.chain hN.free (k := 12) (by kernel_rfl))
            rw [h7, if_neg (by simp)] at hS
            subst hS
            have H7 := Lib.hid h7
            clear h7
            go_simp
            exact ⟨rfl, fun L' _ h2 => by show _ = if L' 12 = true then _ else _; rw [h2 12 (by decide), H7.out, if_neg (by simp)]⟩
          try simp only [Act.put, List.setIfInBounds_toArray, List.set_cons_zero, List.set_cons_succ]
          apply det_cons
          · refine ⟨by rfl, fun L w hN hS => ?_⟩
            have h7 : L 12 = false := hN.free
            rw [h7, if_neg (by simp)] at hS
            subst hS
            have H7 := Lib.hid h7
            clear h7
            go_simp
            exact ⟨rfl, fun L' h1 _ => by show _ = if L' 12 = true then _ else _; rw [h1, if_pos rfl]⟩
          try simp only [Act.put, List.setIfInBounds_toArray, List.set_cons_zero, List.set_cons_succ]
          apply det_cons
          · refine ⟨by rfl, fun L w hN hS => ?_⟩
            have h7 : L 12 = true := hN.was (by kernel_rfl)
            rw [h7, if_pos rfl] at hS
            subst hS
            have H7 := Lib.hid h7
            clear h7
            go_simp
            have hsl : SlOf (wr.alloc (.cells #[.int .i64 fr, .int .i64 x.dl, .int .i64 (d : Int), .int .i64 r, .int .i64 (b.cost wn)] 3)).drew (wr.heap.size + 1) 1 (.slice (some ⟨wr.heap.size, 0, none⟩) 5 5) (intCells [fr, x.dl, (d : Int), r, b.cost wn]) := five_slice wr _ _ _ _ _
            refine (sum_any _ _ _ _ hsl (by intro y hy; simp at hy; omega) (by simp)).mono ?_
            rintro e w' ⟨rfl, rfl⟩
            exact ⟨congrArg Ending.returned (congrArg (Value.int .i64) (five_sum fr x.dl d r (b.cost wn))), fun L' _ h2 => by show _ = if L' 12 = true then _ else _; rw [h2 12 (by decide), H7.out, if_pos rfl]⟩
          try simp only [Act.put, List.setIfInBounds_toArray, List.set_cons_zero, List.set_cons_succ]
          apply det_cons
          · refine ⟨by rfl, fun L w hN hS => ?_⟩
            have h7 : L 12 = true := hN.up (hN.was (j := 13) (by kernel_rfl)) (by kernel_rfl)
            rw [h7, if_pos rfl] at hS
            subst hS
            have H7 := Lib.hid h7
            clear h7
            go_simp
            exact ⟨rfl, fun L' _ h2 => by show _ = if L' 12 = true then _ else _; rw [h2 12 (by decide), H7.out, if_pos rfl]⟩
          try simp only [Act.put, List.setIfInBounds_toArray, List.set_cons_zero, List.set_cons_succ]
          refine det_nil ?_
          rintro L W3 hL hW3
          rw [hL 12 (by decide), if_pos rfl] at hW3
          have hB3 : Below wr.heap.size wr W3 := by rw [hW3]; exact ((Below.refl _ wr).alloc (Nat.le_refl _) _).drew
          have hL3 := HL2.out.below HA.out HE.out hB3
          have hE3 := hL3.env HA.out HE.out
          have HL3 := Lib.hid hL3
          have HE3 := Lib.hid hE3
          obtain ⟨mi, hmi⟩ : ∃ mi, fr + (x.dl + d) + r + b.cost wn = mi := ⟨_, rfl⟩
          rw [hmi]
          have hmb : 1 ≤ mi ∧ mi ≤ 170 * j + 150 := by omega
          have HMI := Lib.hid hmi
          have q0 : W3.cell? ⟨Br, 0, none⟩ = some (.func (.func 103) #[.agg (b.cells9 (.slice (some ⟨g, q, none⟩) b.sts.length scap) k (.map (some M)) tv).toArray] #[]) := blk_cell hE3.hr
          clear hL3 hE3 hmi hL hW3 t0 x1 c2
          go_wp2_with fail
          refine (right_any _ b _ k tv M n (j : Int) mi HE3.out.hn HE3.out.hk HE3.out.hM HE3.out.hG hb.ck hb.nc (by omega) (by omega)).mono ?_
          rintro e W4 ⟨rfl, hu4, hC4⟩
          have hL4 := HL3.out.right HA.out HE.out hu4 hC4
          have HL4 := Lib.hid hL4
          clear hL4 hu4 hC4 q0
          have hcon := goRoads_cons (b.cost wn) b.cks x rest j t fr (x.dl + d) hlr
          rw [HMI.out] at hcon
          obtain ⟨rb, hrb⟩ : ∃ rb, rightL b.cks j mi = rb := ⟨_, rfl⟩
          rw [hrb] at hcon ⊢
          have HCON := Lib.hid hcon
          clear hrb hcon
          cases rb with
          | false =>
            go_wp2_with fail
            go_roundg (x.rh + 1 - (r + 1)).toNat
            case measure => rw [HG2.out]; omega
            case rel => exact ⟨r + 1, t2, cur2, by omega, rfl, by go_num, HL4.out, hok2, HTW2.out, HTP2.out, by rw [← HT2.out, HCON.out]; simp⟩
          | true =>
            obtain ⟨tp, htp⟩ : ∃ tp, t.put j mi r = tp := ⟨_, rfl⟩
            have hokp : TrOk tp := by rw [← htp]; exact put_ok ht (by omega) (by omega)
            have hwp : tp.w = (wn : Int) := by rw [← htp, put_w]; exact HTW.out
            have hap : 0 < j + 1 → 1 ≤ tp.a0 := fun _ => by rw [← htp]; exact put_a0 (by omega) h0
            have hpp : ∀ m r', tp.put j m r' = t.put j m r' := fun m r' => by rw [← htp, put_put]
            have HTPP := Lib.hid htp
            have HPP := Lib.hid hpp
            have HWP := Lib.hid hwp
            have ca : W4.cell? ⟨W.heap.size, 1 + j, none⟩ = some (.int .i64 (t2.comes j)) := tr_cell_a t2 HL4.out.tb hj3
            have cb : W4.cell? ⟨W.heap.size, 4 + j, none⟩ = some (.int .i64 (t2.rough j)) := tr_cell_b t2 HL4.out.tb hj3
            have fz := blk_frozen HL4.out.tb
            have ij : (j : Int) < 3 := by omega
            clear htp hpp hwp
            go_upto_region 13 with fail
            obtain ⟨W5, hW5⟩ : ∃ W5, (W4.setCell ⟨W.heap.size, 1 + j, none⟩ (.int .i64 mi)).setCell ⟨W.heap.size, 4 + j, none⟩ (.int .i64 r) = W5 := ⟨_, rfl⟩
            have hL5 := HL4.out.put HA.out hj3 mi r (by omega) (Nat.le_refl _)
            rw [hW5] at hL5 ⊢
            rw [HTP2.out mi r, HTPP.out] at hL5
            have x5 : W5.cell? ⟨W.heap.size + 1, 5, none⟩ = some (.int .i64 x.sl) := blk_cell hL5.xb
            have HL5 := Lib.hid hL5
            clear hL5 hW5 ca cb fz
            obtain ⟨TC, hTC⟩ : ∃ TC, cur2 ++ goStops (b.cost wn) b.cks rest j t mi r (upto x.sl x.sh) = TC := ⟨_, rfl⟩
            have HTC := Lib.hid hTC
            clear hTC
            go_wp2_with fail
            go_loopg [15] (x.sh - x.sl + 1).toNat (fun n i wx => ∃ (s : Int) (cur : List Tr), (x.sl ≤ s ∧ s ≤ x.sh + 1) ∧ n = (x.sh + 1 - s).toNat ∧ i = .int .i64 s ∧ Loc b M l Bt Acc W.heap.size (W.heap.size + 1) x W tp cur wx ∧
              cur ++ goStops (b.cost wn) b.cks rest j t mi r (upto s x.sh) = TC)
            case atStart => exact ⟨x.sl, cur2, by omega, by omega, rfl, HL5.out, HTC.out⟩
            case round =>
              rename_i gk3 wr3 _ _
              obtain ⟨s, cur3, hs, hgk3, rfl, hL6, hT3⟩ := hrel
              have HG3 := Lib.hid hgk3
              have HT3 := Lib.hid hT3
              have HL6 := Lib.hid hL6
              have x6 : wr.cell? ⟨W.heap.size + 1, 6, none⟩ = some (.int .i64 x.sh) := blk_cell hL6.xb
              clear hgk3 hT3 hL6
              by_cases hls : s ≤ x.sh
              · have hE6 := HL6.out.env HA.out HE.out
                have d0 : wr.cell? ⟨Bd, 0, none⟩ = some (.func (.func 104) #[] #[.pointer (some ⟨Bb, 0, none⟩), .pointer (some ⟨By, 0, none⟩), .pointer (some ⟨Br, 0, none⟩), .pointer (some ⟨Bd, 0, none⟩)]) := blk_cell hE6.hd
                have p0 : wr.cell? ⟨W.heap.size, 0, none⟩ = some (.int .i64 tp.w) := blk_cell HL6.out.tb
                have p1 : wr.cell? ⟨W.heap.size, 1, none⟩ = some (.int .i64 tp.a0) := blk_cell HL6.out.tb
                have p2 : wr.cell? ⟨W.heap.size, 2, none⟩ = some (.int .i64 tp.a1) := blk_cell HL6.out.tb
                have p3 : wr.cell? ⟨W.heap.size, 3, none⟩ = some (.int .i64 tp.a2) := blk_cell HL6.out.tb
                have p4 : wr.cell? ⟨W.heap.size, 4, none⟩ = some (.int .i64 tp.b0) := blk_cell HL6.out.tb
                have p5 : wr.cell? ⟨W.heap.size, 5, none⟩ = some (.int .i64 tp.b1) := blk_cell HL6.out.tb
                have p6 : wr.cell? ⟨W.heap.size, 6, none⟩ = some (.int .i64 tp.b2) := blk_cell HL6.out.tb
                have HE6 := Lib.hid hE6
                clear hE6
                have hconS := goStops_cons (b.cost wn) b.cks rest j t mi r hls
                rw [HTPP.out] at hconS
                have HCONS := Lib.hid hconS
                clear hconS
                go_wp2_with fail
                have hcall := HI.out (j + 1) tp (mi + s) cur3 wr HRest.out (by omega) hokp HWP.out hap ⟨by omega, by rw [show ((j + 1 : Nat) : Int) = (j : Int) + 1 by omega]; omega⟩ HE6.out HL6.out.acc (by
                  have l1 := congrArg List.length HT3.out
                  have l2 := congrArg List.length HTC.out
                  have l3 := congrArg List.length HT2.out
                  have l4 := congrArg List.length HTB.out
                  have l5 := congrArg List.length HT1.out
                  have l6 := HTL.out
                  rw [HCONS.out] at l1
                  rw [HCON.out] at l3
                  rw [goDrives_cons _ _ _ _ _ _ _ (by omega)] at l5
                  simp only [if_true, List.length_append] at l1 l2 l3 l4 l5 ⊢
                  omega)
                rw [show ((j + 1 : Nat) : Int) = (j : Int) + 1 by omega] at hcall
                simp only [Tr.cells] at hcall
                refine hcall.mono ?_
                clear hcall
                rintro e W7 ⟨rfl, ha7, he7, hC7⟩
                have hL7 := HL6.out.step he7 ha7 hC7
                have HL7 := Lib.hid hL7
                clear hL7 ha7 he7 hC7
                go_wp2_with fail
                go_roundg (x.sh + 1 - (s + 1)).toNat
                case measure => rw [HG3.out]; omega
                case rel => exact ⟨s + 1, _, by omega, rfl, by go_num, HL7.out, by rw [← HT3.out, HCONS.out, List.append_assoc]⟩
              · have hT4 : cur3 = TC := by have := HT3.out; rw [upto_nil (by omega)] at this; simpa [goStops] using this
                have HT4 := Lib.hid hT4
                clear hT4
                go_wp2_with fail
                go_roundg (x.rh + 1 - (r + 1)).toNat
                case measure => rw [HG2.out]; omega
                case rel => exact ⟨r + 1, tp, cur3, by omega, rfl, by go_num, HL6.out, hokp, HWP.out, HPP.out, by rw [← HT2.out, HCON.out, HT4.out, ← HTC.out]; simp⟩
        · have hT4 : cur2 = TB := by have := HT2.out; rw [upto_nil (by omega)] at this; simpa [goRoads] using this
          have HT4 := Lib.hid hT4
          clear hT4
          go_wp2_with fail
          go_roundg ((x.dh - x.dl + 1).toNat - (d + 1))
          case measure => rw [HG.out]; omega
          case rel => exact ⟨d + 1, t2, cur2, by omega, rfl, by go_num, HL2.out, hok2, HTW2.out, HTP2.out, by
            rw [HT4.out, ← HTB.out, ← HT1.out, goDrives_cons (d := x.dl + d) _ _ _ _ _ _ _ (by omega), List.append_assoc, show x.dl + ((d + 1 : Nat) : Int) = x.dl + d + 1 by omega]⟩
    · have hT4 : cur = TA := by have := HT1.out; rw [upto_nil (by omega)] at this; simpa [goDrives] using this
      have HT4 := Lib.hid hT4
      clear hT4
      go_wp2
      go_ret
      exact ⟨rfl, HT4.out ▸ HL1.out.acc, HL1.out.eff, HL1.out.cache⟩
theorem drive_any (hA : AccLaw l Bt Acc) (hY : YieldsTo l Bt N Acc) (hb : Big b) (hl : 0 < b.sts.length) {wn : Nat} (hwn : wn < 3) : ∀ (rest : List St), (∃ j, b.sts.drop j = rest) → DriveAt b s k tv n M l Bt Bb By Br Bd (N - 1) wn Acc rest := by
  intro rest
  induction rest with
  | nil =>
    intro _ j t fr pre W hdrop hjl ht htw h0 hfr hE hacc hlen
    have hj : j = b.sts.length := by
      have := List.drop_eq_nil_iff.1 hdrop
      omega
    have hg : goes (b.cost wn) b.cks [] j t fr = [t] := rfl
    rw [hg] at hlen ⊢
    have hlt : pre.length < N := by simp at hlen; omega
    exact (drive_leaf hA hY hb j t fr pre W hj ht (h0 (by omega)) hE hacc hlt).mono fun e w' ⟨h1, h2, h3, h4, _⟩ => ⟨h1, h2, h3, h4⟩
  | cons x rest ih =>
    rintro ⟨j, hj⟩
    refine drive_step hA hb hwn (ih ⟨j + 1, ?_⟩)
    have h := congrArg List.tail hj
    simpa [List.tail_drop] using h
end
end Go.Proofs.YtbhjfojbjpbdbaaDoor
namespace Go.Proofs.YtbhjfojbjpbdbaaDoor
open Go.RowKit
section
variable {b : Bk} {s k tv : Value} {n M l Bt Bb By Br Bd N : Nat} {Acc : List Tr → World → Prop}
structure Env0 (b : Bk) (s k tv : Value) (n M l Bt Bb : Nat) (W : World) : Prop where
  hb : W.heap[Bb]? = some (.cells (b.cells9 s k (.map (some M)) tv).toArray 79)
  sb : Safe l Bt W Bb
  s0 : Safe l Bt W 0
  s1 : Safe l Bt W 1
  sM : Safe l Bt W M
  hs : SlOf W n 7 s (stCells b.sts)
  ss : SlSafe l Bt W s (stCells b.sts)
  hk : SlOf W n 3 k (ckCells b.cks)
  sk : SlSafe l Bt W k (ckCells b.cks)
  hM : CacheOk W M b.cks
  hG : Glob W
  hn : n ≤ W.heap.size
  lB : Bt < W.heap.size
  ll : l < W.heap.size
  la : ∀ k, accBlk Bt W = some k → k < W.heap.size
def truthsFrom (b : Bk) (w : Nat) : List Tr := ((List.range 3).drop w).flatMap fun w => if bitOf b.wth w then goes (b.cost w) b.cks b.sts 0 (Tr.start w) 0 else []
theorem Env0.env {W : World} (hE : Env0 b s k tv n M l Bt Bb W) : Env b s k tv n M l Bt Bb W.heap.size (W.heap.size + 1) (W.heap.size + 1 + 1)
    (((W.alloc (.cells #[.func (.yield l) #[] #[]] 122)).alloc (.cells #[.func (.func 103) #[.agg (b.cells9 s k (.map (some M)) tv).toArray] #[]] 123)).alloc
      (.cells #[.func (.func 104) #[] #[.pointer (some ⟨Bb, 0, none⟩), .pointer (some ⟨W.heap.size, 0, none⟩), .pointer (some ⟨W.heap.size + 1, 0, none⟩), .pointer (some ⟨W.heap.size + 1 + 1, 0, none⟩)]] 124)) := by
  obtain ⟨V1, h1⟩ : ∃ V1, W.alloc (.cells #[.func (.yield l) #[] #[]] 122) = V1 := ⟨_, rfl⟩
  obtain ⟨V2, h2⟩ : ∃ V2, V1.alloc (.cells #[.func (.func 103) #[.agg (b.cells9 s k (.map (some M)) tv).toArray] #[]] 123) = V2 := ⟨_, rfl⟩
  obtain ⟨V3, h3⟩ : ∃ V3, V2.alloc (.cells #[.func (.func 104) #[] #[.pointer (some ⟨Bb, 0, none⟩), .pointer (some ⟨W.heap.size, 0, none⟩), .pointer (some ⟨W.heap.size + 1, 0, none⟩), .pointer (some ⟨W.heap.size + 1 + 1, 0, none⟩)]] 124) = V3 := ⟨_, rfl⟩
  have z1 : V1.heap.size = W.heap.size + 1 := by rw [← h1]; simp
  have z2 : V2.heap.size = W.heap.size + 1 + 1 := by rw [← h2]; simp [z1]
  have b1 : Below W.heap.size W V1 := by rw [← h1]; exact (Below.refl _ _).alloc (Nat.le_refl _) _
  have b2 : Below V1.heap.size V1 V2 := by rw [← h2]; exact (Below.refl _ _).alloc (Nat.le_refl _) _
  have b3 : Below V2.heap.size V2 V3 := by rw [← h3]; exact (Below.refl _ _).alloc (Nat.le_refl _) _
  have y1 : V1.heap[W.heap.size]? = some (.cells #[.func (.yield l) #[] #[]] 122) := by rw [← h1]; exact World.alloc_heap_new _ _
  have y2 : V2.heap[W.heap.size + 1]? = some (.cells #[.func (.func 103) #[.agg (b.cells9 s k (.map (some M)) tv).toArray] #[]] 123) := by rw [← h2, ← z1]; exact World.alloc_heap_new _ _
  have y3 : V3.heap[W.heap.size + 1 + 1]? = some (.cells #[.func (.func 104) #[] #[.pointer (some ⟨Bb, 0, none⟩), .pointer (some ⟨W.heap.size, 0, none⟩), .pointer (some ⟨W.heap.size + 1, 0, none⟩), .pointer (some ⟨W.heap.size + 1 + 1, 0, none⟩)]] 124) := by
    rw [← h3, ← z2]; exact World.alloc_heap_new _ _
  rw [h1, h2, h3]
  clear h1 h2 h3
  have hB : Below W.heap.size W V3 := (b1.trans (b2.mono (by omega))).trans (b3.mono (by omega))
  have he : Eff M l Bt W V3 := Eff.of_below hE.lB hB
  have hz := hB.size
  have hnew : ∀ K, W.heap.size ≤ K → Safe l Bt V3 K := fun K hK =>
    ⟨by have := hE.ll; omega, by have := hE.lB; omega, fun e => by rw [accBlk_same (hB.block Bt hE.lB)] at e; have := hE.la K e; omega⟩
  have lt : ∀ {B : Nat} {o : Obj}, W.heap[B]? = some o → B < W.heap.size := fun h1 => (Array.getElem?_eq_some_iff.1 h1).1
  obtain ⟨es, c, hm, _⟩ := id hE.hM
  have gk : ∀ {B o v}, W.cell? ⟨B, o, none⟩ = some v → V3.cell? ⟨B, o, none⟩ = some v := fun h => (hB.cell (p := ⟨_, _, none⟩) (lt_of_cell h)).trans h
  exact ⟨(hB.block _ (lt hE.hb)).trans hE.hb, (b3.block _ (by omega)).trans ((b2.block _ (by omega)).trans y1), (b3.block _ (by omega)).trans y2, y3,
    hE.sb.eff (lt hE.hb) he, hnew _ (by omega), hnew _ (by omega), hnew _ (by omega), hE.s0.eff (lt_of_cell hE.hG.k0) he, hE.s1.eff (lt_of_cell hE.hG.n0) he, hE.sM.eff (lt hm) he,
    hE.hs.eff hm hE.ss he, hE.ss.eff hE.hs hE.hn he, hE.hk.eff hm hE.sk he, hE.sk.eff hE.hk hE.hn he, hE.hM.of_block (hB.block M (lt hm)),
    ⟨gk hE.hG.k0, gk hE.hG.k1, gk hE.hG.n0, gk hE.hG.n1⟩, by have := hE.hn; omega, by have := hE.lB; omega, by have := hE.ll; omega,
    fun k hk => by rw [accBlk_same (hB.block Bt hE.lB)] at hk; have := hE.la k hk; omega⟩
theorem truthsFrom_step (b : Bk) {q : Nat} (hq : q < 3) : truthsFrom b q = (if bitOf b.wth q then goes (b.cost q) b.cks b.sts 0 (Tr.start q) 0 else []) ++ truthsFrom b (q + 1) := by
  have hqq : q = 0 ∨ q = 1 ∨ q = 2 := by omega
  rcases hqq with rfl | rfl | rfl <;> simp [truthsFrom, List.range, List.range.loop]
theorem bit_eq {wth : Int} (hw : 1 ≤ wth ∧ wth ≤ 7) {q : Nat} (hq : q < 3) : (bits BinOp.and IntKind.i64 (wth / 2 ^ q) 1 == 1) = bitOf wth q := by
  have h1 : wth = 1 ∨ wth = 2 ∨ wth = 3 ∨ wth = 4 ∨ wth = 5 ∨ wth = 6 ∨ wth = 7 := by omega
  have h2 : q = 0 ∨ q = 1 ∨ q = 2 := by omega
  rcases h1 with rfl | rfl | rfl | rfl | rfl | rfl | rfl <;> rcases h2 with rfl | rfl | rfl <;> decide
set_option maxRecDepth 100000 in
set_option maxHeartbeats 2000000 in
theorem whole1_any (hA : AccLaw l Bt Acc) (hY : YieldsTo l Bt N Acc) (hb : Big b) (hl : 0 < b.sts.length) (hw : 1 ≤ b.wth ∧ b.wth ≤ 7) (pre : List Tr) (W : World) (hE : Env0 b s k tv n M l Bt Bb W) (hacc : Acc pre W)
    (hN : (pre ++ truths b).length ≤ N - 1) :
    Calls Tryd.prog 102 #[.func (.yield l) #[] #[], .pointer (some ⟨Bb, 0, none⟩)] W fun e W' => (∃ v, e = .returned v) ∧ Acc (pre ++ truths b) W' ∧ Eff M l Bt W W' ∧ CacheOk W' M b.cks := by
  obtain ⟨sts, wth, c0, c1, c2, cks, rate⟩ := b
  have q0 : W.cell? ⟨Bb, 0, none⟩ = some s := blk_cell hE.hb
  have q1 : W.cell? ⟨Bb, 1, none⟩ = some (.int .i64 wth) := blk_cell hE.hb
  have q2 : W.cell? ⟨Bb, 2, none⟩ = some (.int .i64 c0) := blk_cell hE.hb
  have q3 : W.cell? ⟨Bb, 3, none⟩ = some (.int .i64 c1) := blk_cell hE.hb
  have q4 : W.cell? ⟨Bb, 4, none⟩ = some (.int .i64 c2) := blk_cell hE.hb
  have q5 : W.cell? ⟨Bb, 5, none⟩ = some k := blk_cell hE.hb
  have q6 : W.cell? ⟨Bb, 6, none⟩ = some (.int .i64 rate) := blk_cell hE.hb
  have q7 : W.cell? ⟨Bb, 7, none⟩ = some (.map (some M)) := blk_cell hE.hb
  have q8 : W.cell? ⟨Bb, 8, none⟩ = some tv := blk_cell hE.hb
  have lb : Bb < W.heap.size := (Array.getElem?_eq_some_iff.1 hE.hb).1
  have HE := Lib.hid hE
  have HA := Lib.hid hA
  have HY := Lib.hid hY
  have HAcc := Lib.hid hacc
  have HN := Lib.hid hN
  clear hE hA hY hacc hN
  have hpt : pre ++ truths ⟨sts, wth, c0, c1, c2, cks, rate⟩ = pre ++ truthsFrom ⟨sts, wth, c0, c1, c2, cks, rate⟩ 0 := rfl
  obtain ⟨TA, hTA⟩ : ∃ TA, pre ++ truths ⟨sts, wth, c0, c1, c2, cks, rate⟩ = TA := ⟨_, rfl⟩
  rw [hTA]
  have HPT := Lib.hid (hTA.symm.trans hpt)
  have HTL := Lib.hid (hTA ▸ HN.out)
  clear hpt hTA HN
  go_enter Tryd.func102, Tryd.ntmps102
  go_upto_region 4 with fail
  have hEV := HE.out.env
  simp only [Bk.cells9] at hEV
  obtain ⟨V, hV⟩ : ∃ V, ((W.alloc (.cells #[.func (.yield l) #[] #[]] 122)).alloc (.cells #[.func (.func 103) #[.agg #[s, .int .i64 wth, .int .i64 c0, .int .i64 c1, .int .i64 c2, k, .int .i64 rate, .map (some M), tv]] #[]] 123)).alloc
      (.cells #[.func (.func 104) #[] #[.pointer (some ⟨Bb, 0, none⟩), .pointer (some ⟨W.heap.size, 0, none⟩), .pointer (some ⟨W.heap.size + 1, 0, none⟩), .pointer (some ⟨W.heap.size + 1 + 1, 0, none⟩)]] 124) = V := ⟨_, rfl⟩
  have hBV : Below W.heap.size W V := by rw [← hV]; exact (((Below.refl _ _).alloc (Nat.le_refl _) _).alloc (by simp) _).alloc (by simp; omega) _
  rw [hV] at hEV ⊢
  have hAV := acc_below HA.out HAcc.out HE.out.ll HE.out.lB hBV
  have HEV := Lib.hid hEV
  have HAV := Lib.hid hAV
  have HB := Lib.hid hb
  clear hEV hAV hV q0 q1 q2 q3 q4 q5 q6 q7 q8 hb
  go_wp2_with fail
  go_loopg [9] 3 (fun n i wx => ∃ (q : Nat) (cur : List Tr), q ≤ 3 ∧ n = 3 - q ∧ i = .int .i64 q ∧ Acc cur wx ∧ Eff M l Bt V wx ∧ CacheOk wx M cks ∧ cur ++ truthsFrom ⟨sts, wth, c0, c1, c2, cks, rate⟩ q = TA)
  case atStart => exact ⟨0, pre, by omega, rfl, rfl, HAV.out, Eff.refl V, HEV.out.hM, HPT.out.symm⟩
  case round =>
    obtain ⟨q, cur, hq, hgk, rfl, ha, he, hC, hT⟩ := hrel
    have HG := Lib.hid hgk
    have HT := Lib.hid hT
    have hEx := HEV.out.eff he hC (HA.out.lt _ _ · ha)
    have HEX := Lib.hid hEx
    have HA1 := Lib.hid ha
    have HF1 := Lib.hid he
    have HC1 := Lib.hid hC
    clear hgk hT
    by_cases hq3 : q < 3
    · have q1 : wr.cell? ⟨Bb, 1, none⟩ = some (.int .i64 wth) := blk_cell hEx.hb
      have d0 : wr.cell? ⟨W.heap.size + 1 + 1, 0, none⟩ = some (.func (.func 104) #[] #[.pointer (some ⟨Bb, 0, none⟩), .pointer (some ⟨W.heap.size, 0, none⟩), .pointer (some ⟨W.heap.size + 1, 0, none⟩), .pointer (some ⟨W.heap.size + 1 + 1, 0, none⟩)]) := blk_cell hEx.hd
      have hst := truthsFrom_step ⟨sts, wth, c0, c1, c2, cks, rate⟩ hq3
      clear hEx ha he hC
      have hbb := bit_eq hw hq3
      by_cases hbit : bitOf wth q = true
      · rw [hbit] at hbb
        simp only [hbit, if_true] at hst
        have HST := Lib.hid hst
        clear hst hbit
        go_wp2_with fail
        have hcall := drive_any HA.out HY.out HB.out hl hq3 sts ⟨0, rfl⟩ 0 (Tr.start q) 0 cur wr rfl (Nat.zero_le _) ⟨by simp [Tr.start]; omega, by simp [Tr.start], by simp [Tr.start], by simp [Tr.start], by simp [Tr.start], by simp [Tr.start], by simp [Tr.start]⟩ rfl (by omega) (by omega) HEX.out HA1.out (by
          have l1 := congrArg List.length HT.out
          rw [HST.out] at l1
          have l2 := HTL.out
          simp only [List.length_append] at l1 ⊢
          omega)
        simp only [Tr.cells, Tr.start, Int.natCast_zero] at hcall
        refine hcall.mono ?_
        clear hcall
        rintro e W7 ⟨rfl, ha7, he7, hC7⟩
        have HA7 := Lib.hid ha7
        have HF7 := Lib.hid he7
        have HC7 := Lib.hid hC7
        clear ha7 he7 hC7
        go_wp2_with fail
        go_roundg (3 - (q + 1))
        case measure => rw [HG.out]; omega
        case rel => exact ⟨q + 1, _, by omega, rfl, by go_num, HA7.out, HF1.out.trans HF7.out, HC7.out, by rw [← HT.out, HST.out, List.append_assoc]; rfl⟩
      · have hbf : bitOf wth q = false := by simpa using hbit
        rw [hbf] at hbb
        simp only [hbf] at hst
        have HST := Lib.hid hst
        clear hst hbit hbf
        go_wp2_with fail
        go_roundg (3 - (q + 1))
        case measure => rw [HG.out]; omega
        case rel => exact ⟨q + 1, cur, by omega, rfl, by go_num, HA1.out, HF1.out, HC1.out, by rw [← HT.out, HST.out]; simp⟩
    · have hT4 : cur = TA := by have := HT.out; rw [show q = 3 by omega, show truthsFrom ⟨sts, wth, c0, c1, c2, cks, rate⟩ 3 = [] from rfl, List.append_nil] at this; exact this
      have HT4 := Lib.hid hT4
      clear hT4 hEx ha he hC
      go_wp2
      refine bodyPost_end (v := .tuple #[]) (by simp [results, Tryd.results102, go_sem]) rfl ?_
      exact ⟨⟨_, rfl⟩, HT4.out ▸ HA1.out, (Eff.of_below HE.out.lB hBV).trans HF1.out, HC1.out⟩
theorem whole_any (b : Bk) (s k m tv : Value) (W : World) : Calls Tryd.prog 95 #[.agg (b.cells9 s k m tv).toArray] W fun e W' =>
    e = .returned (.func (.func 102) #[] #[.pointer (some ⟨W.heap.size, 0, none⟩)]) ∧ W' = W.alloc (.cells (b.cells9 s k m tv).toArray 79) := by
  simp only [Bk.cells9]
  go_enter Tryd.func95, Tryd.ntmps95
  go_wp2
  go_ret
  exact ⟨rfl, rfl⟩
end
end Go.Proofs.YtbhjfojbjpbdbaaDoor
namespace Go.Proofs.YtbhjfojbjpbdbaaDoor
open Go.RowKit
theorem mk76 : ∀ w, (Instr.makeMap 76 none).run Tryd.prog w = .ok (.map (some w.heap.size)) (w.alloc (.map #[] 0)) := fun _ => rfl
def nowEntry : MapEntry := { key := .agg #[.int .i64 (-1), .int .i64 (-1)], val := .bool false, born := 0 }
theorem ins76 : ∀ (w : World) (M : Nat), w.heap[M]? = some (.map #[] 0) → (Instr.mapUpdate 76 (.map (some M)) (.agg #[.int .i64 (-1), .int .i64 (-1)]) (.bool false)).run Tryd.prog w = .ok () (w.putObj M (.map #[nowEntry] 1)) := by
  intro w M h1
  obtain ⟨r, hr, hj⟩ := findKey115 (-1) (-1) w [] (by simp [KeysOk])
  have hu : ∀ w, (underlying 76).run Tryd.prog w = .ok (.map 115 4) w := fun _ => by kernel_rfl
  have hg : (getObj M).run Tryd.prog w = .ok (.map #[] 0) w := by simp [getObj, Sem.run, h1]
  have hs : ∀ o, (setObj M o).run Tryd.prog w = .ok () (w.putObj M o) := fun o => by simp [setObj, Sem.run, h1, World.putObj]
  cases r with
  | none => simp only [Instr.mapUpdate, Sem.run_bind, hu, Result.andThen_ok, hg, ck115, hr, hs]; rfl
  | some p =>
    obtain ⟨j, v0⟩ := p
    obtain ⟨e, he, hek, hev⟩ := hj j v0 rfl
    simp at he
structure Put (Y X : World) (M : Nat) : Prop where
  run : (Instr.mapUpdate 76 (.map (some M)) (.agg #[.int .i64 (-1), .int .i64 (-1)]) (.bool false)).run Tryd.prog Y = .ok () X
  size : X.heap.size = Y.heap.size
  map : X.heap[M]? = some (.map #[nowEntry] 1)
  old : ∀ k, k ≠ M → X.heap[k]? = Y.heap[k]?
  os : X.os = Y.os
  tape : X.tape = Y.tape
  output : X.output = Y.output
theorem Put.mk' {Y : World} {M : Nat} (h : Y.heap[M]? = some (.map #[] 0)) : ∃ X, Put Y X M := by
  have hlt := (Array.getElem?_eq_some_iff.1 h).1
  exact ⟨_, ins76 Y M h, by simp [World.putObj], World.putObj_heap_same hlt, fun k hk => World.putObj_heap_other (fun e => hk e) , rfl, rfl, rfl⟩
theorem Put.cell {Y X : World} {M B j : Nat} {v : Value} (h : Put Y X M) (hne : B ≠ M) (hc : Y.cell? ⟨B, j, none⟩ = some v) : X.cell? ⟨B, j, none⟩ = some v :=
  (World.cell?_of_block (w := Y) (a := ⟨B, j, none⟩) (h.old B hne)).trans hc
abbrev zero79 : Obj := .cells #[.slice none 0 0, .int .i64 0, .int .i64 0, .int .i64 0, .int .i64 0, .slice none 0 0, .int .i64 0, .map none, .slice none 0 0] 79
theorem info42 : (Tryd.prog.info? 42).map (fun i => (i.zero, i.size, i.bytes)) = some (some (.agg #[.int .i64 0, .int .i64 0, .int .i64 0]), 3, 24) := by kernel_rfl
theorem info87 : (Tryd.prog.info? 87).map (fun i => (i.zero, i.size, i.bytes)) = some (some (.agg #[.int .i64 0, .int .i64 0, .int .i64 0, .int .i64 0, .int .i64 0, .int .i64 0, .int .i64 0]), 7, 56) := by kernel_rfl
structure Fil (b : Bk) (s : Value) (M Bt n0 : Nat) (V : World) (done : List Ck) (kv : Value) (w : World) : Prop where
  bt : w.heap[Bt]? = some (.cells (b.cells9 s kv (.map (some M)) (.slice none 0 0)).toArray 79)
  map : w.heap[M]? = some (.map #[nowEntry] 1)
  row : w.ownsRow n0 42 3 kv done.length (done.flatMap Ck.cells)
  old : Below V.heap.size V w
  sz : n0 ≤ w.heap.size
  lb : Bt < n0
  lm : M < n0
  vb : V.heap.size ≤ Bt
  v0 : V.heap.size ≤ n0
theorem Fil.alloc {b : Bk} {s : Value} {M Bt n0 : Nat} {V : World} {done : List Ck} {kv : Value} {w : World} (h : Fil b s M Bt n0 V done kv w) (o : Obj) : Fil b s M Bt n0 V done kv (w.alloc o) :=
  ⟨(heap_alloc_old w o (by have := h.sz; have := h.lb; omega)).trans h.bt, (heap_alloc_old w o (by have := h.sz; have := h.lm; omega)).trans h.map, h.row.alloc o,
    h.old.alloc (by have := h.sz; have := h.v0; omega) o, by have := h.sz; simp; omega, h.lb, h.lm, h.vb, h.v0⟩
theorem Fil.push {b : Bk} {s : Value} {M Bt n0 : Nat} {V : World} {done : List Ck} {kv : Value} {w w1 : World} (h : Fil b s M Bt n0 V done kv w) {c : Ck} {v' : Value} {tmp : Obj}
    (hown : w1.ownsRow n0 42 3 v' (done.length + 1) (done.flatMap Ck.cells ++ c.cells)) (hg : (w.alloc tmp).grownBy w1 kv.ownBlock) :
    Fil b s M Bt n0 V (done ++ [c]) v' (w1.setCell ⟨Bt, 5, none⟩ v') := by
  have hlt : ∀ k, kv.ownBlock = some k → n0 ≤ k ∧ k < w.heap.size := h.row.lt
  have hlt' := hown.lt
  have hz : n0 ≤ w1.heap.size := by have := hg.size; have := h.sz; simp at *; omega
  have keep : ∀ k, k < n0 → w1.heap[k]? = w.heap[k]? := fun k hk =>
    (hg.block k (by have := h.sz; simp; omega) (fun e => by have := (hlt k e.symm).1; omega)).trans (heap_alloc_old w tmp (by have := h.sz; omega))
  refine ⟨?_, ?_, ?_, ?_, by simpa [World.setCell] using hz, h.lb, h.lm, h.vb, h.v0⟩
  · rw [blk_set ((keep Bt h.lb).trans h.bt)]
    simp [Bk.cells9]
  · exact (Below.heap_setCell _ _ _ _ (by intro e; have h1 := (keep Bt h.lb).trans h.bt; have h2 := (keep M h.lm).trans h.map; rw [e] at h2; rw [h1] at h2; cases h2)).trans ((keep M h.lm).trans h.map)
  · have := hown.kept (w' := w1.setCell ⟨Bt, 5, none⟩ v') (row := some Bt) ⟨rfl, rfl, rfl, by simp [World.setCell], fun k _ hk => Below.heap_setCell _ _ _ k (fun e => hk (by rw [e]))⟩
      (.inr fun e => by have := (hlt' Bt e).1; have := h.lb; omega)
    simpa [List.flatMap_append] using this
  · refine ((h.old.alloc (by have := h.sz; have := h.v0; omega) tmp).grown hg (by have := h.sz; have := h.v0; simp; omega) fun k e => ?_).setCell (p := ⟨Bt, 5, none⟩) h.vb v'
    have := (hlt k e).1
    have := h.v0
    omega
theorem leaveOut_append : ∀ (l1 l2 : List Ck) (but : List Nat) (k : Nat), leaveOut but k (l1 ++ l2) = leaveOut but k l1 ++ leaveOut but (k + l1.length) l2
  | [], l2, but, k => by simp [leaveOut]
  | c :: l1, l2, but, k => by
    simp only [List.cons_append, leaveOut, leaveOut_append l1 l2 but (k + 1), List.length_cons]
    rw [show k + 1 + l1.length = k + (l1.length + 1) by omega]
    split <;> simp
theorem leaveOut_take {cks : List Ck} {but : List Nat} {q : Nat} {c : Ck} (h : cks[q]? = some c) : leaveOut but 0 (cks.take (q + 1)) = leaveOut but 0 (cks.take q) ++ (if but.contains q then [] else [c]) := by
  have hlt : q < cks.length := (List.getElem?_eq_some_iff.1 h).1
  rw [List.take_add_one, h, leaveOut_append]
  simp only [Option.toList_some, List.length_take, Nat.min_eq_left (Nat.le_of_lt hlt), Nat.zero_add, leaveOut]
theorem leaveOut_le : ∀ (cks : List Ck) (but : List Nat) (k : Nat), (leaveOut but k cks).length ≤ cks.length
  | [], _, _ => Nat.le_refl _
  | c :: l, but, k => by
    have := leaveOut_le l but (k + 1)
    simp only [leaveOut]
    split <;> simp <;> omega
theorem addr_add (g j : Nat) : (⟨g, 0, none⟩ : Addr).add j = ⟨g, j, none⟩ := by unfold Addr.add; split <;> simp_all
end Go.Proofs.YtbhjfojbjpbdbaaDoor
namespace Go.Proofs.YtbhjfojbjpbdbaaDoor
open Go.RowKit
structure At (b : Bk) (s kv : Value) (M Bt l n1 : Nat) (r : Loop) (cur : List Tr) (W : World) : Prop where
  L : W.heap[l]? = some (.loop r)
  bt : ∃ tv, W.heap[Bt]? = some (.cells (b.cells9 s kv (.map (some M)) tv).toArray 79) ∧ W.ownsRow n1 87 7 tv cur.length (cur.flatMap Tr.cells)
  sz : n1 ≤ W.heap.size
theorem accBlk_own {b : Bk} {s kv m tv : Value} {Bt n1 k : Nat} {W : World} {xs : List Value} (h : W.heap[Bt]? = some (.cells (b.cells9 s kv m tv).toArray 79)) (hr : W.ownsRow n1 87 7 tv k xs) : accBlk Bt W = tv.ownBlock := by
  have h8 : W.cell? ⟨Bt, 8, none⟩ = some tv := (blk_cell h).trans rfl
  unfold accBlk
  rw [h8]
  rcases hr.2 with ⟨rfl, _⟩ | ⟨g, cap, cur, rfl, _⟩ <;> rfl
theorem ownsRow_same {W W' : World} {base : Nat} {e : TypeId} {size : Nat} {v : Value} {k : Nat} {xs : List Value} (h : W.ownsRow base e size v k xs) (hs : ∀ g, v.ownBlock = some g → W'.heap[g]? = W.heap[g]?) : W'.ownsRow base e size v k xs := by
  refine ⟨h.1, ?_⟩
  rcases h.2 with hn | ⟨g, cap, cur, rfl, hb, hg, rest⟩
  · exact .inl hn
  · exact .inr ⟨g, cap, cur, rfl, hb, (hs g rfl).trans hg, rest⟩
theorem At.law {b : Bk} {s kv : Value} {M Bt l n1 : Nat} {r : Loop} : AccLaw l Bt (At b s kv M Bt l n1 r) := by
  refine ⟨fun pre W W' h hz hk => ?_, fun pre W k h hk => ?_⟩
  · obtain ⟨tv, hb, hr⟩ := h.bt
    have ha := accBlk_own hb hr
    exact ⟨(hk l (.inl rfl)).trans h.L, ⟨tv, (hk Bt (.inr (.inl rfl))).trans hb, ownsRow_same hr fun g hg => hk g (.inr (.inr (ha.trans hg)))⟩, Nat.le_trans h.sz hz⟩
  · obtain ⟨tv, hb, hr⟩ := h.bt
    rw [accBlk_own hb hr] at hk
    exact (hr.lt k hk).2
def RoundPost (l Bt : Nat) (Acc : List Tr → World → Prop) (pre : List Tr) (t : Tr) (W : World) (e : Ending) (W' : World) : Prop :=
  e = .returned (.bool true) ∧ Acc (pre ++ [t]) W' ∧ Upd (fun k => k = l ∨ k = Bt ∨ accBlk Bt W = some k) W W' ∧ (∀ k, accBlk Bt W' = some k → accBlk Bt W = some k ∨ W.heap.size ≤ k)
def RoundOk (A B : Code) (l Bt : Nat) (T : Array Value) (N : Nat) (Acc : List Tr → World → Prop) : Prop :=
  ∀ (pre : List Tr) (t : Tr) (W : World), Acc pre W → pre.length < N →
    A.wpIn (Fence.wide.inRound l) 0 Tryd.prog (Exit.then (fun a₁ w₁ => ∃ w₂, (Instr.beginRound l).run Tryd.prog w₁ = .ok () w₂ ∧ B.wpIn (Fence.wide.inRound l) 0 Tryd.prog (roundPost Tryd.prog l (RoundPost l Bt Acc pre t W)) a₁ w₂) (fun _ _ _ => False))
      { tmps := T.setIfInBounds 39 (.agg t.cells.toArray), defers := [] } W
theorem RoundOk.yields {A B : Code} {b : Bk} {s kv : Value} {M Bt l n1 N : Nat} {r : Loop} (hA : r.assign = A) (hB : r.body = B) (hp : r.params = #[39])
    (h : RoundOk A B l Bt r.tmps N (At b s kv M Bt l n1 r)) : YieldsTo l Bt N (At b s kv M Bt l n1 r) := by
  intro pre t W hacc _ hlen
  refine ⟨r.fn, r.tmps.setIfInBounds 39 (.agg t.cells.toArray), r.assign, r.body, ?_, ?_⟩
  · have := run_yield (P := Tryd.prog) (args := #[.agg t.cells.toArray]) hacc.L (by rw [hp]; rfl)
    rw [this, hp]
    simp
  · have := h pre t W hacc hlen
    rw [hA, hB]
    exact roundIn_of_wpIn trivial this
theorem round_end {b : Bk} {s kv : Value} {M Bt l n1 : Nat} {r : Loop} {pre : List Tr} {t : Tr} {W w2 w3 : World} {tv v' : Value} {tb tmp : Obj} (hacc : At b s kv M Bt l n1 r pre W) (hready : r.state = .ready) (hpend : r.pending = none)
    (hlB : l ≠ Bt) (hln : l < n1) (hBn : Bt < n1) (hb : W.heap[Bt]? = some (.cells (b.cells9 s kv (.map (some M)) tv).toArray 79)) (hr : W.ownsRow n1 87 7 tv pre.length (pre.flatMap Tr.cells))
    (h2 : (W.alloc tb).putObj l (.loop { r with state := .busy }) = w2)
    (hown : w3.ownsRow n1 87 7 v' (pre.length + 1) (pre.flatMap Tr.cells ++ t.cells)) (hg : (w2.alloc tmp).grownBy w3 tv.ownBlock) (hat : v'.ownBlock = tv.ownBlock ∨ v'.ownBlock = some (w2.alloc tmp).heap.size) :
    ∃ v w5, (Instr.endRound l none).run Tryd.prog (w3.setCell ⟨Bt, 8, none⟩ v') = .ok v w5 ∧ RoundPost l Bt (At b s kv M Bt l n1 r) pre t W (.returned v) w5 := by
  have ha := accBlk_own hb hr
  have hlW : l < W.heap.size := (Array.getElem?_eq_some_iff.1 hacc.L).1
  have hBW : Bt < W.heap.size := (Array.getElem?_eq_some_iff.1 hb).1
  have hz2 : w2.heap.size = W.heap.size + 1 := by rw [← h2]; simp [World.putObj]
  have hz3 : W.heap.size + 2 ≤ w3.heap.size := by have := hg.size; simp at this; omega
  have hown_lt := hr.lt
  have k2 : ∀ k, k ≠ l → k < W.heap.size → w2.heap[k]? = W.heap[k]? := fun k h1 h3 => by
    rw [← h2]; exact (World.putObj_heap_other (fun e => h1 e)).trans (heap_alloc_old W tb h3)
  have l2 : w2.heap[l]? = some (.loop { r with state := .busy }) := by rw [← h2]; exact World.putObj_heap_same (by simp; omega)
  have k3 : ∀ k, k < w2.heap.size → tv.ownBlock ≠ some k → w3.heap[k]? = w2.heap[k]? := fun k h1 h4 => (hg.block k (by simp; omega) (fun e => h4 e.symm)).trans (heap_alloc_old w2 tmp h1)
  have nl : tv.ownBlock ≠ some l := fun e => by have := (hown_lt l e).1; omega
  have nB : tv.ownBlock ≠ some Bt := fun e => by have := (hown_lt Bt e).1; omega
  have l3 : w3.heap[l]? = some (.loop { r with state := .busy }) := (k3 l (by omega) nl).trans l2
  have b3 : w3.heap[Bt]? = some (.cells (b.cells9 s kv (.map (some M)) tv).toArray 79) := (k3 Bt (by omega) nB).trans ((k2 Bt hlB.symm hBW).trans hb)
  obtain ⟨w4, h4⟩ : ∃ w4, w3.setCell ⟨Bt, 8, none⟩ v' = w4 := ⟨_, rfl⟩
  have z4 : w4.heap.size = w3.heap.size := by rw [← h4]; simp [World.setCell]
  have l4 : w4.heap[l]? = some (.loop { r with state := .busy }) := by rw [← h4]; exact (Below.heap_setCell _ _ _ _ hlB).trans l3
  have b4 : w4.heap[Bt]? = some (.cells (b.cells9 s kv (.map (some M)) v').toArray 79) := by rw [← h4, blk_set b3]; simp [Bk.cells9]
  have k4 : ∀ k, k ≠ Bt → w4.heap[k]? = w3.heap[k]? := fun k hk => by rw [← h4]; exact Below.heap_setCell _ _ _ _ hk
  have hown4 : w4.ownsRow n1 87 7 v' (pre.length + 1) (pre.flatMap Tr.cells ++ t.cells) := ownsRow_same hown fun g hg' => k4 g (fun e => by have := (hown.lt g hg').1; omega)
  rw [h4]
  refine ⟨_, _, run_endRound none l4, rfl, ?_, ?_, ?_⟩
  · obtain ⟨w5, h5⟩ : ∃ w5, w4.putObj l (.loop { { r with state := .busy } with state := if (none : Option Code).isNone then .ready else .done, pending := none }) = w5 := ⟨_, rfl⟩
    rw [h5]
    refine ⟨?_, ⟨v', ?_, ?_⟩, ?_⟩
    · rw [← h5, World.putObj_heap_same (Array.getElem?_eq_some_iff.1 l4).1]
      simp [← hready, ← hpend]
    · rw [← h5]; exact (World.putObj_heap_other hlB.symm).trans b4
    · simp only [List.length_append, List.length_cons, List.length_nil, List.flatMap_append, List.flatMap_cons, List.flatMap_nil, List.append_nil]
      refine ownsRow_same hown4 fun g hg' => ?_
      rw [← h5]
      exact World.putObj_heap_other (fun e => by have := (hown4.lt g hg').1; omega)
    · rw [← h5]
      have := hacc.sz
      simp [World.putObj]
      omega
  · refine ⟨?_, ?_, ?_, ?_, fun k hk hs => ?_⟩
    · have := hg.os; rw [← h4]; show w3.os = _; rw [this, ← h2]; rfl
    · have := hg.tape; rw [← h4]; show w3.tape = _; rw [this, ← h2]; rfl
    · have := hg.output; rw [← h4]; show w3.output = _; rw [this, ← h2]; rfl
    · simp [World.putObj]; omega
    · have h1 : k ≠ l := fun e => hs (.inl e)
      have h3 : k ≠ Bt := fun e => hs (.inr (.inl e))
      have h6 : tv.ownBlock ≠ some k := fun e => hs (.inr (.inr (ha.trans e)))
      exact (World.putObj_heap_other (fun e => h1 e)).trans ((k4 k h3).trans ((k3 k (by omega) h6).trans (k2 k h1 hk)))
  · intro k hk
    rw [accBlk_same (World.putObj_heap_other hlB.symm), accBlk_own b4 hown4] at hk
    rcases hat with e | e
    · exact .inl (ha.trans (e ▸ hk))
    · right
      rw [hk] at e
      simp at e
      omega
theorem Env0.of {b : Bk} {s kv : Value} {n M Bt l Bb : Nat} {w : World} (hG : Glob w) (hs : SlOf w n 7 s (stCells b.sts)) (hk : SlOf w n 3 kv (ckCells b.cks)) (hM : CacheOk w M b.cks) (hn : n ≤ w.heap.size) (hB : Bt < w.heap.size) (hl : l < w.heap.size)
    (hb : w.heap[Bb]? = some (.cells (b.cells9 s kv (.map (some M)) (.slice none 0 0)).toArray 79)) (hacc : accBlk Bt w = none) (hBb : Bb ≠ Bt ∧ Bb ≠ l) (h0 : 1 < Bt ∧ 1 < l) (hMn : M ≠ Bt ∧ M ≠ l)
    (hS : ∀ g o len cap, s = .slice (some ⟨g, o, none⟩) len cap → 0 < b.sts.length → g ≠ Bt ∧ g ≠ l) (hK : ∀ g o len cap, kv = .slice (some ⟨g, o, none⟩) len cap → 0 < b.cks.length → g ≠ Bt ∧ g ≠ l) : Env0 b s kv (.slice none 0 0) n M l Bt Bb w := by
  have sf : ∀ k, k ≠ Bt ∧ k ≠ l → Safe l Bt w k := fun k hk => ⟨hk.2, hk.1, by rw [hacc]; simp⟩
  refine ⟨hb, sf _ hBb, sf _ (by omega), sf _ (by omega), sf _ hMn, hs, ?_, hk, ?_, hM, hG, hn, hB, hl, by rw [hacc]; simp⟩
  · obtain ⟨a, cap, rfl, _, _, _, h4⟩ := hs
    intro hne a' len' cap' e
    cases e
    obtain ⟨g, o, e1, _⟩ := h4 (List.length_pos_iff.2 hne)
    cases e1
    have := hS g o _ _ rfl (by have := List.length_pos_iff.2 hne; simpa [stCells] using this)
    exact sf _ this
  · obtain ⟨a, cap, rfl, _, _, _, h4⟩ := hk
    intro hne a' len' cap' e
    cases e
    obtain ⟨g, o, e1, _⟩ := h4 (List.length_pos_iff.2 hne)
    cases e1
    have := hK g o _ _ rfl (by have := List.length_pos_iff.2 hne; simpa [ckCells] using this)
    exact sf _ this
theorem range_any {A B : Code} {Q : Exit → Act → World → Prop} {a : Act} {w V : World} {b : Bk} {s kv : Value} {n M Bt Bb N : Nat} (hb : Big b) (hl : 0 < b.sts.length) (hw : 1 ≤ b.wth ∧ b.wth ≤ 7) (hN : (truths b).length ≤ N - 1)
    (hg : a.eval (.tmp 38) = .func (.func 102) #[] #[.pointer (some ⟨Bb, 0, none⟩)])
    (hE : ∀ l, w.heap.size < l → l < w.heap.size + 2 → ∀ w', Below w.heap.size w w' → l < w'.heap.size → Env0 b s kv (.slice none 0 0) n M l Bt Bb w')
    (hbt : w.heap[Bt]? = some (.cells (b.cells9 s kv (.map (some M)) (.slice none 0 0)).toArray 79)) (hV : Below V.heap.size V w) (hM : V.heap.size ≤ M ∧ M < w.heap.size) (hB : V.heap.size ≤ Bt)
    (hR : ∀ r : Loop, r.state = .ready → r.pending = none → RoundOk A B (w.heap.size + 1) Bt a.tmps N (At b s kv M Bt (w.heap.size + 1) (w.heap.size + 2) r))
    (hQ : ∀ W tv, W.heap[w.heap.size]? = some (.deferred (some [])) → W.heap[Bt]? = some (.cells (b.cells9 s kv (.map (some M)) tv).toArray 79) → W.ownsRow (w.heap.size + 2) 87 7 tv (truths b).length ((truths b).flatMap Tr.cells) →
      Below V.heap.size V W → (∀ k, k < w.heap.size → k ≠ M → k ≠ Bt → W.heap[k]? = w.heap[k]?) → Q .normal { a with defers := [{ target := .collected w.heap.size, args := #[] }] ++ a.defers } W) :
    (Code.rangeFunc (.tmp 38) #[39] A B).wpIn Fence.wide 0 Tryd.prog Q a w := by
  have hBw : Bt < w.heap.size := (Array.getElem?_eq_some_iff.1 hbt).1
  refine wpIn_rangeFunc ?_
  intro fn _
  obtain ⟨r, hr⟩ : ∃ r : Loop, ({ state := .ready, pending := none, fn, tmps := a.tmps, params := #[39], assign := A, body := B, defers := w.heap.size } : Loop) = r := ⟨_, rfl⟩
  obtain ⟨w1, h1⟩ : ∃ w1, (w.alloc (.deferred (some []))).alloc (.loop r) = w1 := ⟨_, rfl⟩
  have hz1 : w1.heap.size = w.heap.size + 2 := by rw [← h1]; simp
  have hb1 : Below w.heap.size w w1 := by rw [← h1]; exact ((Below.refl _ _).alloc (Nat.le_refl _) _).alloc (by simp) _
  have hL1 : w1.heap[w.heap.size + 1]? = some (.loop r) := by rw [← h1]; have := World.alloc_heap_new (w.alloc (.deferred (some []))) (.loop r); rwa [World.size_alloc] at this
  have hD1 : w1.heap[w.heap.size]? = some (.deferred (some [])) := by rw [← h1]; exact (heap_alloc_old _ _ (by simp)).trans (World.alloc_heap_new _ _)
  have hB1 := (hb1.block Bt hBw).trans hbt
  have hE1 := hE (w.heap.size + 1) (by omega) (by omega) w1 hb1 (by omega)
  have hA1 : At b s kv M Bt (w.heap.size + 1) (w.heap.size + 2) r [] w1 := ⟨hL1, ⟨_, hB1, World.ownsRow_nil _ _ _ _⟩, by omega⟩
  have hacc1 : accBlk Bt w1 = none := (accBlk_own hB1 (World.ownsRow_nil w1 (w.heap.size + 2) 87 7)).trans rfl
  refine ⟨w.heap.size + 1, [{ target := .collected w.heap.size, args := #[] }], w1, { target := .fn (.func 102) #[.pointer (some ⟨Bb, 0, none⟩)], args := #[.func (.yield (w.heap.size + 1)) #[] #[]] }, w1, 102,
    #[.func (.yield (w.heap.size + 1)) #[] #[], .pointer (some ⟨Bb, 0, none⟩)], w1, ?_, ?_, fun _ _ => trivial, ?_, fun h => by simp [Fence.wide] at h, ?_⟩
  · have := run_enterLoop_outer (P := Tryd.prog) (w := w) fn a.tmps #[39] A B
    rw [hr, h1] at this
    exact this
  · simp [go_sem] at hg
    simp [resolve, go_sem, hg]
  · simp [invoke, go_sem]
  · refine callsIn_wide.2 ((whole1_any At.law (RoundOk.yields (by rw [← hr]) (by rw [← hr]) (by rw [← hr]) (by have := hR r (by rw [← hr]) (by rw [← hr]); rw [show r.tmps = a.tmps by rw [← hr]]; exact this)) hb hl hw [] w1 hE1 hA1 (by simpa using hN)).mono ?_)
    rintro e W ⟨⟨v, rfl⟩, hA, hF, _⟩
    obtain ⟨tv, hbW, hrow⟩ := hA.bt
    have hst : r.pending = none := by rw [← hr]
    have hend := run_endLoop (P := Tryd.prog) hA.L (by rw [← hr]; simp)
    rw [hst] at hend
    refine ⟨none, _, hend, ?_⟩
    have keep : ∀ k, k < w.heap.size → k ≠ M → k ≠ Bt → W.heap[k]? = w.heap[k]? := fun k hk hm hb => (hF.upd.block k (by omega) (by
      rintro (e | e | e | e)
      · exact hm e
      · omega
      · exact hb e
      · rw [hacc1] at e; cases e)).trans (hb1.block k hk)
    simp only [List.nil_append] at hrow
    refine hQ _ tv ?_ ?_ ?_ ?_ ?_
    · refine (World.putObj_heap_other (by omega)).trans ((hF.upd.block _ (by omega) ?_).trans hD1)
      rintro (e | e | e | e)
      · omega
      · omega
      · omega
      · rw [hacc1] at e; cases e
    · exact (World.putObj_heap_other (by omega)).trans hbW
    · exact ownsRow_same hrow fun g hg => World.putObj_heap_other (by have := (hrow.lt g hg).1; omega)
    · have hVs := hV.size
      exact ⟨(show W.os = _ from hF.upd.os).trans (hb1.os.trans hV.os), (show W.tape = _ from hF.upd.tape).trans (hb1.tape.trans hV.tape), (show W.output = _ from hF.upd.output).trans (hb1.output.trans hV.output),
        by have := hF.size; simp; omega, fun k hk => (World.putObj_heap_other (by omega)).trans ((keep k (by omega) (by omega) (by omega)).trans (hV.block k hk))⟩
    · exact fun k hk hm hb => (World.putObj_heap_other (by omega)).trans (keep k hk hm hb)
theorem flat_at {sz : Nat} : ∀ (rows : List (List Value)), (∀ r ∈ rows, r.length = sz) → ∀ (i j : Nat) (r : List Value) (c : Value), rows[i]? = some r → r[j]? = some c → rows.flatten[i * sz + j]? = some c
  | [], _, i, j, r, c, h, _ => by simp at h
  | x :: rows, hl, 0, j, r, c, h, hj => by
    simp at h
    subst h
    have hjl : j < x.length := (List.getElem?_eq_some_iff.1 hj).1
    simp only [List.flatten_cons, Nat.zero_mul, Nat.zero_add]
    rw [List.getElem?_append_left hjl]
    exact hj
  | x :: rows, hl, i + 1, j, r, c, h, hj => by
    have hx : x.length = sz := hl x (by simp)
    simp only [List.getElem?_cons_succ] at h
    simp only [List.flatten_cons]
    rw [List.getElem?_append_right (by rw [hx, Nat.add_mul]; omega), hx, show (i + 1) * sz + j - sz = i * sz + j by rw [Nat.add_mul]; omega]
    exact flat_at rows (fun r hr => hl r (by simp [hr])) i j r c h hj
theorem SlOf.own {w : World} {base : Nat} {e : TypeId} {sz : Nat} {v : Value} {rows : List (List Value)} (h : w.ownsRow base e sz v rows.length rows.flatten) (hr : ∀ r ∈ rows, r.length = sz) : SlOf w w.heap.size sz v rows := by
  rcases h.2 with ⟨rfl, h0⟩ | ⟨g, cap, cur, rfl, hb, hg, hc, hm, hs, ht⟩
  · exact ⟨none, 0, by rw [h0], by omega, by rw [h0]; exact Nat.zero_le _, hr, fun hp => by omega⟩
  · refine ⟨_, cap, rfl, hc, Nat.le_trans hc hm, hr, fun _ => ⟨g, 0, rfl, (Array.getElem?_eq_some_iff.1 hg).1, fun i j r c hi hj => ?_⟩⟩
    have h1 := flat_at rows hr i j r c hi hj
    rw [blk_cell hg, Nat.zero_add]
    rw [← ht, List.getElem?_take] at h1
    split at h1
    · simpa using h1
    · cases h1
theorem cacheOk_new {W : World} {M : Nat} {cks : List Ck} (h : W.heap[M]? = some (.map #[nowEntry] 1)) : CacheOk W M cks := by
  refine ⟨_, _, h, fun e he => ?_⟩
  simp at he
  subst he
  exact ⟨-1, -1, false, rfl, rfl, fun hn => absurd ⟨rfl, rfl⟩ hn⟩
theorem ckCells_flat (l : List Ck) : l.flatMap Ck.cells = (ckCells l).flatten := by simp [ckCells, List.flatMap_def]
theorem trCells_flat (l : List Tr) : l.flatMap Tr.cells = (trCells l).flatten := by simp [trCells, List.flatMap_def]
theorem ckCells_len (l : List Ck) : ∀ r ∈ ckCells l, r.length = 3 := by intro r hr; simp [ckCells] at hr; obtain ⟨c, _, rfl⟩ := hr; rfl
theorem trCells_len (l : List Tr) : ∀ r ∈ trCells l, r.length = 7 := by intro r hr; simp [trCells] at hr; obtain ⟨c, _, rfl⟩ := hr; rfl
theorem ownsRow_slice {w : World} {base : Nat} {e : TypeId} {sz : Nat} {v : Value} {k : Nat} {xs : List Value} (h : w.ownsRow base e sz v k xs) : ∃ a m c, v = .slice a m c := by
  rcases h.2 with ⟨rfl, _⟩ | ⟨g, cap, cur, rfl, _⟩
  · exact ⟨_, _, _, rfl⟩
  · exact ⟨_, _, _, rfl⟩
theorem Fil.env {b : Bk} {s kv : Value} {M Bt Bb n0 n : Nat} {V X : World} (h : Fil b s M Bt n0 V b.cks kv X) (hG : Glob V) (hn : n ≤ V.heap.size) (hs : SlOf V n 7 s (stCells b.sts)) (h1 : 1 < V.heap.size)
    (hBb : n0 ≤ Bb) (hb : X.heap[Bb]? = some (.cells (b.cells9 s kv (.map (some M)) (.slice none 0 0)).toArray 79)) {l : Nat} (hl : X.heap.size < l) {w1 : World} (hb1 : Below X.heap.size X w1) (hlw : l < w1.heap.size) :
    Env0 b s kv (.slice none 0 0) X.heap.size M l Bt Bb w1 := by
  have hlb := h.lb
  have hlm := h.lm
  have hv0 := h.v0
  have hvb := h.vb
  have hsz := h.sz
  have hVw : Below V.heap.size V w1 := h.old.trans (hb1.mono (by omega))
  have hbX := (Array.getElem?_eq_some_iff.1 hb).1
  have hrow : w1.ownsRow n0 42 3 kv b.cks.length (b.cks.flatMap Ck.cells) := ownsRow_same h.row fun g hg => hb1.block g (h.row.lt g hg).2
  have hrow0 := h.row
  rw [ckCells_flat] at hrow0
  have hsk : SlOf X X.heap.size 3 kv (ckCells b.cks) := SlOf.own (by simpa [ckCells] using hrow0) (ckCells_len _)
  have hmb := (hb1.block M (by omega)).trans h.map
  have hbb := (hb1.block Bt (by omega)).trans h.bt
  have hMB : M ≠ Bt := by intro e; rw [e, hbb] at hmb; cases hmb
  have g : ∀ {B o v}, V.cell? ⟨B, o, none⟩ = some v → B < V.heap.size → w1.cell? ⟨B, o, none⟩ = some v := fun h hB => (hVw.cell (p := ⟨_, _, none⟩) hB).trans h
  refine Env0.of ⟨g hG.k0 (by omega), g hG.k1 (by omega), g hG.n0 h1, g hG.n1 h1⟩ ((hs.below hn hVw).mono (by omega)) (hsk.below (Nat.le_refl _) hb1) (cacheOk_new hmb) hb1.size (by have := hb1.size; omega) hlw ((hb1.block Bb hbX).trans hb)
    ((accBlk_own hbb (World.ownsRow_nil _ 0 _ _)).trans rfl) (by omega) (by omega) (by omega) ?_ ?_
  · rintro g0 o len cap rfl hp
    obtain ⟨a, cp, e, _, _, _, h4⟩ := hs
    cases e
    obtain ⟨g', o', e1, h5, _⟩ := h4 (by simpa [stCells] using hp)
    cases e1
    omega
  · rintro g0 o len cap rfl hp
    have := h.row.lt g0 rfl
    omega
structure Stored (B : Nat) (c : Array Value) (W W' : World) : Prop where
  cells : W'.heap[B]? = some (.cells c 79)
  same : ∀ k, k ≠ B → W'.heap[k]? = W.heap[k]?
  size : W'.heap.size = W.heap.size
  os : W'.os = W.os
  tape : W'.tape = W.tape
  output : W'.output = W.output
theorem Stored.start {B : Nat} {c : Array Value} {W : World} (h : W.heap[B]? = some (.cells c 79)) : Stored B c W W := ⟨h, fun _ _ => rfl, rfl, rfl, rfl, rfl⟩
theorem Stored.set {B : Nat} {c : Array Value} {W W' : World} (h : Stored B c W W') (j : Nat) (v : Value) : Stored B (c.setIfInBounds j v) W (W'.setCell ⟨B, j, none⟩ v) :=
  ⟨blk_set h.cells, fun k hk => (Below.heap_setCell _ _ _ _ hk).trans (h.same k hk), by simpa [World.setCell] using h.size, h.os, h.tape, h.output⟩
theorem stored9 {B : Nat} {W : World} {z0 z1 z2 z3 z4 z5 z6 z7 z8 : Value} (h : W.heap[B]? = some (.cells #[z0, z1, z2, z3, z4, z5, z6, z7, z8] 79)) (v0 v1 v2 v3 v4 v5 v6 v7 v8 : Value) :
    Stored B #[v0, v1, v2, v3, v4, v5, v6, v7, v8] W (((((((((W.setCell ⟨B, 0, none⟩ v0).setCell ⟨B, 1, none⟩ v1).setCell ⟨B, 2, none⟩ v2).setCell ⟨B, 3, none⟩ v3).setCell ⟨B, 4, none⟩ v4).setCell ⟨B, 5, none⟩ v5).setCell ⟨B, 6, none⟩ v6).setCell ⟨B, 7, none⟩ v7).setCell ⟨B, 8, none⟩ v8) := by
  have h := ((((((((((Stored.start h).set 0 v0).set 1 v1).set 2 v2).set 3 v3).set 4 v4).set 5 v5).set 6 v6).set 7 v7).set 8 v8)
  simp only [List.setIfInBounds_toArray, List.set_cons_zero, List.set_cons_succ] at h
  exact h
theorem Stored.below {B K : Nat} {c : Array Value} {V W W' : World} (h : Stored B c W W') (hb : Below K V W) (hB : K ≤ B) : Below K V W' :=
  ⟨h.os.trans hb.os, h.tape.trans hb.tape, h.output.trans hb.output, by rw [h.size]; exact hb.size, fun k hk => (h.same k (by omega)).trans (hb.block k hk)⟩
theorem Put.below {K M : Nat} {V Y X : World} (h : Put Y X M) (hb : Below K V Y) (hM : K ≤ M) : Below K V X :=
  ⟨h.os.trans hb.os, h.tape.trans hb.tape, h.output.trans hb.output, by rw [h.size]; exact hb.size, fun k hk => (h.old k (by omega)).trans (hb.block k hk)⟩
theorem Stored.slOf {B n sz : Nat} {c : Array Value} {W W' : World} {v : Value} {rows : List (List Value)} (h : Stored B c W W') (hs : SlOf W n sz v rows) (hB : ∀ b o len cap, v = .slice (some ⟨b, o, none⟩) len cap → b ≠ B) (hn : n ≤ W.heap.size) : SlOf W' W'.heap.size sz v rows := by
  obtain ⟨a, cap, rfl, h1, h2, h3, h4⟩ := hs
  refine ⟨a, cap, rfl, h1, h2, h3, fun hp => ?_⟩
  obtain ⟨b, o, e, hb, hc⟩ := h4 hp
  refine ⟨b, o, e, by rw [h.size]; omega, fun i j r c hi hj => ?_⟩
  exact (World.cell?_of_block (w := W) (a := ⟨b, _, none⟩) (h.same b (hB b o _ _ (by rw [e])))).trans (hc i j r c hi hj)
end Go.Proofs.YtbhjfojbjpbdbaaDoor
namespace Go.Proofs.YtbhjfojbjpbdbaaDoor
open Go.RowKit
set_option maxRecDepth 100000 in
set_option maxHeartbeats 4000000 in
theorem opened_any (W : World) (b : Bk) (s k bv : Value) (l : List Nat) (n : Nat) (hG : Glob W) (hn : n ≤ W.heap.size) (hs : SlOf W n 7 s (stCells b.sts)) (hk : SlOf W n 3 k (ckCells b.cks)) (hb : SlOf W n 1 bv (natCells l)) (hck : b.cks.length ≤ 1000)
    (hbg : Big (b.but l)) (hl0 : 0 < b.sts.length) (hw : 1 ≤ b.wth ∧ b.wth ≤ 7) (hN : (truths (b.but l)).length ≤ 20000) :
    Calls Tryd.prog 64 #[.agg (b.cells s k).toArray, bv] W fun e W' => ∃ ka kl kc M tv, e = .returned (.agg ((b.but l).cells9 s (.slice ka kl kc) (.map (some M)) tv).toArray) ∧ Below W.heap.size W W' ∧ SlOf W' W'.heap.size 7 tv (trCells (truths (b.but l))) ∧ (∀ g, tv.ownBlock = some g → W.heap.size ≤ g) := by
  obtain ⟨sa, sc, rfl, hs1, hs2, hs3, hs4⟩ := id hs
  obtain ⟨ka, kc, rfl, hk1, hk2, hk3, hk4⟩ := id hk
  have hsl : (stCells b.sts).length = b.sts.length := by simp [stCells]
  have hkl : (ckCells b.cks).length = b.cks.length := by simp [ckCells]
  have hmx : b.cks.length ≤ 1000 := hck
  simp only [hsl, hkl] at *
  obtain ⟨sts, w0, c0, c1, c2, cks, r0⟩ := b
  simp only at *
  obtain ⟨sl, hsl'⟩ : ∃ sl, sts.length = sl := ⟨_, rfl⟩
  have HBG := Lib.hid hbg
  have HL0 := Lib.hid hl0
  have HWT := Lib.hid hw
  have HNN := Lib.hid hN
  clear hbg hl0 hw hN
  have HG := Lib.hid hG
  have HS := Lib.hid hs
  have HK := Lib.hid hk
  have HB := Lib.hid hb
  have HK4 := Lib.hid hk4
  have g0 := hG.n0
  have g1 := hG.n1
  have hmk := mk76
  clear hs hk hb hG hs1 hs2 hs3 hs4 hk1 hk2 hk3 hk4
  simp only [Bk.cells]
  rw [hsl'] at *
  obtain ⟨i42, i42a, i42b, i42c, i42d⟩ := info_parts info42
  obtain ⟨i87, i87a, i87b, i87c, i87d⟩ := info_parts info87
  refine callsIn_wide.1 (callsIn_of_wp_marks (F := Fence.wide) (n := 0) Tryd.func64 rfl trivial ?_ rfl)
  refine wpIn_wide.2 ?_
  simp only [Tryd.ntmps64, List.size_toArray, List.length_cons, List.length_nil, Nat.reduceAdd, Nat.reduceSub, Array.replicate_succ, Array.replicate_zero, List.push_toArray, List.append_toArray, List.nil_append, List.cons_append]
  go_upto_region 1 with fail
  obtain ⟨V, hV⟩ : ∃ V, ((W.alloc (.cells #[.slice sa sl sc, .int .i64 w0, .int .i64 c0, .int .i64 c1, .int .i64 c2, .slice ka cks.length kc, .int .i64 r0] 26)).alloc
    (.cells #[.slice none 0 0, .int .i64 0, .int .i64 0, .int .i64 0, .int .i64 0, .slice none 0 0, .int .i64 0, .map none, .slice none 0 0] 79)) = V := ⟨_, rfl⟩
  have hBV : Below W.heap.size W V := by rw [← hV]; exact ((Below.refl _ _).alloc (Nat.le_refl _) _).alloc (by simp) _
  have hVz : V.heap.size = W.heap.size + 2 := by rw [← hV]; simp
  have hb0 : V.heap[W.heap.size]? = some (.cells #[.slice sa sl sc, .int .i64 w0, .int .i64 c0, .int .i64 c1, .int .i64 c2, .slice ka cks.length kc, .int .i64 r0] 26) := by rw [← hV, heap_alloc_old _ _ (by simp)]; exact World.alloc_heap_new _ _
  have v0 : V.cell? ⟨W.heap.size, 0, none⟩ = some (.slice sa sl sc) := blk_cell hb0
  have v1 : V.cell? ⟨W.heap.size, 1, none⟩ = some (.int .i64 w0) := blk_cell hb0
  have v2 : V.cell? ⟨W.heap.size, 2, none⟩ = some (.int .i64 c0) := blk_cell hb0
  have v3 : V.cell? ⟨W.heap.size, 3, none⟩ = some (.int .i64 c1) := blk_cell hb0
  have v4 : V.cell? ⟨W.heap.size, 4, none⟩ = some (.int .i64 c2) := blk_cell hb0
  have v5 : V.cell? ⟨W.heap.size, 5, none⟩ = some (.slice ka cks.length kc) := blk_cell hb0
  have v6 : V.cell? ⟨W.heap.size, 6, none⟩ = some (.int .i64 r0) := blk_cell hb0
  have h1W : 1 < W.heap.size := lt_of_cell g0
  have n0 : V.cell? ⟨1, 0, none⟩ = some (.int .i64 (-1)) := (hBV.cell (p := ⟨1, 0, none⟩) h1W).trans g0
  have n1 : V.cell? ⟨1, 1, none⟩ = some (.int .i64 (-1)) := (hBV.cell (p := ⟨1, 1, none⟩) h1W).trans g1
  have l1 : 1 < V.heap.size := by omega
  have l5 : 0 < V.heap.size := by omega
  have l6 : 1 ≤ V.heap.size := by omega
  have l7 : W.heap.size ≤ V.heap.size := by omega
  have l8 : 1 < V.heap.size + 1 := by omega
  have l9 : W.heap.size < V.heap.size + 1 := by omega
  have l2 : W.heap.size < V.heap.size := by omega
  have l3 : W.heap.size + 1 < V.heap.size := by omega
  rw [hV]
  have hm1 : (V.alloc (.map #[] 0)).drew.heap[V.heap.size]? = some (.map #[] 0) := World.alloc_heap_new _ _
  have hm2 : ((V.alloc zero79).alloc (.map #[] 0)).drew.heap[V.heap.size + 1]? = some (.map #[] 0) := by
    have := World.alloc_heap_new (V.alloc zero79) (.map #[] 0)
    rw [World.size_alloc] at this
    exact this
  have hm3 : ((V.alloc (.map #[] 0)).alloc zero79).drew.heap[V.heap.size]? = some (.map #[] 0) := (heap_alloc_old _ _ (by simp)).trans (World.alloc_heap_new _ _)
  obtain ⟨X1, p1⟩ := Put.mk' hm1
  obtain ⟨X2, p2⟩ := Put.mk' hm2
  obtain ⟨X3, p3⟩ := Put.mk' hm3
  have HP1 := Lib.hid p1
  have HP2 := Lib.hid p2
  have HP3 := Lib.hid p3
  have r1 := p1.run
  have r2 := p2.run
  have r3 := p3.run
  have hq1 : ∀ {B j : Nat} {v : Value}, B < V.heap.size → V.cell? ⟨B, j, none⟩ = some v → X1.cell? ⟨B, j, none⟩ = some v := fun hB h =>
    p1.cell (by omega) ((((Below.refl _ V).alloc (Nat.le_refl _) _).cell (p := ⟨_, _, none⟩) hB).trans h)
  have hq2 : ∀ {B j : Nat} {v : Value}, B < V.heap.size → V.cell? ⟨B, j, none⟩ = some v → X2.cell? ⟨B, j, none⟩ = some v := fun hB h =>
    p2.cell (by omega) (((((Below.refl _ V).alloc (Nat.le_refl _) _).alloc (by simp) _).cell (p := ⟨_, _, none⟩) hB).trans h)
  have hq3 : ∀ {B j : Nat} {v : Value}, B < V.heap.size → V.cell? ⟨B, j, none⟩ = some v → X3.cell? ⟨B, j, none⟩ = some v := fun hB h =>
    p3.cell (by omega) (((((Below.refl _ V).alloc (Nat.le_refl _) _).alloc (by simp) _).cell (p := ⟨_, _, none⟩) hB).trans h)
  have hb2 : X2.heap[V.heap.size]? = some zero79 := (p2.old _ (by omega)).trans ((heap_alloc_old _ _ (by simp)).trans (World.alloc_heap_new _ _))
  have hb3 : X3.heap[V.heap.size + 1]? = some zero79 := (p3.old _ (by omega)).trans (by
    have := World.alloc_heap_new (V.alloc (.map #[] 0)) zero79
    rw [World.size_alloc] at this
    exact this)
  have x10 := hq1 l2 v0
  have x11 := hq1 l2 v1
  have x12 := hq1 l2 v2
  have x13 := hq1 l2 v3
  have x14 := hq1 l2 v4
  have x15 := hq1 l2 v5
  have x16 := hq1 l2 v6
  have x20 := hq2 l2 v0
  have x21 := hq2 l2 v1
  have x22 := hq2 l2 v2
  have x23 := hq2 l2 v3
  have x24 := hq2 l2 v4
  have x25 := hq2 l2 v5
  have x26 := hq2 l2 v6
  have x30 := hq3 l2 v0
  have x31 := hq3 l2 v1
  have x32 := hq3 l2 v2
  have x33 := hq3 l2 v3
  have x34 := hq3 l2 v4
  have x35 := hq3 l2 v5
  have x36 := hq3 l2 v6
  have b20 : X2.cell? ⟨V.heap.size, 0, none⟩ = some (.slice none 0 0) := blk_cell hb2
  have b30 : X3.cell? ⟨V.heap.size + 1, 0, none⟩ = some (.slice none 0 0) := blk_cell hb3
  have f20 := blk_frozen hb2 0
  have f30 := blk_frozen hb3 0
  have b21 : X2.cell? ⟨V.heap.size, 1, none⟩ = some (.int .i64 0) := blk_cell hb2
  have b31 : X3.cell? ⟨V.heap.size + 1, 1, none⟩ = some (.int .i64 0) := blk_cell hb3
  have f21 := blk_frozen hb2 1
  have f31 := blk_frozen hb3 1
  have b22 : X2.cell? ⟨V.heap.size, 2, none⟩ = some (.int .i64 0) := blk_cell hb2
  have b32 : X3.cell? ⟨V.heap.size + 1, 2, none⟩ = some (.int .i64 0) := blk_cell hb3
  have f22 := blk_frozen hb2 2
  have f32 := blk_frozen hb3 2
  have b23 : X2.cell? ⟨V.heap.size, 3, none⟩ = some (.int .i64 0) := blk_cell hb2
  have b33 : X3.cell? ⟨V.heap.size + 1, 3, none⟩ = some (.int .i64 0) := blk_cell hb3
  have f23 := blk_frozen hb2 3
  have f33 := blk_frozen hb3 3
  have b24 : X2.cell? ⟨V.heap.size, 4, none⟩ = some (.int .i64 0) := blk_cell hb2
  have b34 : X3.cell? ⟨V.heap.size + 1, 4, none⟩ = some (.int .i64 0) := blk_cell hb3
  have f24 := blk_frozen hb2 4
  have f34 := blk_frozen hb3 4
  have b25 : X2.cell? ⟨V.heap.size, 5, none⟩ = some (.slice none 0 0) := blk_cell hb2
  have b35 : X3.cell? ⟨V.heap.size + 1, 5, none⟩ = some (.slice none 0 0) := blk_cell hb3
  have f25 := blk_frozen hb2 5
  have f35 := blk_frozen hb3 5
  have b26 : X2.cell? ⟨V.heap.size, 6, none⟩ = some (.int .i64 0) := blk_cell hb2
  have b36 : X3.cell? ⟨V.heap.size + 1, 6, none⟩ = some (.int .i64 0) := blk_cell hb3
  have f26 := blk_frozen hb2 6
  have f36 := blk_frozen hb3 6
  have b27 : X2.cell? ⟨V.heap.size, 7, none⟩ = some (.map none) := blk_cell hb2
  have b37 : X3.cell? ⟨V.heap.size + 1, 7, none⟩ = some (.map none) := blk_cell hb3
  have f27 := blk_frozen hb2 7
  have f37 := blk_frozen hb3 7
  have b28 : X2.cell? ⟨V.heap.size, 8, none⟩ = some (.slice none 0 0) := blk_cell hb2
  have b38 : X3.cell? ⟨V.heap.size + 1, 8, none⟩ = some (.slice none 0 0) := blk_cell hb3
  have f28 := blk_frozen hb2 8
  have f38 := blk_frozen hb3 8
  have z1 : X1.heap.size = V.heap.size + 1 := p1.size.trans (by simp)
  have z2 : X2.heap.size = V.heap.size + 1 + 1 := p2.size.trans (by simp)
  have z3 : X3.heap.size = V.heap.size + 1 + 1 := p3.size.trans (by simp)
  have Z1 := Lib.hid z1
  have Z2 := Lib.hid z2
  have Z3 := Lib.hid z3
  have l4 : W.heap.size < X1.heap.size := by omega
  clear hm1 hm2 hm3 p1 p2 p3 z1 z2 z3 hb2 hb3 hq1 hq2 hq3
  have HBV := Lib.hid hBV
  have hz79 : V.heap[W.heap.size + 1]? = some zero79 := by rw [← hV]; have := World.alloc_heap_new (W.alloc (.cells #[.slice sa sl sc, .int .i64 w0, .int .i64 c0, .int .i64 c1, .int .i64 c2, .slice ka cks.length kc, .int .i64 r0] 26)) zero79; rwa [World.size_alloc] at this
  have HZ79 := Lib.hid hz79
  have hgv : Glob V := ⟨(hBV.cell (p := ⟨0, 0, none⟩) (by show 0 < _; omega)).trans HG.out.k0, (hBV.cell (p := ⟨0, 1, none⟩) (by show 0 < _; omega)).trans HG.out.k1, n0, n1⟩
  have HGV := Lib.hid hgv
  clear hz79 hgv
  have HVZ := Lib.hid hVz
  have HW1 := Lib.hid h1W
  clear hV hb0 hBV g0 g1 hVz
  rename_i Q' K aK
  have hkey : ∀ (M Bt : Nat) (w' : World), w'.heap[M]? = some (.map #[nowEntry] 1) → w'.heap[Bt]? = some (.cells #[.slice sa sl sc, .int .i64 w0, .int .i64 c0, .int .i64 c1, .int .i64 c2, .slice ka cks.length kc, .int .i64 r0, .map (some M), .slice none 0 0] 79) →
      Below V.heap.size V w' → V.heap.size ≤ M → V.heap.size ≤ Bt →
      Exit.then K Q' Exit.normal { tmps := #[.agg #[.slice sa sl sc, .int .i64 w0, .int .i64 c0, .int .i64 c1, .int .i64 c2, .slice ka cks.length kc, .int .i64 r0], bv, .pointer (some ⟨W.heap.size, 0, none⟩), undef,
        .pointer (some ⟨W.heap.size + 1, 0, none⟩), .pointer (some ⟨Bt, 0, none⟩), undef, undef, undef, .agg #[.slice sa sl sc, .int .i64 w0, .int .i64 c0, .int .i64 c1, .int .i64 c2, .slice ka cks.length kc, .int .i64 r0],
        .map (some M), .agg #[.int .i64 (-1), .int .i64 (-1)], .map (some M), .agg #[.slice sa sl sc, .int .i64 w0, .int .i64 c0, .int .i64 c1, .int .i64 c2, .slice ka cks.length kc, .int .i64 r0, .map (some M), .slice none 0 0],
        undef, undef, undef, undef, undef, undef, undef, undef, undef, undef, undef, undef, undef, undef, undef, undef, undef, undef, undef, undef, undef, undef, undef, undef, undef, undef, undef, undef, undef, undef, undef, undef, undef], defers := [] } w' := by
    clear r1 r2 r3 hmk Z1 Z2 Z3 HP1 HP2 HP3 n0 n1
    intro M Bt w' h1 h2 h3 h4 h5
    have f5 := blk_frozen h2
    have c5 : w'.cell? ⟨Bt, 5, none⟩ = some (.slice ka cks.length kc) := blk_cell h2
    have H1 := Lib.hid h1
    have H2 := Lib.hid h2
    have H3 := Lib.hid h3
    clear h1 h2 h3
    go_upto_region 3 with fail
    have hn0 : V.heap.size ≤ w'.heap.size := H3.out.size
    have hF0 : Fil ⟨sts, w0, c0, c1, c2, cks, r0⟩ (.slice sa sl sc) M Bt w'.heap.size V [] (.slice none 0 0) (w'.setCell ⟨Bt, 5, none⟩ (.slice none 0 0)) := by
      have hlt1 := (Array.getElem?_eq_some_iff.1 H1.out).1
      have hlt2 := (Array.getElem?_eq_some_iff.1 H2.out).1
      refine ⟨?_, ?_, World.ownsRow_nil _ _ _ _, H3.out.setCell (p := ⟨Bt, 5, none⟩) h5 _, by simp [World.setCell], hlt2, hlt1, h5, hn0⟩
      · rw [blk_set H2.out]; rfl
      · refine (Below.heap_setCell _ _ _ _ ?_).trans H1.out
        intro e
        have h6 := H1.out
        rw [e] at h6
        have h7 := H2.out
        rw [h6] at h7
        cases h7
    obtain ⟨n0, hn0e⟩ : ∃ n0, w'.heap.size = n0 := ⟨_, rfl⟩
    obtain ⟨U, hU⟩ : ∃ U, w'.setCell ⟨Bt, 5, none⟩ (.slice none 0 0) = U := ⟨_, rfl⟩
    rw [hn0e] at hF0 hn0
    rw [hU] at hF0 ⊢
    have HF0 := Lib.hid hF0
    have HN0 := Lib.hid hn0
    have HVM := Lib.hid h4
    have u5 : U.cell? ⟨W.heap.size, 5, none⟩ = some (.slice ka cks.length kc) := (hF0.old.cell (p := ⟨_, _, none⟩) l2).trans v5
    clear hF0 hn0 hn0e hU f5 c5 v0 v1 v2 v3 v4 v5 v6 H1 H2 H3
    go_wp2_with fail
    go_loopg [19] cks.length (fun n i wx => ∃ (q : Nat) (kv : Value), q ≤ cks.length ∧ n = cks.length - q ∧ i = .int .i64 q ∧ Fil ⟨sts, w0, c0, c1, c2, cks, r0⟩ (.slice sa sl sc) M Bt n0 V (leaveOut l 0 (cks.take q)) kv wx)
    case atStart => exact ⟨0, .slice none 0 0, by omega, rfl, rfl, HF0.out⟩
    case round =>
      obtain ⟨q, kv, hq, hgk, rfl, hF⟩ := hrel
      have HGK := Lib.hid hgk
      have HF := Lib.hid hF
      clear hgk hF
      by_cases hlt : q < cks.length
      · obtain ⟨x, hx⟩ : ∃ x, cks[q]? = some x := ⟨_, List.getElem?_eq_getElem hlt⟩
        obtain ⟨g, p, hka, hg, hcs⟩ := sl_at (fun h0 => HK4.out (by simpa [ckCells] using h0)) (show (ckCells cks)[q]? = some x.cells by simp [ckCells, hx])
        have hBW := HBV.out.trans (HF.out.old.mono (show W.heap.size ≤ V.heap.size by omega))
        have hr : ∀ i c, x.cells[i]? = some c → wr.cell? ⟨g, p + q * 3 + i, none⟩ = some c := fun i c hi =>
          (hBW.cell (p := ⟨g, p + q * 3 + i, none⟩) (by show g < _; omega)).trans (hcs i c hi)
        have y0 : wr.cell? ⟨g, p + q * 3, none⟩ = some (.int .i64 x.st) := hr 0 _ rfl
        have y1 : wr.cell? ⟨g, p + q * 3 + 1, none⟩ = some (.int .i64 x.rd) := hr 1 _ rfl
        have y2 : wr.cell? ⟨g, p + q * 3 + 2, none⟩ = some (.int .i64 x.er) := hr 2 _ rfl
        have hstep := leaveOut_take (but := l) hx
        have HST := Lib.hid hstep
        clear hstep hcs hBW hr hx
        subst hka
        go_upto_region 6 with fail
        have z0 : (wr.alloc (.cells #[.int .i64 x.st, .int .i64 x.rd, .int .i64 x.er] 42)).heap[wr.heap.size]? = some (.cells #[.int .i64 x.st, .int .i64 x.rd, .int .i64 x.er] 42) := World.alloc_heap_new _ _
        have hF1 := HF.out.alloc (.cells #[.int .i64 x.st, .int .i64 x.rd, .int .i64 x.er] 42)
        obtain ⟨V1, hV1⟩ : ∃ V1, wr.alloc (.cells #[.int .i64 x.st, .int .i64 x.rd, .int .i64 x.er] 42) = V1 := ⟨_, rfl⟩
        rw [hV1] at z0 hF1 ⊢
        clear hV1
        have z1 : V1.cell? ⟨wr.heap.size, 0, none⟩ = some (.int .i64 x.st) := blk_cell z0
        have z2 : V1.cell? ⟨wr.heap.size, 1, none⟩ = some (.int .i64 x.rd) := blk_cell z0
        have z3 : V1.cell? ⟨wr.heap.size, 2, none⟩ = some (.int .i64 x.er) := blk_cell z0
        have z4 : V1.cell? ⟨Bt, 5, none⟩ = some kv := blk_cell hF1.bt
        have z5 := (Array.getElem?_eq_some_iff.1 z0).1
        have z6 : Bt < V1.heap.size := (Array.getElem?_eq_some_iff.1 hF1.bt).1
        have hS1 : SlOf V1 n 1 bv (natCells l) := HB.out.below hn (HBV.out.trans (hF1.old.mono (show W.heap.size ≤ V.heap.size by omega)))
        have HF1 := Lib.hid hF1
        have HS1 := Lib.hid hS1
        clear z0 hF1 hS1
        by_cases hco : l.contains q = true
        · go_wp2_with (go_at_call 94; refine (contains_any _ _ l n q HS1.out).mono ?_; rintro e w' ⟨rfl, rfl⟩; rw [hco])
          go_roundg (cks.length - (q + 1))
          case measure => rw [HGK.out]; omega
          case rel => exact ⟨q + 1, kv, by omega, rfl, by go_num, by rw [HST.out, if_pos hco, List.append_nil]; exact HF1.out⟩
        · have hco2 : l.contains q = false := by simpa using hco
          have HCO := Lib.hid hco2
          clear hco
          go_wp2_with (first
            | (go_at_call 94; refine (contains_any _ _ l n q HS1.out).mono ?_; rintro e w' ⟨rfl, rfl⟩; rw [hco2])
            | (at_builtin; refine wpList_append_own _ rfl (.tmp 30) (.tmp 32) 24 rfl n0 42 i42 _ 3 24 Tryd.underlying24 i42a i42b i42c i42d rfl (by decide) kv _ _ rfl (HF1.out.row.alloc _) ⟨V1.heap.size, 0, none⟩ 1 1 x.cells rfl rfl ?c1 ?c2 ?c3 ?c4 ?c5 ?_)
            | fail)
          case c1 =>
            intro j u hj
            rw [addr_add]
            exact cell_new.trans (by simpa [Ck.cells] using hj)
          case c2 => intro u hu; simp [Ck.cells] at hu; rcases hu with rfl | rfl | rfl <;> rfl
          case c3 => have := leaveOut_le (cks.take q) l 0; simp only [List.length_take] at this; unfold maxLen; omega
          case c4 => have := leaveOut_le (cks.take q) l 0; simp only [List.length_take] at this; omega
          case c5 => have := HF1.out.sz; simp; omega
          intro v' w1 hown hgrow _
          obtain ⟨g', cap', rfl⟩ := ownsRow_succ hown
          have hkeep : w1.heap[Bt]? = V1.heap[Bt]? := (hgrow.block Bt (by simp; omega) (fun e => by have := (HF1.out.row.lt Bt e.symm).1; have := HF1.out.lb; omega)).trans (heap_alloc_old _ _ z6)
          have w5 : w1.cell? ⟨Bt, 5, none⟩ = some kv := (World.cell?_of_block (w := V1) (a := ⟨Bt, 5, none⟩) hkeep).trans z4
          have wf : w1.frozen? ⟨Bt, 5, none⟩ = false := blk_frozen (hkeep.trans HF1.out.bt) 5
          have hP := HF1.out.push hown hgrow
          have HP := Lib.hid hP
          clear hown hgrow hP hkeep y0 y1 y2 z1 z2 z3
          go_wp2_with fail
          go_roundg (cks.length - (q + 1))
          case measure => rw [HGK.out]; omega
          case rel => exact ⟨q + 1, _, by omega, rfl, by go_num, by rw [HST.out, HCO.out]; exact HP.out⟩
      · have hql : cks.take q = cks := by rw [show q = cks.length by omega, List.take_length]
        rw [hql] at HF
        have e0 : wr.cell? ⟨Bt, 0, none⟩ = some (.slice sa sl sc) := blk_cell HF.out.bt
        have e1 : wr.cell? ⟨Bt, 1, none⟩ = some (.int .i64 w0) := blk_cell HF.out.bt
        have e2 : wr.cell? ⟨Bt, 2, none⟩ = some (.int .i64 c0) := blk_cell HF.out.bt
        have e3 : wr.cell? ⟨Bt, 3, none⟩ = some (.int .i64 c1) := blk_cell HF.out.bt
        have e4 : wr.cell? ⟨Bt, 4, none⟩ = some (.int .i64 c2) := blk_cell HF.out.bt
        have e5 : wr.cell? ⟨Bt, 5, none⟩ = some kv := blk_cell HF.out.bt
        have e6 : wr.cell? ⟨Bt, 6, none⟩ = some (.int .i64 r0) := blk_cell HF.out.bt
        have e7 : wr.cell? ⟨Bt, 7, none⟩ = some (.map (some M)) := blk_cell HF.out.bt
        have e8 : wr.cell? ⟨Bt, 8, none⟩ = some (.slice none 0 0) := blk_cell HF.out.bt
        clear hql u5
        go_wp2_with (go_at_call 95; refine (whole_any ⟨sts, w0, c0, c1, c2, leaveOut l 0 cks, r0⟩ (.slice sa sl sc) kv (.map (some M)) (.slice none 0 0) wr).mono ?_; rintro e w' ⟨rfl, hw'⟩; have HW := Lib.hid hw'; clear hw')
        have hw2 := HW.out
        obtain ⟨b', hb'⟩ : ∃ b' : Bk, (⟨sts, w0, c0, c1, c2, leaveOut l 0 cks, r0⟩ : Bk) = b' := ⟨_, rfl⟩
        have hX0 : w'.heap[wr.heap.size]? = some (.cells (b'.cells9 (.slice sa sl sc) kv (.map (some M)) (.slice none 0 0)).toArray 79) := by rw [hw2, ← hb']; exact World.alloc_heap_new _ _
        have hXz : w'.heap.size = wr.heap.size + 1 := by rw [hw2]; simp
        have hXF := HF.out.alloc (.cells ((⟨sts, w0, c0, c1, c2, leaveOut l 0 cks, r0⟩ : Bk).cells9 (.slice sa sl sc) kv (.map (some M)) (.slice none 0 0)).toArray 79)
        rw [← hw2] at hXF
        have HXF := Lib.hid hXF
        have HWZ := Lib.hid (show n0 ≤ wr.heap.size from HF.out.sz)
        have HX0 := Lib.hid hX0
        have HXZ := Lib.hid hXz
        have HB' := Lib.hid hb'
        clear hw2 hX0 hXz hXF HW hb' HF e0 e1 e2 e3 e4 e5 e6 e7 e8
        refine wpIn_wide.1 (range_any (V := V) (b := b') (s := .slice sa sl sc) (kv := kv) (n := w'.heap.size) (M := M) (Bt := Bt) (Bb := wr.heap.size) (N := 20001) ?_ ?_ ?_ ?_ rfl ?_ ?_ ?_ ?_ ?_ ?_ ?_)
        · exact HB'.out ▸ HBG.out
        · rw [← HB'.out]; show 0 < sts.length; rw [show sts.length = sl by obtain ⟨_, _, e, _⟩ := HS.out; injection e with _ h _; simpa [stCells] using h.symm]; exact HL0.out
        · rw [← HB'.out]; exact HWT.out
        · exact HB'.out ▸ HNN.out
        · intro l1 hl1 _ w1 hb1 hlw
          have hF := HXF.out
          have hX := HX0.out
          rw [← HB'.out] at hX ⊢
          exact Fil.env (b := ⟨sts, w0, c0, c1, c2, leaveOut l 0 cks, r0⟩) ⟨hF.bt, hF.map, hF.row, hF.old, hF.sz, hF.lb, hF.lm, hF.vb, hF.v0⟩ HGV.out (show n ≤ V.heap.size by omega) (HS.out.below hn HBV.out) (by omega) HWZ.out hX hl1 hb1 hlw
        · rw [← HB'.out]; exact HXF.out.bt
        · exact HXF.out.old
        · exact ⟨HVM.out, by have := HXF.out.lm; have := HXF.out.sz; omega⟩
        · exact HXF.out.vb
        · intro r hst hpd pre t Wr hacc hlen
          obtain ⟨tv, hbt, hrow⟩ := hacc.bt
          have t8 : Wr.cell? ⟨Bt, 8, none⟩ = some tv := blk_cell hbt
          have tf : Wr.frozen? ⟨Bt, 8, none⟩ = false := blk_frozen hbt 8
          have HACC := Lib.hid hacc
          have HBT := Lib.hid hbt
          have HROW := Lib.hid hrow
          clear hacc hbt hrow
          simp only [Tr.cells]
          gi_wp2_with (rw [Oper.semAt_eq _ _ _ (fun c h => by cases h)]; go_simp; try go_bits)
          have hlr := (Array.getElem?_eq_some_iff.1 HACC.out.L).1
          have hBW := (Array.getElem?_eq_some_iff.1 HBT.out).1
          have hbr := run_beginRound (P := Tryd.prog) (w := Wr.alloc (.cells #[.int .i64 t.w, .int .i64 t.a0, .int .i64 t.a1, .int .i64 t.a2, .int .i64 t.b0, .int .i64 t.b1, .int .i64 t.b2] 87)) ((heap_alloc_old _ _ hlr).trans HACC.out.L) hst
          obtain ⟨Wx, hWx⟩ : ∃ Wx, (Wr.alloc (.cells #[.int .i64 t.w, .int .i64 t.a0, .int .i64 t.a1, .int .i64 t.a2, .int .i64 t.b0, .int .i64 t.b1, .int .i64 t.b2] 87)).putObj (w'.heap.size + 1) (.loop { r with state := .busy }) = Wx := ⟨_, rfl⟩
          rw [hWx] at hbr
          refine ⟨Wx, hbr, ?_⟩
          have hBl : Bt < w'.heap.size := by have := HXF.out.lb; have := HXF.out.sz; omega
          have hsz := HACC.out.sz
          have hBx : Wx.heap[Bt]? = some (.cells (b'.cells9 (.slice sa sl sc) kv (.map (some M)) tv).toArray 79) := by rw [← hWx]; exact (World.putObj_heap_other (by omega)).trans ((heap_alloc_old _ _ hBW).trans HBT.out)
          have hTx : Wx.heap[Wr.heap.size]? = some (.cells #[.int .i64 t.w, .int .i64 t.a0, .int .i64 t.a1, .int .i64 t.a2, .int .i64 t.b0, .int .i64 t.b1, .int .i64 t.b2] 87) := by rw [← hWx]; exact (World.putObj_heap_other (by omega)).trans (World.alloc_heap_new _ _)
          have hRx : Wx.ownsRow (w'.heap.size + 2) 87 7 tv pre.length (pre.flatMap Tr.cells) := ownsRow_same (HROW.out.alloc _) fun g hg => by rw [← hWx]; exact World.putObj_heap_other (by have := (HROW.out.lt g hg).1; omega)
          have hzx : Wx.heap.size = Wr.heap.size + 1 := by rw [← hWx]; simp
          have b8 : Wx.cell? ⟨Bt, 8, none⟩ = some tv := blk_cell hBx
          have x0 : Wx.cell? ⟨Wr.heap.size, 0, none⟩ = some (.int .i64 t.w) := blk_cell hTx
          have x1 : Wx.cell? ⟨Wr.heap.size, 1, none⟩ = some (.int .i64 t.a0) := blk_cell hTx
          have x2 : Wx.cell? ⟨Wr.heap.size, 2, none⟩ = some (.int .i64 t.a1) := blk_cell hTx
          have x3 : Wx.cell? ⟨Wr.heap.size, 3, none⟩ = some (.int .i64 t.a2) := blk_cell hTx
          have x4 : Wx.cell? ⟨Wr.heap.size, 4, none⟩ = some (.int .i64 t.b0) := blk_cell hTx
          have x5 : Wx.cell? ⟨Wr.heap.size, 5, none⟩ = some (.int .i64 t.b1) := blk_cell hTx
          have x6 : Wx.cell? ⟨Wr.heap.size, 6, none⟩ = some (.int .i64 t.b2) := blk_cell hTx
          have x7 : Bt < Wx.heap.size := by omega
          have x8 : Wr.heap.size < Wx.heap.size := by omega
          have HWX := Lib.hid hWx
          have HBX := Lib.hid hBx
          have HRX := Lib.hid hRx
          have HZX := Lib.hid hzx
          have HST := Lib.hid hst
          have HPD := Lib.hid hpd
          clear hbr hWx hBx hTx hRx hzx t8 tf hst hpd
          gi_wp2_with (first
            | (gi_at_builtin; refine wpListIn_append_own_at _ rfl (.tmp 41) (.tmp 43) 77 rfl (w'.heap.size + 2) 87 i87 _ 7 56 Tryd.underlying77 i87a i87b i87c i87d rfl (by decide) tv _ _ rfl (HRX.out.alloc _) ⟨Wx.heap.size, 0, none⟩ 1 1 t.cells rfl rfl ?c1 ?c2 ?c3 ?c4 ?c5 ?_)
            | (rw [Oper.semAt_eq _ _ _ (fun c h => by cases h)]; go_simp; try go_bits))
          case c1 =>
            intro j u hj
            rw [addr_add]
            exact cell_new.trans (by simpa [Tr.cells] using hj)
          case c2 => intro u hu; simp [Tr.cells] at hu; rcases hu with rfl | rfl | rfl | rfl | rfl | rfl | rfl <;> rfl
          case c3 => unfold maxLen; omega
          case c4 => omega
          case c5 => have := HZX.out; simp; omega
          intro v' w3 hown hgrow _ hat
          obtain ⟨g', cap', rfl⟩ := ownsRow_succ hown
          have hE := round_end HACC.out HST.out HPD.out (by omega) (by omega) (by omega) HBT.out HROW.out HWX.out hown hgrow (by simpa using hat)
          have hkeep : w3.heap[Bt]? = Wx.heap[Bt]? := (hgrow.block Bt (by simp; omega) (fun e => by have := (HRX.out.lt Bt e.symm).1; omega)).trans (heap_alloc_old _ _ x7)
          have w8 : w3.cell? ⟨Bt, 8, none⟩ = some tv := (World.cell?_of_block (w := Wx) (a := ⟨Bt, 8, none⟩) hkeep).trans b8
          have wf : w3.frozen? ⟨Bt, 8, none⟩ = false := blk_frozen (hkeep.trans HBX.out) 8
          have HE := Lib.hid hE
          clear hE hown hgrow hat hkeep b8 x0 x1 x2 x3 x4 x5 x6
          gi_wp2_with (rw [Oper.semAt_eq _ _ _ (fun c h => by cases h)]; go_simp; try go_bits)
          exact HE.out
        · intro W2 tv hD hbW hrow hVW _
          obtain ⟨ta, tm, tc, rfl⟩ := ownsRow_slice hrow
          obtain ⟨ya, ym, yc, rfl⟩ := ownsRow_slice HXF.out.row
          have hR0 : W2.heap[W.heap.size + 1]? = some zero79 := (hVW.block _ (by omega)).trans HZ79.out
          rw [← HB'.out] at hbW
          have e0 : W2.cell? ⟨Bt, 0, none⟩ = some (.slice sa sl sc) := blk_cell hbW
          have s0 : W2.cell? ⟨W.heap.size + 1, 0, none⟩ = some (.slice none 0 0) := blk_cell hR0
          have f0 := blk_frozen hR0 0
          have e1 : W2.cell? ⟨Bt, 1, none⟩ = some (.int .i64 w0) := blk_cell hbW
          have s1 : W2.cell? ⟨W.heap.size + 1, 1, none⟩ = some (.int .i64 0) := blk_cell hR0
          have f1 := blk_frozen hR0 1
          have e2 : W2.cell? ⟨Bt, 2, none⟩ = some (.int .i64 c0) := blk_cell hbW
          have s2 : W2.cell? ⟨W.heap.size + 1, 2, none⟩ = some (.int .i64 0) := blk_cell hR0
          have f2 := blk_frozen hR0 2
          have e3 : W2.cell? ⟨Bt, 3, none⟩ = some (.int .i64 c1) := blk_cell hbW
          have s3 : W2.cell? ⟨W.heap.size + 1, 3, none⟩ = some (.int .i64 0) := blk_cell hR0
          have f3 := blk_frozen hR0 3
          have e4 : W2.cell? ⟨Bt, 4, none⟩ = some (.int .i64 c2) := blk_cell hbW
          have s4 : W2.cell? ⟨W.heap.size + 1, 4, none⟩ = some (.int .i64 0) := blk_cell hR0
          have f4 := blk_frozen hR0 4
          have e5 : W2.cell? ⟨Bt, 5, none⟩ = some (.slice ya ym yc) := blk_cell hbW
          have s5 : W2.cell? ⟨W.heap.size + 1, 5, none⟩ = some (.slice none 0 0) := blk_cell hR0
          have f5 := blk_frozen hR0 5
          have e6 : W2.cell? ⟨Bt, 6, none⟩ = some (.int .i64 r0) := blk_cell hbW
          have s6 : W2.cell? ⟨W.heap.size + 1, 6, none⟩ = some (.int .i64 0) := blk_cell hR0
          have f6 := blk_frozen hR0 6
          have e7 : W2.cell? ⟨Bt, 7, none⟩ = some (.map (some M)) := blk_cell hbW
          have s7 : W2.cell? ⟨W.heap.size + 1, 7, none⟩ = some (.map none) := blk_cell hR0
          have f7 := blk_frozen hR0 7
          have e8 : W2.cell? ⟨Bt, 8, none⟩ = some (.slice ta tm tc) := blk_cell hbW
          have s8 : W2.cell? ⟨W.heap.size + 1, 8, none⟩ = some (.slice none 0 0) := blk_cell hR0
          have f8 := blk_frozen hR0 8
          have HD := Lib.hid hD
          have HROW := Lib.hid hrow
          have HVW := Lib.hid hVW
          have HR0 := Lib.hid hR0
          clear hD hrow hVW hR0 hbW
          go_wp2
          have hst := stored9 HR0.out (.slice sa sl sc) (.int .i64 w0) (.int .i64 c0) (.int .i64 c1) (.int .i64 c2) (.slice ya ym yc) (.int .i64 r0) (.map (some M)) (.slice ta tm tc)
          have HST := Lib.hid hst
          clear hst
          generalize (((((((((W2.setCell ⟨W.heap.size + 1, 0, none⟩ (.slice sa sl sc)).setCell ⟨W.heap.size + 1, 1, none⟩ (.int .i64 w0)).setCell ⟨W.heap.size + 1, 2, none⟩ (.int .i64 c0)).setCell ⟨W.heap.size + 1, 3, none⟩ (.int .i64 c1)).setCell
            ⟨W.heap.size + 1, 4, none⟩ (.int .i64 c2)).setCell ⟨W.heap.size + 1, 5, none⟩ (.slice ya ym yc)).setCell ⟨W.heap.size + 1, 6, none⟩ (.int .i64 r0)).setCell ⟨W.heap.size + 1, 7, none⟩ (.map (some M))).setCell ⟨W.heap.size + 1, 8, none⟩ (.slice ta tm tc)) = W3 at HST ⊢
          have hxz := HXF.out.sz
          have hDz := (Array.getElem?_eq_some_iff.1 HD.out).1
          have hD3 : W3.heap[w'.heap.size]? = some (.deferred (some [])) := (HST.out.same _ (by have := HXF.out.v0; omega)).trans HD.out
          refine ⟨by simp, .inl ⟨_, _, rfl, run_takeDeferred hD3, ?_⟩⟩
          generalize hW5 : W3.putObj w'.heap.size (.deferred none) = W5
          have h5 : ∀ k, k ≠ w'.heap.size → W5.heap[k]? = W3.heap[k]? := fun k hk => by rw [← hW5]; exact World.putObj_heap_other hk
          have hR5 := (h5 (W.heap.size + 1) (by have := HXF.out.v0; omega)).trans HST.out.cells
          have k0 : W5.cell? ⟨W.heap.size + 1, 0, none⟩ = some (.slice sa sl sc) := blk_cell hR5
          have k1 : W5.cell? ⟨W.heap.size + 1, 1, none⟩ = some (.int .i64 w0) := blk_cell hR5
          have k2 : W5.cell? ⟨W.heap.size + 1, 2, none⟩ = some (.int .i64 c0) := blk_cell hR5
          have k3 : W5.cell? ⟨W.heap.size + 1, 3, none⟩ = some (.int .i64 c1) := blk_cell hR5
          have k4 : W5.cell? ⟨W.heap.size + 1, 4, none⟩ = some (.int .i64 c2) := blk_cell hR5
          have k5 : W5.cell? ⟨W.heap.size + 1, 5, none⟩ = some (.slice ya ym yc) := blk_cell hR5
          have k6 : W5.cell? ⟨W.heap.size + 1, 6, none⟩ = some (.int .i64 r0) := blk_cell hR5
          have k7 : W5.cell? ⟨W.heap.size + 1, 7, none⟩ = some (.map (some M)) := blk_cell hR5
          have k8 : W5.cell? ⟨W.heap.size + 1, 8, none⟩ = some (.slice ta tm tc) := blk_cell hR5
          refine ⟨.agg #[.slice sa sl sc, .int .i64 w0, .int .i64 c0, .int .i64 c1, .int .i64 c2, .slice ya ym yc, .int .i64 r0, .map (some M), .slice ta tm tc], ?_, ya, ym, yc, M, .slice ta tm tc, rfl, ?_, ?_, fun g hg => by have := (HROW.out.lt g hg).1; have := HXF.out.v0; have := HXF.out.sz; omega⟩
          · simp [results, Tryd.results64, go_sem, k0, k1, k2, k3, k4, k5, k6, k7, k8]
          · have hvw := HVW.out
            have hw2 : Below W.heap.size W W2 := HBV.out.trans (hvw.mono (by omega))
            exact ⟨by rw [← hW5]; exact HST.out.os.trans hw2.os, by rw [← hW5]; exact HST.out.tape.trans hw2.tape, by rw [← hW5]; exact HST.out.output.trans hw2.output, by rw [← hW5]; simp [HST.out.size]; exact hw2.size,
              fun k hk => (h5 k (by have := HXF.out.v0; omega)).trans ((HST.out.same k (by omega)).trans (hw2.block k hk))⟩
          · have hrow := HROW.out
            have hrow5 : W5.ownsRow (w'.heap.size + 2) 87 7 (.slice ta tm tc) (truths b').length ((truths b').flatMap Tr.cells) := ownsRow_same hrow fun g hg => by
              have := (hrow.lt g hg).1
              have := HXF.out.v0
              exact (h5 g (by omega)).trans (HST.out.same g (by omega))
            rw [trCells_flat] at hrow5
            have := SlOf.own (rows := trCells (truths b')) (by simpa [trCells] using hrow5) (trCells_len _)
            rw [← HB'.out] at this
            exact this
  clear aK
  go_region
  · have zz := Z1.out
    have p := HP1.out
    refine hkey _ _ _ ((heap_alloc_old _ _ (by omega)).trans p.map) (World.alloc_heap_new _ _) (p.below (((Below.refl _ V).alloc (Nat.le_refl _) _).drew) (Nat.le_refl _) |>.alloc (by omega) _) (Nat.le_refl _) (by omega)
  · have zz := Z3.out
    have p := HP3.out
    have hc : X3.heap[V.heap.size + 1]? = some zero79 := (p.old _ (by omega)).trans (by have := World.alloc_heap_new (V.alloc (.map #[] 0)) zero79; rw [World.size_alloc] at this; exact this)
    have hst := stored9 hc (.slice sa sl sc) (.int .i64 w0) (.int .i64 c0) (.int .i64 c1) (.int .i64 c2) (.slice ka cks.length kc) (.int .i64 r0) (.map (some V.heap.size)) (.slice none 0 0)
    have hbl := p.below ((((Below.refl _ V).alloc (Nat.le_refl _) _).alloc (by simp) _).drew) (Nat.le_refl _)
    refine hkey _ _ _ ((hst.same _ (by omega)).trans p.map) hst.cells (hst.below hbl (by omega)) (Nat.le_refl _) (by omega)
  · have zz := Z2.out
    have p := HP2.out
    have hc : X2.heap[V.heap.size]? = some zero79 := (p.old _ (by omega)).trans ((heap_alloc_old _ _ (by simp)).trans (World.alloc_heap_new _ _))
    have hst := stored9 hc (.slice sa sl sc) (.int .i64 w0) (.int .i64 c0) (.int .i64 c1) (.int .i64 c2) (.slice ka cks.length kc) (.int .i64 r0) (.map (some (V.heap.size + 1))) (.slice none 0 0)
    have hbl := p.below ((((Below.refl _ V).alloc (Nat.le_refl _) _).alloc (by simp) _).drew) (by omega)
    refine hkey _ _ _ ((hst.same _ (by omega)).trans p.map) hst.cells (hst.below hbl (by omega)) (by omega) (Nat.le_refl _)
end Go.Proofs.YtbhjfojbjpbdbaaDoor
namespace Go.Proofs.YtbhjfojbjpbdbaaDoor
theorem stsOk_mem : ∀ (l : List St) (d : Int), stsOk d l = true → ∀ x ∈ l, (d + 1 ≤ x.due ∧ x.due ≤ 300) ∧ spanOk x.dl x.dh 1 90 2 = true ∧ spanOk x.rl x.rh 0 30 2 = true ∧ spanOk x.sl x.sh 0 20 1 = true
  | [], _, _, x, hx => by cases hx
  | y :: l, d, h, x, hx => by
    simp only [stsOk, stOk, Bool.and_eq_true, within, decide_eq_true_iff] at h
    rcases List.mem_cons.1 hx with rfl | hx
    · exact ⟨⟨by omega, by omega⟩, h.1.1.1.2, h.1.1.2, h.1.2⟩
    · obtain ⟨h1, h2⟩ := stsOk_mem l y.due h.2 x hx
      exact ⟨⟨by omega, h1.2⟩, h2⟩
theorem spanOk_iff {a b lo hi wide : Int} (h : spanOk a b lo hi wide = true) : lo ≤ a ∧ a ≤ b ∧ b ≤ hi ∧ b - a ≤ wide := by
  simp only [spanOk, Bool.and_eq_true, decide_eq_true_iff] at h
  omega
theorem bkOk_head {b : Bk} (h : bkOk b = true) : (1 ≤ b.sts.length ∧ b.sts.length ≤ 3) ∧ (1 ≤ b.wth ∧ b.wth ≤ 7) ∧ b.cks.length ≤ 4 ∧ (0 ≤ b.rate ∧ b.rate ≤ 99) := by
  simp only [bkOk, headOk, within, Bool.and_eq_true, decide_eq_true_iff] at h
  omega
theorem bkOk_costs {b : Bk} (h : bkOk b = true) : ∀ k, 0 ≤ b.cost k ∧ b.cost k ≤ 30 := by
  simp only [bkOk, costsOk, within, Bool.and_eq_true, decide_eq_true_iff] at h
  intro k
  unfold Bk.cost
  split <;> omega
theorem bkOk_sts {b : Bk} (h : bkOk b = true) : ∀ x ∈ b.sts, (1 ≤ x.due ∧ x.due ≤ 300) ∧ (1 ≤ x.dl ∧ x.dl ≤ x.dh ∧ x.dh ≤ 90 ∧ x.dh - x.dl ≤ 2) ∧ (0 ≤ x.rl ∧ x.rl ≤ x.rh ∧ x.rh ≤ 30 ∧ x.rh - x.rl ≤ 2) ∧ (0 ≤ x.sl ∧ x.sl ≤ x.sh ∧ x.sh ≤ 20 ∧ x.sh - x.sl ≤ 1) := by
  simp only [bkOk, Bool.and_eq_true] at h
  intro x hx
  obtain ⟨h1, h2, h3, h4⟩ := stsOk_mem _ _ h.1.1.2 x hx
  exact ⟨by omega, spanOk_iff h2, spanOk_iff h3, spanOk_iff h4⟩
theorem bkOk_cks {b : Bk} (h : bkOk b = true) : CksOk b.cks := by
  have hh := bkOk_head h
  simp only [bkOk, Bool.and_eq_true] at h
  intro c hc
  have := List.all_eq_true.1 h.2 c hc
  simp only [ckOk, within, Bool.and_eq_true, decide_eq_true_iff] at this
  omega
theorem due_bd {b : Bk} (h : bkOk b = true) (j : Nat) : 0 ≤ b.due j ∧ b.due j ≤ 300 := by
  unfold Bk.due
  rw [List.getD_eq_getElem?_getD]
  rcases hx : (b.sts.map St.due)[j]? with _ | d
  · simp
  · rw [List.getElem?_map] at hx
    rcases hy : b.sts[j]? with _ | x
    · rw [hy] at hx; cases hx
    · rw [hy] at hx
      simp at hx
      have := (bkOk_sts h x (List.mem_of_getElem? hy)).1
      simp
      omega
theorem bds_of {b : Bk} (h : bkOk b = true) : Bds b := by
  have hh := bkOk_head h
  exact ⟨hh.1.1, hh.1.2, fun j => by have := due_bd h j; omega, hh.2.2.2⟩
theorem leaveOut_mem : ∀ (l : List Ck) (but : List Nat) (k : Nat) (c : Ck), c ∈ leaveOut but k l → c ∈ l
  | [], _, _, c, h => by simp [leaveOut] at h
  | x :: l, but, k, c, h => by
    simp only [leaveOut] at h
    split at h
    · exact List.mem_cons_of_mem _ (leaveOut_mem l but (k + 1) c h)
    · rcases List.mem_cons.1 h with rfl | h
      · exact List.mem_cons_self
      · exact List.mem_cons_of_mem _ (leaveOut_mem l but (k + 1) c h)
theorem leaveOut_len : ∀ (l : List Ck) (but : List Nat) (k : Nat), (leaveOut but k l).length ≤ l.length
  | [], _, _ => Nat.le_refl _
  | x :: l, but, k => by
    have := leaveOut_len l but (k + 1)
    simp only [leaveOut]
    split <;> simp <;> omega
theorem leaveOut_nil : ∀ (l : List Ck) (k : Nat), leaveOut [] k l = l
  | [], _ => rfl
  | x :: l, k => by simp [leaveOut, leaveOut_nil l (k + 1)]
theorem but_nil (b : Bk) : b.but [] = b := by simp [Bk.but, leaveOut_nil]
structure Sound (b : Bk) : Prop where
  sts : ∀ x ∈ b.sts, (1 ≤ x.due ∧ x.due ≤ 300) ∧ (1 ≤ x.dl ∧ x.dl ≤ x.dh ∧ x.dh ≤ 90 ∧ x.dh - x.dl ≤ 2) ∧ (0 ≤ x.rl ∧ x.rl ≤ x.rh ∧ x.rh ≤ 30 ∧ x.rh - x.rl ≤ 2) ∧ (0 ≤ x.sl ∧ x.sl ≤ x.sh ∧ x.sh ≤ 20 ∧ x.sh - x.sl ≤ 1)
  bd : Bds b
  co : ∀ k, 0 ≤ b.cost k ∧ b.cost k ≤ 30
  ck : CksOk b.cks
  nc : b.cks.length ≤ 1000
  wt : 1 ≤ b.wth ∧ b.wth ≤ 7
theorem sound_of {b : Bk} (h : bkOk b = true) : Sound b := ⟨bkOk_sts h, bds_of h, bkOk_costs h, bkOk_cks h, by have := bkOk_head h; omega, (bkOk_head h).2.1⟩
theorem Sound.but {b : Bk} (h : Sound b) (l : List Nat) : Sound (b.but l) :=
  ⟨h.sts, ⟨h.bd.l1, h.bd.l3, h.bd.due, h.bd.rate⟩, h.co, fun c hc => h.ck c (leaveOut_mem _ _ _ c hc), Nat.le_trans (leaveOut_len _ _ _) h.nc, h.wt⟩
theorem Sound.with {b : Bk} (h : Sound b) {c : Ck} (hc : (0 ≤ c.st ∧ c.st ≤ 2) ∧ (0 ≤ c.rd ∧ c.rd ≤ 600) ∧ (0 ≤ c.er ∧ c.er ≤ 5)) (hn : b.cks.length ≤ 900) : Sound (b.with c) :=
  ⟨h.sts, ⟨h.bd.l1, h.bd.l3, h.bd.due, h.bd.rate⟩, h.co, fun x hx => by
    rcases List.mem_append.1 hx with hx | hx
    · exact h.ck x hx
    · simp at hx; subst hx; exact hc, by simp [Bk.with]; omega, h.wt⟩
theorem Sound.big {b : Bk} (h : Sound b) : Big b :=
  ⟨h.bd, h.ck, h.nc, fun x hx => by have := h.sts x hx; omega, h.co⟩
theorem flatMap_len {α β : Type} (f : α → List β) (c : Nat) : ∀ (l : List α), (∀ x ∈ l, (f x).length ≤ c) → (l.flatMap f).length ≤ l.length * c
  | [], _ => by simp
  | x :: l, h => by
    have h1 := flatMap_len f c l (fun y hy => h y (List.mem_cons_of_mem _ hy))
    have h2 := h x List.mem_cons_self
    simp only [List.flatMap_cons, List.length_append, List.length_cons, Nat.add_mul]
    omega
theorem upto_len (lo hi : Int) : (upto lo hi).length = (hi - lo + 1).toNat := by simp [upto]
theorem upto_mem {lo hi n : Int} : n ∈ upto lo hi ↔ lo ≤ n ∧ n ≤ hi := by
  simp only [upto, List.mem_map, List.mem_range]
  constructor
  · rintro ⟨i, hi, rfl⟩; omega
  · rintro ⟨h1, h2⟩; exact ⟨(n - lo).toNat, by omega, by omega⟩
theorem goes_len (cost : Int) (cks : List Ck) : ∀ (l : List St) (j : Nat) (t : Tr) (fr : Int), (∀ x ∈ l, x.dh - x.dl ≤ 2 ∧ x.rh - x.rl ≤ 2 ∧ x.sh - x.sl ≤ 1) → (goes cost cks l j t fr).length ≤ 18 ^ l.length
  | [], _, _, _, _ => by simp [goes]
  | x :: l, j, t, fr, h => by
    have hx := h x List.mem_cons_self
    have ih := fun j t fr => goes_len cost cks l j t fr (fun y hy => h y (List.mem_cons_of_mem _ hy))
    simp only [goes, List.length_cons]
    have h3 : ∀ d r, (if rightL cks j (fr + d + r + cost) then (upto x.sl x.sh).flatMap fun s => goes cost cks l (j + 1) (t.put j (fr + d + r + cost) r) (fr + d + r + cost + s) else []).length ≤ 2 * 18 ^ l.length := by
      intro d r
      split
      · refine Nat.le_trans (flatMap_len _ (18 ^ l.length) _ (fun s _ => ih _ _ _)) (Nat.mul_le_mul_right _ ?_)
        rw [upto_len]; omega
      · simp
    have h2 : ∀ d, ((upto x.rl x.rh).flatMap fun r => if rightL cks j (fr + d + r + cost) then (upto x.sl x.sh).flatMap fun s => goes cost cks l (j + 1) (t.put j (fr + d + r + cost) r) (fr + d + r + cost + s) else []).length ≤ 3 * (2 * 18 ^ l.length) := by
      intro d
      refine Nat.le_trans (flatMap_len _ _ _ (fun r _ => h3 d r)) (Nat.mul_le_mul_right _ ?_)
      rw [upto_len]; omega
    refine Nat.le_trans (Nat.le_trans (flatMap_len _ _ _ (fun d _ => h2 d)) (Nat.mul_le_mul_right _ (show _ ≤ 3 by rw [upto_len]; omega))) ?_
    rw [Nat.pow_succ]
    omega
theorem truths_len {b : Bk} (h : Sound b) : (truths b).length ≤ 20000 := by
  have hp : 18 ^ b.sts.length ≤ 18 ^ 3 := Nat.pow_le_pow_right (by omega) h.bd.l3
  refine Nat.le_trans (flatMap_len _ (18 ^ 3) _ (fun w _ => ?_)) (by simp)
  split
  · exact Nat.le_trans (goes_len _ _ _ _ _ _ (fun x hx => by have := h.sts x hx; omega)) hp
  · simp
theorem goes_ok (cost : Int) (hc : 0 ≤ cost ∧ cost ≤ 30) (cks : List Ck) : ∀ (l : List St) (j : Nat) (t : Tr) (fr : Int), j + l.length ≤ 3 → TrOk t → (0 ≤ fr ∧ fr ≤ 170 * j) →
    (∀ x ∈ l, (1 ≤ x.dl ∧ x.dl ≤ x.dh ∧ x.dh ≤ 90) ∧ (0 ≤ x.rl ∧ x.rl ≤ x.rh ∧ x.rh ≤ 30) ∧ (0 ≤ x.sl ∧ x.sl ≤ x.sh ∧ x.sh ≤ 20)) → ∀ y ∈ goes cost cks l j t fr, TrOk y
  | [], _, t, _, _, ht, _, _, y, hy => by simp [goes] at hy; subst hy; exact ht
  | x :: l, j, t, fr, hj, ht, hf, h, y, hy => by
    have hx := h x List.mem_cons_self
    simp only [List.length_cons] at hj
    simp only [goes, List.mem_flatMap] at hy
    obtain ⟨d, hd, r, hr, hy⟩ := hy
    rw [upto_mem] at hd hr
    split at hy
    · rw [List.mem_flatMap] at hy
      obtain ⟨s, hs, hy⟩ := hy
      rw [upto_mem] at hs
      exact goes_ok cost hc cks l (j + 1) _ _ (by omega) (put_ok ht (by omega) (by omega)) (by omega) (fun z hz => h z (List.mem_cons_of_mem _ hz)) y hy
    · cases hy
theorem truths_ok {b : Bk} (h : Sound b) : ∀ t ∈ truths b, TrOk t := by
  intro t ht
  simp only [truths, List.mem_flatMap, List.mem_range] at ht
  obtain ⟨w, hw, ht⟩ := ht
  split at ht
  · exact goes_ok _ (h.co w) _ _ 0 _ 0 (by have := h.bd.l3; omega) (by simp [Tr.start, TrOk]; omega) (by omega) (fun x hx => by have := h.sts x hx; omega) t ht
  · cases ht
end Go.Proofs.YtbhjfojbjpbdbaaDoor
