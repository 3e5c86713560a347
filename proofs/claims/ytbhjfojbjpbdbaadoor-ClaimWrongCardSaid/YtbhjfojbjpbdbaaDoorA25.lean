/-
  Plain law: the choices that Wrong goes through, one number after the other. Written by this session.
-/
import Derived.Test.YtbhjfojbjpbdbaaDoorP1
namespace Go.Proofs.YtbhjfojbjpbdbaaDoor

/-- the number from which on the next one is chosen. -/
def nextOf (l : List Nat) : Nat := match l.getLast? with
  | none => 0
  | some x => x + 1

def canBe (b : Bk) (l : List Nat) : Bool := !(truths (b.but l)).isEmpty

/-- so many more are chosen behind some, from a number on: the first choice without which the book can be true. -/
def leaveL (b : Bk) : Nat → List Nat → Option (List Nat)
  | 0, l => if canBe b l then some l else none
  | d + 1, l => ((List.range b.cks.length).filter (nextOf l ≤ ·)).findSome? fun n => leaveL b d (l ++ [n])

/-- .. from a number on. -/
def restL (b : Bk) (d : Nat) (l : List Nat) (q : Nat) : Option (List Nat) := ((List.range b.cks.length).filter (q ≤ ·)).findSome? fun n => leaveL b d (l ++ [n])

theorem leaveL_succ (b : Bk) (d : Nat) (l : List Nat) : leaveL b (d + 1) l = restL b d l (nextOf l) := rfl

theorem filter_range_cons {n q : Nat} (h : q < n) : (List.range n).filter (q ≤ ·) = q :: (List.range n).filter (q + 1 ≤ ·) := by
  induction n with
  | zero => omega
  | succ n ih =>
    rw [List.range_succ, List.filter_append, List.filter_append]
    rcases Nat.lt_or_ge q n with hq | hq
    · rw [ih hq]
      simp [show q ≤ n by omega, show q + 1 ≤ n by omega]
    · have hqn : q = n := by omega
      subst hqn
      have h1 : (List.range q).filter (q ≤ ·) = [] := by
        rw [List.filter_eq_nil_iff]
        intro x hx
        have := List.mem_range.1 hx
        simp; omega
      have h2 : (List.range q).filter (q + 1 ≤ ·) = [] := by
        rw [List.filter_eq_nil_iff]
        intro x hx
        have := List.mem_range.1 hx
        simp; omega
      rw [h1, h2]
      simp
theorem filter_range_nil {n q : Nat} (h : n ≤ q) : (List.range n).filter (q ≤ ·) = [] := by
  rw [List.filter_eq_nil_iff]
  intro x hx
  have := List.mem_range.1 hx
  simp; omega

theorem restL_step (b : Bk) (d : Nat) (l : List Nat) {q : Nat} (h : q < b.cks.length) : restL b d l q = match leaveL b d (l ++ [q]) with | some r => some r | none => restL b d l (q + 1) := by
  unfold restL
  rw [filter_range_cons h, List.findSome?_cons]
  cases leaveL b d (l ++ [q]) <;> rfl
theorem restL_end (b : Bk) (d : Nat) (l : List Nat) {q : Nat} (h : b.cks.length ≤ q) : restL b d l q = none := by
  unfold restL
  rw [filter_range_nil h]
  rfl

theorem nextOf_concat (l : List Nat) (n : Nat) : nextOf (l ++ [n]) = n + 1 := by simp [nextOf]

theorem find_flatMap {α β : Type} (p : β → Bool) (f : α → List β) : ∀ (l : List α), (l.flatMap f).find? p = l.findSome? fun x => (f x).find? p
  | [] => rfl
  | x :: l => by
    rw [List.flatMap_cons, List.find?_append, List.findSome?_cons, find_flatMap p f l]
    cases h : (f x).find? p <;> rfl

theorem leaveL_eq (b : Bk) : ∀ (d : Nat) (l : List Nat), leaveL b d l = (((picks d b.cks.length (nextOf l)).map (l ++ ·)).find? (canBe b))
  | 0, l => by
    simp only [leaveL, picks, List.map_cons, List.map_nil, List.append_nil]
    cases h : canBe b l <;> simp [List.find?, h]
  | d + 1, l => by
    simp only [leaveL, picks, List.map_flatMap, List.map_map]
    rw [find_flatMap]
    congr 1
    funext n
    rw [leaveL_eq b d (l ++ [n]), nextOf_concat]
    congr 2
    funext x
    simp

/-- how many must be left out: from so many on. -/
def wrongFrom (b : Bk) : Nat → Nat → Option (List Nat)
  | _, 0 => none
  | m, k + 1 => match leaveL b m [] with
    | some r => some r
    | none => wrongFrom b (m + 1) k

theorem wrongFrom_eq (b : Bk) : ∀ (k m : Nat), wrongFrom b m k = (List.range' m k).findSome? fun m => leaveL b m []
  | 0, m => rfl
  | k + 1, m => by
    rw [wrongFrom, List.range'_succ, List.findSome?_cons, wrongFrom_eq b k (m + 1)]
    cases leaveL b m [] <;> rfl

theorem wrongL_eq (b : Bk) : wrongL b = (wrongFrom b 0 (b.cks.length + 1)).getD [] := by
  rw [wrongFrom_eq]
  unfold wrongL allPicks
  rw [find_flatMap, List.range_eq_range']
  congr 2
  funext m
  rw [leaveL_eq]
  have h : ((picks m b.cks.length (nextOf [])).map fun x => [] ++ x) = picks m b.cks.length 0 := by
    show (picks m b.cks.length 0).map _ = _
    simp
  rw [h]
  rfl
end Go.Proofs.YtbhjfojbjpbdbaaDoor
