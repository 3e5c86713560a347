/-
  Plain Lean: what package claim computes, on lists of numbers (no program in sight). Written by this session.
-/
namespace Go.Proofs.YtbhjfojbjpbdbaaDoor

structure St where
  due : Int
  dl : Int
  dh : Int
  rl : Int
  rh : Int
  sl : Int
  sh : Int

structure Ck where
  st : Int
  rd : Int
  er : Int

structure Bk where
  sts : List St
  wth : Int
  c0 : Int
  c1 : Int
  c2 : Int
  cks : List Ck
  rate : Int

def within (n lo hi : Int) : Bool := decide (lo ≤ n) && decide (n ≤ hi)
def spanOk (a b lo hi wide : Int) : Bool := decide (lo ≤ a) && decide (a ≤ b) && decide (b ≤ hi) && decide (b - a ≤ wide)
def stOk (d : Int) (x : St) : Bool := within x.due (d + 1) 300 && spanOk x.dl x.dh 1 90 2 && spanOk x.rl x.rh 0 30 2 && spanOk x.sl x.sh 0 20 1
def stsOk : Int → List St → Bool
  | _, [] => true
  | d, x :: l => stOk d x && stsOk x.due l
def ckOk (n : Int) (c : Ck) : Bool := within c.st 0 (n - 1) && within c.rd 0 600 && within c.er 0 5
def costsOk (b : Bk) : Bool := within b.c0 0 30 && within b.c1 0 30 && within b.c2 0 30
def headOk (b : Bk) : Bool := within b.sts.length 1 3 && within b.wth 1 7 && decide ((b.cks.length : Int) ≤ 4) && within b.rate 0 99
def bkOk (b : Bk) : Bool := headOk b && stsOk 0 b.sts && costsOk b && b.cks.all (ckOk b.sts.length)
def checkS (b : Bk) : Int := if bkOk b then 0 else 60

/-- a truth: the weather, the minutes in which the coach comes, what the road costs. -/
structure Tr where
  w : Int
  a0 : Int
  a1 : Int
  a2 : Int
  b0 : Int
  b1 : Int
  b2 : Int

def Tr.comes (t : Tr) : Nat → Int
  | 0 => t.a0
  | 1 => t.a1
  | _ => t.a2
def Tr.rough (t : Tr) : Nat → Int
  | 0 => t.b0
  | 1 => t.b1
  | _ => t.b2
def Tr.put (t : Tr) (k : Nat) (m r : Int) : Tr :=
  match k with
  | 0 => { t with a0 := m, b0 := r }
  | 1 => { t with a1 := m, b1 := r }
  | _ => { t with a2 := m, b2 := r }
def Tr.all (t : Tr) : Int := t.b0 + t.b1 + t.b2

def clockOk (stage minute : Int) (c : Ck) : Bool := decide (c.st ≠ stage) || within (c.rd - minute) (-c.er) c.er
def rightL (cks : List Ck) (stage minute : Int) : Bool := cks.all (clockOk stage minute)

/-- all numbers from a low one to a high one. -/
def upto (lo hi : Int) : List Int := (List.range (hi - lo + 1).toNat).map fun (i : Nat) => lo + (i : Int)

/-- all truths that begin so. -/
def goes (cost : Int) (cks : List Ck) : List St → Nat → Tr → Int → List Tr
  | [], _, t, _ => [t]
  | x :: l, k, t, start =>
    (upto x.dl x.dh).flatMap fun d => (upto x.rl x.rh).flatMap fun r =>
      if rightL cks k (start + d + r + cost) then
        (upto x.sl x.sh).flatMap fun s => goes cost cks l (k + 1) (t.put k (start + d + r + cost) r) (start + d + r + cost + s)
      else []

def Bk.cost (b : Bk) : Nat → Int
  | 0 => b.c0
  | 1 => b.c1
  | _ => b.c2
def bitOf (s : Int) (n : Nat) : Bool := decide (s / 2 ^ n % 2 = 1)
def Tr.start (w : Nat) : Tr := ⟨w, 0, 0, 0, 0, 0, 0⟩
def truths (b : Bk) : List Tr :=
  (List.range 3).flatMap fun w => if bitOf b.wth w then goes (b.cost w) b.cks b.sts 0 (Tr.start w) 0 else []

def minL (f : Tr → Int) (m : Int) (l : List Tr) : Int := l.foldl (fun m t => min m (f t)) m
def maxL (f : Tr → Int) (m : Int) (l : List Tr) : Int := l.foldl (fun m t => max m (f t)) m
def toldLo (f : Tr → Int) : List Tr → Int
  | [] => 0
  | t :: l => minL f (f t) (t :: l)
def toldHi (f : Tr → Int) : List Tr → Int
  | [] => 0
  | t :: l => maxL f (f t) (t :: l)

def Bk.due (b : Bk) (k : Nat) : Int := (b.sts.map St.due).getD k 0
def lateT (b : Bk) (k : Nat) (t : Tr) : Int := max 0 (t.comes k - b.due k)
def owesT (b : Bk) (t : Tr) : Int := b.rate * min (lateT b (b.sts.length - 1) t) t.all
def blamed (b : Bk) (t : Tr) : Bool := decide (0 < lateT b (b.sts.length - 1) t) && decide (t.comes (b.sts.length - 1) - t.all ≤ b.due (b.sts.length - 1))

/-- the error: of the book, of what is asked, and that the book cannot be true. -/
def askE (b : Bk) (is : Bool) : Int := if bkOk b then (if is then (if (truths b).isEmpty then 62 else 0) else 61) else 60
def isStage (b : Bk) (k : Int) : Bool := within k 0 ((b.sts.length : Int) - 1)

def spanE (b : Bk) (is : Bool) (f : Tr → Int) : Int × Int × Int :=
  if askE b is = 0 then (toldLo f (truths b), toldHi f (truths b), 0) else (0, 0, askE b is)
def rightS (b : Bk) : Bool × Int := if bkOk b then (!(truths b).isEmpty, 0) else (false, 60)
def comesS (b : Bk) (k : Int) : Int × Int × Int := spanE b (isStage b k) fun t => t.comes k.toNat
def lateS (b : Bk) (k : Int) : Int × Int × Int := spanE b (isStage b k) (lateT b k.toNat)
def roughS (b : Bk) (k : Int) : Int × Int × Int := spanE b (isStage b k) fun t => t.rough k.toNat
def owesS (b : Bk) : Int × Int × Int := spanE b true (owesT b)

/-- the set of the weathers of some truths. -/
def weathers (l : List Tr) : Nat := l.foldl (fun s t => s ||| (1 <<< t.w.toNat)) 0
def weatherS (b : Bk) : Int × Int := if askE b true = 0 then ((weathers (truths b) : Nat), 0) else (0, askE b true)
def blames (b : Bk) : Nat := (truths b).countP (blamed b)
def kindOf (b : Bk) : Int := (if 0 < blames b then 1 else 0) + (if blames b = (truths b).length then 1 else 0)
def blameS (b : Bk) : Int × Int := if askE b true = 0 then (kindOf b, 0) else (0, askE b true)
def paysS (b : Bk) : Int × Int :=
  if askE b true = 0 then (if blames b = (truths b).length then toldLo (owesT b) (truths b) else 0, 0) else (0, askE b true)

def Bk.with (b : Bk) (c : Ck) : Bk := { b with cks := b.cks ++ [c] }
def fitsS (b : Bk) (c : Ck) : Bool × Int :=
  if askE b (ckOk b.sts.length c) = 0 then (!(truths (b.with c)).isEmpty, 0) else (false, askE b (ckOk b.sts.length c))

/-- the clocks of a book without those of a list of numbers. -/
def leaveOut : List Nat → Nat → List Ck → List Ck
  | _, _, [] => []
  | but, k, c :: l => if but.contains k then leaveOut but (k + 1) l else c :: leaveOut but (k + 1) l
def Bk.but (b : Bk) (l : List Nat) : Bk := { b with cks := leaveOut l 0 b.cks }

/-- all increasing lists of so many numbers from one on below another, in order. -/
def picks : (many : Nat) → (below : Nat) → (start : Nat) → List (List Nat)
  | 0, _, _ => [[]]
  | m + 1, below, start => ((List.range below).filter (start ≤ ·)).flatMap fun n => (picks m below (n + 1)).map (n :: ·)
def allPicks (below : Nat) : List (List Nat) := (List.range (below + 1)).flatMap fun m => picks m below 0
def wrongL (b : Bk) : List Nat := ((allPicks b.cks.length).find? fun l => !(truths (b.but l)).isEmpty).getD []
def wrongS (b : Bk) : List Nat × Int := if bkOk b then (wrongL b, 0) else ([], 60)

def firstS (b : Bk) : Int × Int :=
  if askE b true = 0 then
    match (List.range b.sts.length).find? fun k => decide (0 < toldLo (lateT b k) (truths b)) with
    | some k => (k, 0)
    | none => (0, 4)
  else (0, askE b true)

end Go.Proofs.YtbhjfojbjpbdbaaDoor
