/-
  What the claim needs, gathered by a program of this session (wip/tools/trim.py) out of the texts YtbhjfojbjpbdbaaDoorWTab, YtbhjfojbjpbdbaaDoorWFour, YtbhjfojbjpbdbaaDoorWFootNe, YtbhjfojbjpbdbaaDoorWAt, YtbhjfojbjpbdbaaDoorWEqStruct, YtbhjfojbjpbdbaaDoorWRepsOne, YtbhjfojbjpbdbaaDoorWInv, YtbhjfojbjpbdbaaDoorWInvWords, YtbhjfojbjpbdbaaDoorWGuard, YtbhjfojbjpbdbaaDoorPX0, YtbhjfojbjpbdbaaDoorPX2, YtbhjfojbjpbdbaaDoorPX3, YtbhjfojbjpbdbaaDoorPX4, YtbhjfojbjpbdbaaDoorPX5, YtbhjfojbjpbdbaaDoorT1: nothing that stands here is proved for its own sake.
-/
import Derived.Test.YtbhjfojbjpbdbaaDoorZt2
import Derived.Test.YtbhjfojbjpbdbaaDoorProg
import Derived.Test.YtbhjfojbjpbdbaaDoorZt1
import Derived.Laws.StructEq
import Derived.Below
import Derived.Deep.Draws
import Derived.Deep.AppendLies
import Derived.Maps.AppendAt
import Derived.OwnWalk
import Derived.Laws.BytesArg
import Derived.Laws.MakeOwn
import Derived.Laws.OwnMore
import Derived.Deep.OwnRows
import Derived.Tactics
import Derived.Lib.ConvBytes
import Derived.Laws.Slices
import Derived.WalkKit
import Derived.KernelRfl
import Derived.RowKit3
import Derived.Deep.LoopGhost
import Derived.Deep.QuietTactic
import Derived.BigQuiet
import Derived.WideLaws
import Derived.Deep.DeepCutAuto
import Derived.Deep.CutBlock
import Derived.Deep.RegionHeld3
import Derived.Laws.Rows
import Derived.Lib.AppendStr
import Derived.ArgAppend
import Derived.Laws.IdiomCopy
import Derived.OrdersHeld
import Derived.Laws.BitsLemmas
import Derived.RowKit
namespace Go.Proofs.YtbhjfojbjpbdbaaDoorW.PrintLast
open Go.Proofs.YtbhjfojbjpbdbaaDoorW.PrintWords (Aside0)
def needsOf (md : Region.Mode) (o : Oper) : List Nat := (o.after.toList.filter (fun e => Region.binds md e)).map (fun e => e.on)
def clashOf (md : Region.Mode) (ops : Array Oper) (i : Nat) (oi : Oper) : List Nat := (List.range ops.size).filter fun j => !(j == i) && match ops[j]? with
  | some oj => !(oj.after.any (fun e => Region.binds md e && e.on == i) || oi.apart ops oj)
  | none => false
def rtab (md : Region.Mode) (ops : Array Oper) : Bool × List (List Nat × List Nat) := (Region.noSelect ops, (List.range ops.size).map fun i => match ops[i]? with
  | some o => (needsOf md o, clashOf md ops i o)
  | none => ([], []))
def readyAt (T : List (List Nat × List Nat)) (l : List Bool) (i : Nat) : Bool := !l.getD i true && match T[i]? with
  | some r => r.1.all (fun j => l.getD j false)
  | none => false
def readyT (T : List (List Nat × List Nat)) (l : List Bool) : List Nat := (List.range T.length).filter (readyAt T l)
section
variable {md : Region.Mode} {ops : Array Oper} {T : Bool × List (List Nat × List Nat)} {l l' li lj lk : Array Bool} {ds : List Nat} {i j k : Nat}
theorem gd (l : Array Bool) (j : Nat) (b : Bool) : l.getD j b = l.toList.getD j b := by simp [Array.getD_eq_getD_getElem?, List.getD_eq_getElem?_getD]
theorem needs_all (o : Oper) (p : Nat → Bool) : o.after.all (fun e => !Region.binds md e || p e.on) = (needsOf md o).all p := by
  unfold needsOf
  rw [← Array.all_toList]
  induction o.after.toList with
  | nil => rfl
  | cons e r ih =>
    rw [List.all_cons, ih, List.filter_cons]
    cases h : Region.binds md e <;> simp
theorem rtab_length : (rtab md ops).2.length = ops.size := by simp [rtab]
theorem rtab_some {o : Oper} (h : ops[i]? = some o) : (rtab md ops).2[i]? = some (needsOf md o, clashOf md ops i o) := by
  have hi := (Array.getElem?_eq_some_iff.1 h).1
  unfold rtab
  rw [List.getElem?_map, List.getElem?_range hi, Option.map_some, h]
theorem rtab_none (h : ops[i]? = none) : (rtab md ops).2[i]? = none := by
  have hi : ops.size ≤ i := Array.getElem?_eq_none_iff.1 h
  exact List.getElem?_eq_none (by rw [rtab_length]; exact hi)
theorem readyAt_eq : readyAt (rtab md ops).2 l.toList i = (!l.getD i true && ((ops[i]?).map (·.after.all fun e => !Region.binds md e || l.getD e.on false)).getD false) := by
  unfold readyAt
  rw [gd]
  cases h : ops[i]? with
  | none => rw [rtab_none h]; rfl
  | some o =>
    rw [rtab_some h]
    simp only [Option.map_some, Option.getD_some]
    rw [← needs_all]
    simp only [gd]
theorem ready_eq : Region.ready md ops l = readyT (rtab md ops).2 l.toList := by
  unfold Region.ready readyT
  rw [rtab_length]
  refine List.filter_congr (fun i _ => ?_)
  rw [readyAt_eq]
theorem set_of (h : (l.toList.set i true == l'.toList) = true) : (l.setIfInBounds i true == l') = true := by
  rw [beq_iff_eq] at h ⊢
  apply Array.ext'
  rw [Array.toList_setIfInBounds]
  exact h
theorem one_of (hT : rtab md ops = T) (h : (readyT T.2 l.toList == [i] && l.toList.set i true == l'.toList) = true) : readyB md ops l l' i = true := by
  simp only [Bool.and_eq_true] at h
  obtain ⟨h1, h2⟩ := h
  subst hT
  simp only [readyB, Bool.and_eq_true]
  exact ⟨by rw [ready_eq]; exact h1, set_of h2⟩
theorem two_of (hT : rtab md ops = T) (h : (readyT T.2 l.toList == [i, j] && l.toList.set i true == li.toList && l.toList.set j true == lj.toList) = true) : (Region.ready md ops l == [i, j] && l.setIfInBounds i true == li && l.setIfInBounds j true == lj) = true := by
  simp only [Bool.and_eq_true] at h ⊢
  obtain ⟨⟨h1, h2⟩, h3⟩ := h
  subst hT
  exact ⟨⟨by rw [ready_eq]; exact h1, set_of h2⟩, set_of h3⟩
theorem three_of (hT : rtab md ops = T) (h : (readyT T.2 l.toList == [i, j, k] && l.toList.set i true == li.toList && l.toList.set j true == lj.toList && l.toList.set k true == lk.toList) = true) :
    (Region.ready md ops l == [i, j, k] && l.setIfInBounds i true == li && l.setIfInBounds j true == lj && l.setIfInBounds k true == lk) = true := by
  simp only [Bool.and_eq_true] at h ⊢
  obtain ⟨⟨⟨h1, h2⟩, h3⟩, h4⟩ := h
  subst hT
  exact ⟨⟨⟨by rw [ready_eq]; exact h1, set_of h2⟩, set_of h3⟩, set_of h4⟩
theorem done_of (hT : rtab md ops = T) (h : (readyT T.2 l.toList == []) = true) : (Region.ready md ops l == []) = true := by
  subst hT
  rw [ready_eq]
  exact h
def upM (B : List Nat) (d : Nat) : List Nat → Nat
  | [] => 0
  | n :: r => (2 ^ n ||| (if n < d then B.getD n 0 else 0)) ||| upM B d r
def waitsOk (T : List (List Nat × List Nat)) (B : List Nat) : Bool := (List.range T.length).all fun d => match T[d]? with
  | some r => (B.getD d 0 ||| upM B d r.1) == upM B d r.1
  | none => false
theorem with_tabW {P : Program} {Q : Exit → Act → World → Prop} {S : World → Prop} {n : Nat} {a : Act} {w : World} {B : List Nat} (hT : rtab md ops = T) (hB : waitsOk T.2 B = true) (h : Aside0 (rtab md ops = T) → Aside0 (waitsOk T.2 B = true) → wpAnyLast P md ops Q S ds n l a w) : wpAnyLast P md ops Q S ds n l a w := h ⟨hT⟩ ⟨hB⟩
end
def opsIn : Code → Nat → Option (Array Oper)
  | .region id ops _, k => if id == k then some ops else none
  | .seq a b, k => match opsIn a k with
    | some o => some o
    | none => opsIn b k
  | .cond _ a b, k => match opsIn a k with
    | some o => some o
    | none => opsIn b k
  | .block _ c, k => opsIn c k
  | .loop c, k => opsIn c k
  | .scope c, k => opsIn c k
  | .rangeFunc _ _ a b, k => match opsIn a k with
    | some o => some o
    | none => opsIn b k
  | _, _ => none
def opsOf (f : Func) (k : Nat) : Array Oper := ((f.body.bind fun c => opsIn c k)).getD #[]
end Go.Proofs.YtbhjfojbjpbdbaaDoorW.PrintLast
namespace Go.Proofs.YtbhjfojbjpbdbaaDoorW.PrintLast
end Go.Proofs.YtbhjfojbjpbdbaaDoorW.PrintLast
namespace Go.Proofs.YtbhjfojbjpbdbaaDoorW.PrintWords
open Go.RowKit
namespace Kd
end Kd
end Go.Proofs.YtbhjfojbjpbdbaaDoorW.PrintWords
namespace Go.Proofs.YtbhjfojbjpbdbaaDoorW.PrintWords
open Go.RowKit
namespace Kd
end Kd
end Go.Proofs.YtbhjfojbjpbdbaaDoorW.PrintWords
namespace Go.Proofs.YtbhjfojbjpbdbaaDoorW.PrintWords
open Go.RowKit
section
variable {P : Program} {d : Nat} {xs ys : Array Value} {f : Field} {fs : List Field} {a b : Value} {r s : Bool} {w : World}
theorem eqf_last (hn : (f.name == "_") = false) (ha : (part f.type xs f.offset).run P w = .ok a w) (hb : (part f.type ys f.offset).run P w = .ok b w) (he : (Op.equalIn d f.type a b).run P w = .ok r w) : (Op.eqFields d xs ys [f]).run P w = .ok r w := by
  have hn' : f.name ≠ "_" := by simpa using hn
  simp only [Op.eqFields, if_pos hn', Sem.run_bind, ha, hb, he, Result.andThen_ok]
  cases r <;> simp
theorem eqf_cons (hn : (f.name == "_") = false) (ha : (part f.type xs f.offset).run P w = .ok a w) (hb : (part f.type ys f.offset).run P w = .ok b w) (he : (Op.equalIn d f.type a b).run P w = .ok r w) (hr : (Op.eqFields d xs ys fs).run P w = .ok s w) : (Op.eqFields d xs ys (f :: fs)).run P w = .ok (r && s) w := by
  have hn' : f.name ≠ "_" := by simpa using hn
  rw [Op.eqFields]
  simp only [if_pos hn', Sem.run_bind, ha, hb, he, Result.andThen_ok]
  cases r
  · simp
  · simpa using hr
theorem eqA_of {t : TypeId} {fs : Array Field} (hu : P.underlying t = some (.struct fs)) (hp : P.stoodInHeld t = false) (h : (Op.eqFields d xs ys fs.toList).run P w = .ok r w) : (Op.equalIn (d + 1) t (.agg xs) (.agg ys)).run P w = .ok r w := by
  have hf : P.fieldsOf t = fs := by simp [Program.fieldsOf, hu]
  rw [run_equalIn_struct (P := P) w d t xs ys (by rw [hf]; exact hu) hp, hf]
  exact h
end
end Go.Proofs.YtbhjfojbjpbdbaaDoorW.PrintWords
namespace Go.Proofs.YtbhjfojbjpbdbaaDoorW.PrintWords
theorem Reps.front {α : Type} {R : α → List Value → Prop} {size : Nat} {ps : List α} {cs c all : List Value} {p : α} (hp : R p c) (hc : c.length = size) (h : Reps R size ps cs) (ha : c ++ cs = all) : Reps R size (p :: ps) all := by
  subst ha
  refine ⟨by rw [List.length_append, hc, h.1, List.length_cons, Nat.succ_mul, Nat.add_comm], fun j q hq => ?_⟩
  cases j with
  | zero =>
    simp only [List.getElem?_cons_zero, Option.some.injEq] at hq
    subst hq
    rw [Nat.zero_mul, List.drop_zero, List.take_append_of_le_length (by omega), List.take_of_length_le (by omega)]
    exact hp
  | succ j =>
    simp only [List.getElem?_cons_succ] at hq
    have h1 := h.2 j q hq
    rw [Nat.succ_mul, List.drop_append, List.drop_of_length_le (by rw [hc]; exact Nat.le_add_left _ _), List.nil_append, hc, Nat.add_sub_cancel]
    exact h1
theorem Reps.c2 {α : Type} {R : α → List Value → Prop} {ps : List α} {cs : List Value} {p : α} {va vb : Value} (hp : R p [va, vb]) (h : Reps R 2 ps cs) : Reps R 2 (p :: ps) (va :: vb :: cs) := Reps.front hp rfl h rfl
theorem Reps.c3 {α : Type} {R : α → List Value → Prop} {ps : List α} {cs : List Value} {p : α} {va vb vc : Value} (hp : R p [va, vb, vc]) (h : Reps R 3 ps cs) : Reps R 3 (p :: ps) (va :: vb :: vc :: cs) := Reps.front hp rfl h rfl
theorem Reps.c4 {α : Type} {R : α → List Value → Prop} {ps : List α} {cs : List Value} {p : α} {va vb vc vd : Value} (hp : R p [va, vb, vc, vd]) (h : Reps R 4 ps cs) : Reps R 4 (p :: ps) (va :: vb :: vc :: vd :: cs) := Reps.front hp rfl h rfl
theorem Reps.c5 {α : Type} {R : α → List Value → Prop} {ps : List α} {cs : List Value} {p : α} {va vb vc vd ve : Value} (hp : R p [va, vb, vc, vd, ve]) (h : Reps R 5 ps cs) : Reps R 5 (p :: ps) (va :: vb :: vc :: vd :: ve :: cs) := Reps.front hp rfl h rfl
theorem Reps.c6 {α : Type} {R : α → List Value → Prop} {ps : List α} {cs : List Value} {p : α} {va vb vc vd ve vf : Value} (hp : R p [va, vb, vc, vd, ve, vf]) (h : Reps R 6 ps cs) : Reps R 6 (p :: ps) (va :: vb :: vc :: vd :: ve :: vf :: cs) := Reps.front hp rfl h rfl
theorem Reps.c7 {α : Type} {R : α → List Value → Prop} {ps : List α} {cs : List Value} {p : α} {va vb vc vd ve vf vg : Value} (hp : R p [va, vb, vc, vd, ve, vf, vg]) (h : Reps R 7 ps cs) : Reps R 7 (p :: ps) (va :: vb :: vc :: vd :: ve :: vf :: vg :: cs) := Reps.front hp rfl h rfl
theorem Reps.c9 {α : Type} {R : α → List Value → Prop} {ps : List α} {cs : List Value} {p : α} {va vb vc vd ve vf vg vh vi : Value} (hp : R p [va, vb, vc, vd, ve, vf, vg, vh, vi]) (h : Reps R 9 ps cs) : Reps R 9 (p :: ps) (va :: vb :: vc :: vd :: ve :: vf :: vg :: vh :: vi :: cs) := Reps.front hp rfl h rfl
theorem Reps.c10 {α : Type} {R : α → List Value → Prop} {ps : List α} {cs : List Value} {p : α} {va vb vc vd ve vf vg vh vi vj : Value} (hp : R p [va, vb, vc, vd, ve, vf, vg, vh, vi, vj]) (h : Reps R 10 ps cs) : Reps R 10 (p :: ps) (va :: vb :: vc :: vd :: ve :: vf :: vg :: vh :: vi :: vj :: cs) := Reps.front hp rfl h rfl
end Go.Proofs.YtbhjfojbjpbdbaaDoorW.PrintWords
namespace Go.Proofs.YtbhjfojbjpbdbaaDoorW.PrintLast
def up (b : Nat → Bool) (i : Nat) : Nat → Bool := fun j => if j = i then true else b j
section
variable {P : Program} {ops : Array Oper} {Q : Exit → Act → World → Prop} {md : Region.Mode} {T : Bool × List (List Nat × List Nat)} {B : List Nat} {O : List Nat} {b : Nat → Bool} {i j n : Nat}
theorem put_comm {a : Act} {s t : Tmp} {u v : Value} (h : s ≠ t) : (a.put (some s) u).put (some t) v = (a.put (some t) v).put (some s) u := by
  simp only [Act.put]
  rw [Array.setIfInBounds_comm _ _ h]
end
end Go.Proofs.YtbhjfojbjpbdbaaDoorW.PrintLast
namespace Go.Proofs.YtbhjfojbjpbdbaaDoorW.PrintWords
open Go.RowKit
end Go.Proofs.YtbhjfojbjpbdbaaDoorW.PrintWords
namespace Go.Proofs.YtbhjfojbjpbdbaaDoorW.PrintLast
section
variable {ops : Array Oper} {a : Act} {o og : Oper} {g : Nat} {t : Tmp} {u : Bool}
theorem eval_of {v : Value} (h : a.tmps[t]? = some v) : a.eval (.tmp t) = v := by simp [Act.eval, h]
end
end Go.Proofs.YtbhjfojbjpbdbaaDoorW.PrintLast
namespace Go.Proofs.YtbhjfojbjpbdbaaDoorW.PrintWords
open Go.RowKit
end Go.Proofs.YtbhjfojbjpbdbaaDoorW.PrintWords
namespace Go.Proofs.YtbhjfojbjpbdbaaDoorPX
open Go.Proofs.YtbhjfojbjpbdbaaDoor (Glob ix3 blk_ix3 bl nrm_ pu_ po_ tk_)
open Go.RowKit Go.Proofs.YtbhjfojbjpbdbaaDoorW.PrintWords Go.Proofs.YtbhjfojbjpbdbaaDoorW.PrintLast Go.Proofs.YtbhjfojbjpbdbaaDoorW.PrintMore

set_option linter.unusedVariables false
set_option linter.unusedSimpArgs false
def errW : Option Int → Value
  | none => .nilIface
  | some c => .iface 0 (.int .i64 c)
theorem errW_none : errW none = .nilIface := rfl
theorem errW_some (c : Int) : errW (some c) = .iface 0 (.int .i64 c) := rfl
theorem info3 : (Tryd.prog.info? 3).map (fun i => (i.zero, i.size, i.bytes)) = some (some (.int .i64 0), 1, 8) := by kernel_rfl
theorem info42 : (Tryd.prog.info? 42).map (fun i => (i.zero, i.size, i.bytes)) = some (some (.agg #[(.int .i64 0), (.int .i64 0), (.int .i64 0)]), 3, 24) := by kernel_rfl
theorem info92 : (Tryd.prog.info? 92).map (fun i => (i.zero, i.size, i.bytes)) = some (some (.agg #[(.int .i64 0), (.slice none 0 0), (.slice none 0 0)]), 3, 56) := by kernel_rfl
structure S32 where
  f0 : Int
  f1 : Int
def z32 : S32 := ⟨(0 : Int), (0 : Int)⟩
def k32 : Kd S32 := Kd.iso (Kd.pair (Kd.int .i64) (Kd.int .i64)) (fun x : S32 => (x.f0, x.f1))
theorem k32_open {w : World} {x : S32} {cs : List Value} (h : k32.K w x cs) : cs = [.int .i64 x.f0, .int .i64 x.f1] := by
  obtain ⟨_, _, rfl, rfl, rfl⟩ := h
  exact rfl
theorem k32_mk (w : World) (x : S32)  : k32.K w x [.int .i64 x.f0, .int .i64 x.f1] := ⟨[.int .i64 x.f0], [.int .i64 x.f1], rfl, rfl, rfl⟩
structure S56 where
  f0 : Int
  f1 : S32
  f2 : S32
  f3 : S32
def z56 : S56 := ⟨(0 : Int), z32, z32, z32⟩
def k56 : Kd S56 := Kd.iso (Kd.pair (Kd.int .i64) (Kd.pair k32 (Kd.pair k32 k32))) (fun x : S56 => (x.f0, x.f1, x.f2, x.f3))
theorem k56_open {w : World} {x : S56} {cs : List Value} (h : k56.K w x cs) : cs = [.int .i64 x.f0, .int .i64 x.f1.f0, .int .i64 x.f1.f1, .int .i64 x.f2.f0, .int .i64 x.f2.f1, .int .i64 x.f3.f0, .int .i64 x.f3.f1] := by
  obtain ⟨_, _, rfl, rfl, ⟨_, _, rfl, s1, ⟨_, _, rfl, s3, s5⟩⟩⟩ := h
  obtain rfl := k32_open s1
  obtain rfl := k32_open s3
  obtain rfl := k32_open s5
  exact rfl
theorem k56_mk (w : World) (x : S56)  : k56.K w x [.int .i64 x.f0, .int .i64 x.f1.f0, .int .i64 x.f1.f1, .int .i64 x.f2.f0, .int .i64 x.f2.f1, .int .i64 x.f3.f0, .int .i64 x.f3.f1] := ⟨[.int .i64 x.f0], [.int .i64 x.f1.f0, .int .i64 x.f1.f1, .int .i64 x.f2.f0, .int .i64 x.f2.f1, .int .i64 x.f3.f0, .int .i64 x.f3.f1], rfl, rfl, ⟨[.int .i64 x.f1.f0, .int .i64 x.f1.f1], [.int .i64 x.f2.f0, .int .i64 x.f2.f1, .int .i64 x.f3.f0, .int .i64 x.f3.f1], rfl, (k32_mk w x.f1 ), ⟨[.int .i64 x.f2.f0, .int .i64 x.f2.f1], [.int .i64 x.f3.f0, .int .i64 x.f3.f1], rfl, (k32_mk w x.f2 ), (k32_mk w x.f3 )⟩⟩⟩
def rd_T56 (xs : List S56) (i : Int) : S56 := xs.getD i.toNat z56
theorem at_T56 {w : World} {A : Option Addr} {n : Nat} {xs : List S56} (h : Kd.C k56 w A n xs) (i : Int) (h0 : 0 ≤ i) (h1 : i < n) : ∃ ad , A = some ad ∧ w.cell? (ad.add (i.toNat * 7)) = some (.int .i64 (rd_T56 xs i).f0) ∧ w.cell? ⟨(ad.add (i.toNat * 7)).block, (ad.add (i.toNat * 7)).off + 1, none⟩ = some (.int .i64 (rd_T56 xs i).f1.f0) ∧ w.cell? ⟨(ad.add (i.toNat * 7)).block, (ad.add (i.toNat * 7)).off + 2, none⟩ = some (.int .i64 (rd_T56 xs i).f1.f1) ∧ w.cell? ⟨(ad.add (i.toNat * 7)).block, (ad.add (i.toNat * 7)).off + 3, none⟩ = some (.int .i64 (rd_T56 xs i).f2.f0) ∧ w.cell? ⟨(ad.add (i.toNat * 7)).block, (ad.add (i.toNat * 7)).off + 4, none⟩ = some (.int .i64 (rd_T56 xs i).f2.f1) ∧ w.cell? ⟨(ad.add (i.toNat * 7)).block, (ad.add (i.toNat * 7)).off + 5, none⟩ = some (.int .i64 (rd_T56 xs i).f3.f0) ∧ w.cell? ⟨(ad.add (i.toNat * 7)).block, (ad.add (i.toNat * 7)).off + 6, none⟩ = some (.int .i64 (rd_T56 xs i).f3.f1) := by
  obtain ⟨ad, c, e, _, hK, hc0⟩ := Kd.C_get h z56 i h0 h1
  have hc : ∀ j u, c[j]? = some u → w.cell? (ad.add (i.toNat * 7 + j)) = some u := hc0
  obtain rfl := k56_open hK
  exact ⟨ad, e, hc 0 _ rfl, by rw [← add_field _ _ 1 (by omega)]; exact hc 1 _ rfl, by rw [← add_field _ _ 2 (by omega)]; exact hc 2 _ rfl, by rw [← add_field _ _ 3 (by omega)]; exact hc 3 _ rfl, by rw [← add_field _ _ 4 (by omega)]; exact hc 4 _ rfl, by rw [← add_field _ _ 5 (by omega)]; exact hc 5 _ rfl, by rw [← add_field _ _ 6 (by omega)]; exact hc 6 _ rfl⟩
structure S42 where
  f0 : Int
  f1 : Int
  f2 : Int
def z42 : S42 := ⟨(0 : Int), (0 : Int), (0 : Int)⟩
def k42 : Kd S42 := Kd.iso (Kd.pair (Kd.int .i64) (Kd.pair (Kd.int .i64) (Kd.int .i64))) (fun x : S42 => (x.f0, x.f1, x.f2))
theorem k42_open {w : World} {x : S42} {cs : List Value} (h : k42.K w x cs) : cs = [.int .i64 x.f0, .int .i64 x.f1, .int .i64 x.f2] := by
  obtain ⟨_, _, rfl, rfl, ⟨_, _, rfl, rfl, rfl⟩⟩ := h
  exact rfl
theorem k42_mk (w : World) (x : S42)  : k42.K w x [.int .i64 x.f0, .int .i64 x.f1, .int .i64 x.f2] := ⟨[.int .i64 x.f0], [.int .i64 x.f1, .int .i64 x.f2], rfl, rfl, ⟨[.int .i64 x.f1], [.int .i64 x.f2], rfl, rfl, rfl⟩⟩
def rd_T42 (xs : List S42) (i : Int) : S42 := xs.getD i.toNat z42
theorem at_T42 {w : World} {A : Option Addr} {n : Nat} {xs : List S42} (h : Kd.C k42 w A n xs) (i : Int) (h0 : 0 ≤ i) (h1 : i < n) : ∃ ad , A = some ad ∧ w.cell? (ad.add (i.toNat * 3)) = some (.int .i64 (rd_T42 xs i).f0) ∧ w.cell? ⟨(ad.add (i.toNat * 3)).block, (ad.add (i.toNat * 3)).off + 1, none⟩ = some (.int .i64 (rd_T42 xs i).f1) ∧ w.cell? ⟨(ad.add (i.toNat * 3)).block, (ad.add (i.toNat * 3)).off + 2, none⟩ = some (.int .i64 (rd_T42 xs i).f2) := by
  obtain ⟨ad, c, e, _, hK, hc0⟩ := Kd.C_get h z42 i h0 h1
  have hc : ∀ j u, c[j]? = some u → w.cell? (ad.add (i.toNat * 3 + j)) = some u := hc0
  obtain rfl := k42_open hK
  exact ⟨ad, e, hc 0 _ rfl, by rw [← add_field _ _ 1 (by omega)]; exact hc 1 _ rfl, by rw [← add_field _ _ 2 (by omega)]; exact hc 2 _ rfl⟩
structure S92 where
  f0 : Int
  f1 : (List Int)
  f2 : (List Int)
def z92 : S92 := ⟨(0 : Int), ([] : List Int), ([] : List Int)⟩
def k92 : Kd S92 := Kd.iso (Kd.pair (Kd.int .i64) (Kd.pair (Kd.slice 3 (Kd.int .i64)) (Kd.slice 3 (Kd.int .i64)))) (fun x : S92 => (x.f0, x.f1, x.f2))
theorem k92_open {w : World} {x : S92} {cs : List Value} (h : k92.K w x cs) : ∃ A1 c1 A2 c2, cs = [.int .i64 x.f0, .slice A1 x.f1.length c1, .slice A2 x.f2.length c2] ∧ x.f1.length ≤ c1 ∧ (Kd.int .i64).C w A1 x.f1.length x.f1 ∧ x.f2.length ≤ c2 ∧ (Kd.int .i64).C w A2 x.f2.length x.f2 := by
  obtain ⟨_, _, rfl, rfl, ⟨_, _, rfl, ⟨A1, c1, rfl, l1, g1⟩, ⟨A2, c2, rfl, l2, g2⟩⟩⟩ := h
  exact ⟨A1, c1, A2, c2, rfl, l1, g1, l2, g2⟩
theorem k92_mk (w : World) (x : S92) {A1 : Option Addr} {c1 : Nat} (l1 : x.f1.length ≤ c1) (g1 : (Kd.int .i64).C w A1 x.f1.length x.f1) {A2 : Option Addr} {c2 : Nat} (l2 : x.f2.length ≤ c2) (g2 : (Kd.int .i64).C w A2 x.f2.length x.f2) : k92.K w x [.int .i64 x.f0, .slice A1 x.f1.length c1, .slice A2 x.f2.length c2] := ⟨[.int .i64 x.f0], [.slice A1 x.f1.length c1, .slice A2 x.f2.length c2], rfl, rfl, ⟨[.slice A1 x.f1.length c1], [.slice A2 x.f2.length c2], rfl, ⟨A1, c1, rfl, l1, g1⟩, ⟨A2, c2, rfl, l2, g2⟩⟩⟩
theorem k92_openF {W : World} {ok : Nat → Prop} {x : S92} {cs : List Value} (h : Kd.FK k92 W ok x cs) : ∃ A1 c1 A2 c2, cs = [.int .i64 x.f0, .slice A1 x.f1.length c1, .slice A2 x.f2.length c2] ∧ x.f1.length ≤ c1 ∧ Kd.F (Kd.int .i64) W ok A1 x.f1.length x.f1 ∧ x.f2.length ≤ c2 ∧ Kd.F (Kd.int .i64) W ok A2 x.f2.length x.f2 := by
  obtain ⟨A1, c1, A2, c2, rfl, l1, _, l2, _⟩ := k92_open (Kd.FK_now h)
  exact ⟨A1, c1, A2, c2, rfl, l1, (fun W' hW => by obtain ⟨A1_, c1_, A2_, c2_, he, l1_, g1_, l2_, g2_⟩ := k92_open (h W' hW); injection (Option.some.inj (show some (Value.slice A1 x.f1.length c1) = some (Value.slice A1_ x.f1.length c1_) from congrArg (fun l => l[1]?) he)) with ha_ _ _; rw [ha_]; exact g1_), l2, (fun W' hW => by obtain ⟨A1_, c1_, A2_, c2_, he, l1_, g1_, l2_, g2_⟩ := k92_open (h W' hW); injection (Option.some.inj (show some (Value.slice A2 x.f2.length c2) = some (Value.slice A2_ x.f2.length c2_) from congrArg (fun l => l[2]?) he)) with ha_ _ _; rw [ha_]; exact g2_)⟩
theorem k92_mkF (W : World) (ok : Nat → Prop) (x : S92) {A1 : Option Addr} {c1 : Nat} (l1 : x.f1.length ≤ c1) (g1 : Kd.F (Kd.int .i64) W ok A1 x.f1.length x.f1) {A2 : Option Addr} {c2 : Nat} (l2 : x.f2.length ≤ c2) (g2 : Kd.F (Kd.int .i64) W ok A2 x.f2.length x.f2) : Kd.FK k92 W ok x [.int .i64 x.f0, .slice A1 x.f1.length c1, .slice A2 x.f2.length c2] := fun W2 hW => k92_mk W2 x l1 (g1 W2 hW) l2 (g2 W2 hW)
def rd_T92 (xs : List S92) (i : Int) : S92 := xs.getD i.toNat z92
theorem at_T92 {w : World} {A : Option Addr} {n : Nat} {xs : List S92} (h : Kd.C k92 w A n xs) (i : Int) (h0 : 0 ≤ i) (h1 : i < n) : ∃ ad A1 c1 A2 c2, A = some ad ∧ w.cell? (ad.add (i.toNat * 3)) = some (.int .i64 (rd_T92 xs i).f0) ∧ w.cell? ⟨(ad.add (i.toNat * 3)).block, (ad.add (i.toNat * 3)).off + 1, none⟩ = some (.slice A1 (rd_T92 xs i).f1.length c1) ∧ w.cell? ⟨(ad.add (i.toNat * 3)).block, (ad.add (i.toNat * 3)).off + 2, none⟩ = some (.slice A2 (rd_T92 xs i).f2.length c2) ∧ (rd_T92 xs i).f1.length ≤ c1 ∧ (Kd.int .i64).C w A1 (rd_T92 xs i).f1.length (rd_T92 xs i).f1 ∧ (rd_T92 xs i).f2.length ≤ c2 ∧ (Kd.int .i64).C w A2 (rd_T92 xs i).f2.length (rd_T92 xs i).f2 := by
  obtain ⟨ad, c, e, _, hK, hc0⟩ := Kd.C_get h z92 i h0 h1
  have hc : ∀ j u, c[j]? = some u → w.cell? (ad.add (i.toNat * 3 + j)) = some u := hc0
  obtain ⟨A1, c1, A2, c2, rfl, l1, g1, l2, g2⟩ := k92_open hK
  exact ⟨ad, A1, c1, A2, c2, e, hc 0 _ rfl, by rw [← add_field _ _ 1 (by omega)]; exact hc 1 _ rfl, by rw [← add_field _ _ 2 (by omega)]; exact hc 2 _ rfl, l1, g1, l2, g2⟩
end Go.Proofs.YtbhjfojbjpbdbaaDoorPX
namespace Go.Proofs.YtbhjfojbjpbdbaaDoorPX
open Go.Proofs.YtbhjfojbjpbdbaaDoor (Glob ix3 blk_ix3 bl nrm_ pu_ po_ tk_)
open Go.RowKit Go.Proofs.YtbhjfojbjpbdbaaDoorW.PrintWords Go.Proofs.YtbhjfojbjpbdbaaDoorW.PrintLast Go.Proofs.YtbhjfojbjpbdbaaDoorW.PrintMore

set_option linter.unusedVariables false
set_option linter.unusedSimpArgs false
section
open Go.Proofs.YtbhjfojbjpbdbaaDoor
def stOf (x : S56) : St := ⟨x.f0, x.f1.f0, x.f1.f1, x.f2.f0, x.f2.f1, x.f3.f0, x.f3.f1⟩
def ckOf (x : S42) : Ck := ⟨x.f0, x.f1, x.f2⟩
def bkOf (l : List S56) (a b c d : Int) (k : List S42) (r : Int) : Bk := ⟨l.map stOf, a, b, c, d, k.map ckOf, r⟩
theorem stOf_cells {w : World} {x : S56} {cs : List Value} (h : k56.K w x cs) : cs = (stOf x).cells := k56_open h
theorem ckOf_cells {w : World} {x : S42} {cs : List Value} (h : k42.K w x cs) : cs = (ckOf x).cells := k42_open h
theorem book_of {w : World} {A0 A5 : Option Addr} {c0 c5 : Nat} {l : List S56} {k : List S42} {a b c d r : Int} (h0 : Kd.C k56 w A0 l.length l) (g0 : l.length ≤ c0) (h5 : Kd.C k42 w A5 k.length k) (g5 : k.length ≤ c5) :
    BookW w w.heap.size A0 A5 l.length c0 k.length c5 (bkOf l a b c d k r) := by
  have s0 := sl_of_reads St.cells (α := St) (f := stOf) (fun h => stOf_cells h) (fun _ => rfl) (by decide) rfl h0 g0
  have s5 := sl_of_reads Ck.cells (α := Ck) (f := ckOf) (fun h => ckOf_cells h) (fun _ => rfl) (by decide) rfl h5 g5
  exact ⟨Nat.le_refl _, s0, s5, by simp [bkOf], by simp [bkOf]⟩
end
section
open Go.Proofs.YtbhjfojbjpbdbaaDoor
def claim_Check.f (l0_0 : List (S56)) (a0_1 : Int) (a0_2 : Int) (a0_3 : Int) (a0_4 : Int) (l0_5 : List (S42)) (a0_6 : Int) : Option (Int) := some (checkS (bkOf l0_0 a0_1 a0_2 a0_3 a0_4 l0_5 a0_6))
theorem claim_Check.calls (A0_0 : Option Addr) (c0_0 : Nat) (l0_0 : List (S56)) (a0_1 : Int) (a0_2 : Int) (a0_3 : Int) (a0_4 : Int) (A0_5 : Option Addr) (c0_5 : Nat) (l0_5 : List (S42)) (a0_6 : Int) (r : Int) (w : World) (hr0_0 : Kd.C k56 w A0_0 l0_0.length l0_0) (hc0_0 : l0_0.length ≤ c0_0) (hr0_5 : Kd.C k42 w A0_5 l0_5.length l0_5) (hc0_5 : l0_5.length ≤ c0_5) (h : claim_Check.f l0_0 a0_1 a0_2 a0_3 a0_4 l0_5 a0_6 = some r) :
    Calls Tryd.prog 17 #[.agg #[.slice A0_0 l0_0.length c0_0, .int .i64 a0_1, .int .i64 a0_2, .int .i64 a0_3, .int .i64 a0_4, .slice A0_5 l0_5.length c0_5, .int .i64 a0_6]] w fun e w' => e = .returned (.int .i64 r) ∧ Below w.heap.size w w' := by
  unfold claim_Check.f at h
  have h' := Option.some.inj h
  refine (check_any w _ (bkOf l0_0 a0_1 a0_2 a0_3 a0_4 l0_5 a0_6) (book_of hr0_0 hc0_0 hr0_5 hc0_5).v).mono ?_
  rintro e w' ⟨rfl, hb⟩
  rw [h']
  exact ⟨rfl, hb⟩
end
section
open Go.Proofs.YtbhjfojbjpbdbaaDoor
def claim_Right.f (l0_0 : List (S56)) (a0_1 : Int) (a0_2 : Int) (a0_3 : Int) (a0_4 : Int) (l0_5 : List (S42)) (a0_6 : Int) : Option (Bool × Int) := some (rightS (bkOf l0_0 a0_1 a0_2 a0_3 a0_4 l0_5 a0_6))
theorem claim_Right.calls (A0_0 : Option Addr) (c0_0 : Nat) (l0_0 : List (S56)) (a0_1 : Int) (a0_2 : Int) (a0_3 : Int) (a0_4 : Int) (A0_5 : Option Addr) (c0_5 : Nat) (l0_5 : List (S42)) (a0_6 : Int) (r1 : Bool) (r2 : Int) (w : World) (hG : Glob w) (hr0_0 : Kd.C k56 w A0_0 l0_0.length l0_0) (hc0_0 : l0_0.length ≤ c0_0) (hr0_5 : Kd.C k42 w A0_5 l0_5.length l0_5) (hc0_5 : l0_5.length ≤ c0_5) (h : claim_Right.f l0_0 a0_1 a0_2 a0_3 a0_4 l0_5 a0_6 = some (r1, r2)) :
    Calls Tryd.prog 15 #[.agg #[.slice A0_0 l0_0.length c0_0, .int .i64 a0_1, .int .i64 a0_2, .int .i64 a0_3, .int .i64 a0_4, .slice A0_5 l0_5.length c0_5, .int .i64 a0_6]] w fun e w' => e = .returned (.tuple #[.bool r1, .int .i64 r2]) ∧ Below w.heap.size w w' := by
  unfold claim_Right.f at h
  have h' := Option.some.inj h
  refine (right_ex w (bkOf l0_0 a0_1 a0_2 a0_3 a0_4 l0_5 a0_6) _ _ _ _ _ _ _ (book_of hr0_0 hc0_0 hr0_5 hc0_5) hG).mono ?_
  rintro e w' ⟨rfl, hb⟩
  rw [h']
  exact ⟨rfl, hb⟩
end
def macadamref00_Amid.f (a0 : Int) (a1 : Int) (a2 : Int) : Option (Bool) := if a1 ≤ a0 then (some (decide (a0 ≤ a2))) else (some false)
set_option maxHeartbeats 8000000 in
set_option maxRecDepth 100000 in
theorem macadamref00_Amid.calls (a0 : Int) (a1 : Int) (a2 : Int) (r : Bool) (w : World) (h : macadamref00_Amid.f a0 a1 a2 = some r) :
    Calls Tryd.prog 45 #[.int .i64 a0, .int .i64 a1, .int .i64 a2] w fun e w' => e = .returned (.bool r) ∧ Drawn0 w w' := by
  have H : (if a1 ≤ a0 then (some (decide (a0 ≤ a2))) else (some false)) = some r := h
  clear h
  by_cases c4 : a1 ≤ a0
  · rw [if_pos c4] at H
    have c4b0 : decide (a1 ≤ a0) = true := decide_eq_true c4
    clear c4
    obtain rfl := Option.some.inj H
    go_enter Tryd.func45, Tryd.ntmps45
    go_wp2
    go_ret
    exact ⟨by first | rfl | (simp; done) | (simp [*]; done), by repeat (first | exact Drawn0.refl _ | apply Drawn0.step)⟩
  · rw [if_neg c4] at H
    have c4b0 : decide (a1 ≤ a0) = false := decide_eq_false c4
    clear c4
    obtain rfl := Option.some.inj H
    go_enter Tryd.func45, Tryd.ntmps45
    go_wp2
    go_ret
    exact ⟨by first | rfl | (simp; done) | (simp [*]; done), by repeat (first | exact Drawn0.refl _ | apply Drawn0.step)⟩
end Go.Proofs.YtbhjfojbjpbdbaaDoorPX
namespace Go.Proofs.YtbhjfojbjpbdbaaDoorPX
open Go.Proofs.YtbhjfojbjpbdbaaDoor (Glob ix3 blk_ix3 bl nrm_ pu_ po_ tk_)
open Go.RowKit Go.Proofs.YtbhjfojbjpbdbaaDoorW.PrintWords Go.Proofs.YtbhjfojbjpbdbaaDoorW.PrintLast Go.Proofs.YtbhjfojbjpbdbaaDoorW.PrintMore

set_option linter.unusedVariables false
set_option linter.unusedSimpArgs false
def macadamref06_isStage.f (l0_0 : List (S56)) (a0_1 : Int) (a0_2 : Int) (a0_3 : Int) (a0_4 : Int) (l0_5 : List (S42)) (a0_6 : Int) (a1 : Int) : Option (Bool) := (macadamref00_Amid.f a1 0 (wrap64 ((l0_0.length : Int) - 1))).bind fun t111 => (some t111)
set_option maxHeartbeats 8000000 in
set_option maxRecDepth 100000 in
theorem macadamref06_isStage.calls (A0_0 : Option Addr) (c0_0 : Nat) (l0_0 : List (S56)) (a0_1 : Int) (a0_2 : Int) (a0_3 : Int) (a0_4 : Int) (A0_5 : Option Addr) (c0_5 : Nat) (l0_5 : List (S42)) (a0_6 : Int) (a1 : Int) (r : Bool) (w : World) (hr0_0 : Kd.C k56 w A0_0 l0_0.length l0_0) (hc0_0 : l0_0.length ≤ c0_0) (hr0_5 : Kd.C k42 w A0_5 l0_5.length l0_5) (hc0_5 : l0_5.length ≤ c0_5) (h : macadamref06_isStage.f l0_0 a0_1 a0_2 a0_3 a0_4 l0_5 a0_6 a1 = some r) :
    Calls Tryd.prog 74 #[.agg #[.slice A0_0 l0_0.length c0_0, .int .i64 a0_1, .int .i64 a0_2, .int .i64 a0_3, .int .i64 a0_4, .slice A0_5 l0_5.length c0_5, .int .i64 a0_6], .int .i64 a1] w fun e w' => e = .returned (.bool r) ∧ Below w.heap.size w w' := by
  have hu26 := Tryd.underlying26
  have HR0_0 := Aside0.mk hr0_0
  have HC0_0 := Aside0.mk hc0_0
  clear hr0_0 hc0_0
  have HR0_5 := Aside0.mk hr0_5
  have HC0_5 := Aside0.mk hc0_5
  clear hr0_5 hc0_5
  have HB := Aside0.mk (Below.refl w.heap.size w)
  have H : ((macadamref00_Amid.f a1 0 (wrap64 ((l0_0.length : Int) - 1))).bind fun t111 => (some t111)) = some r := h
  clear h
  replace H := Option.bind_eq_some_iff.mp H
  obtain ⟨t111, A30, H⟩ := H
  replace H : (some t111) = some r := H
  have A3 := Aside0.mk A30
  clear A30
  obtain rfl := Option.some.inj H
  go_enter Tryd.func74, Tryd.ntmps74
  go_wp2_with (first | ((with_reducible refine gate_dst (N := 2) rfl ?_); refine box_event ?hg (N := 2) ?hd (cs := #[.slice A0_0 l0_0.length c0_0, .int .i64 a0_1, .int .i64 a0_2, .int .i64 a0_3, .int .i64 a0_4, .slice A0_5 l0_5.length c0_5, .int .i64 a0_6]) (t := 26) ?hr ?_; (case hd => rfl); (case hg => rfl); (case hr => first | (go_simp; done) | (go_simp; rfl)); intro gb110 hg w4 hbox hb; have n0_ := Aside0.mk (below_step (by repeat (first | (with_reducible first | exact HB.out | apply below_alloc | apply pw_below_drewN | apply below_drew1) | exact HB.out)) hb); have n1_ := Aside0.mk (hbox); have n2_ := Aside0.mk ((by rw [hg]; exact (below_size (by repeat (first | (with_reducible first | exact HB.out | apply below_alloc | apply pw_below_drewN | apply below_drew1) | exact HB.out))) : w.heap.size ≤ gb110)); have n3_ := Aside0.mk ((by rw [hg]; exact (below_size (by repeat (first | (with_reducible first | exact HB.out | apply below_alloc | apply pw_below_drewN | apply below_drew1) | exact HB.out))) : w.heap.size ≤ gb110)); clear HB; have HB := n0_; have BK110 := n1_; have GW110 := n2_; have GE110 := n3_; clear n0_ n1_ n2_ n3_; clear hb hbox hg; have hcz5_0 : w4.cell? ⟨gb110, 0, none⟩ = some (.slice A0_0 l0_0.length c0_0) := (blk_cell BK110.out 0).trans rfl; have hcz5_1 : w4.cell? ⟨gb110, 1, none⟩ = some (.int .i64 a0_1) := (blk_cell BK110.out 1).trans rfl; have hcz5_2 : w4.cell? ⟨gb110, 2, none⟩ = some (.int .i64 a0_2) := (blk_cell BK110.out 2).trans rfl; have hcz5_3 : w4.cell? ⟨gb110, 3, none⟩ = some (.int .i64 a0_3) := (blk_cell BK110.out 3).trans rfl; have hcz5_4 : w4.cell? ⟨gb110, 4, none⟩ = some (.int .i64 a0_4) := (blk_cell BK110.out 4).trans rfl; have hcz5_5 : w4.cell? ⟨gb110, 5, none⟩ = some (.slice A0_5 l0_5.length c0_5) := (blk_cell BK110.out 5).trans rfl; have hcz5_6 : w4.cell? ⟨gb110, 6, none⟩ = some (.int .i64 a0_6) := (blk_cell BK110.out 6).trans rfl; have hfz5_0 := blk_frozen BK110.out 0; have hfz5_1 := blk_frozen BK110.out 1; have hfz5_2 := blk_frozen BK110.out 2; have hfz5_3 := blk_frozen BK110.out 3; have hfz5_4 := blk_frozen BK110.out 4; have hfz5_5 := blk_frozen BK110.out 5; have hfz5_6 := blk_frozen BK110.out 6) | ((with_reducible refine gate_callee (f := 45) rfl ?_); refine goesL_ (some 10) rfl rfl Tryd.func45 (by kernel_rfl) rfl #[.int .i64 a1, .int .i64 0, .int .i64 (wrap64 ((l0_0.length : Int) - 1))] rfl (by (try simp only [List.map_toArray, List.map_cons, List.map_nil]); first | done | rfl | (simp only [List.length_drop, List.length_take]; rfl)) ?_; (with_reducible refine (macadamref00_Amid.calls a1 0 (wrap64 ((l0_0.length : Int) - 1)) t111 _ A3.out).mono ?_); rintro e w' ⟨rfl, ⟨nd, rfl⟩⟩; refine ⟨_, rfl, ?_⟩))
  go_ret
  exact ⟨by first | rfl | (simp [errW_none, errW_some] <;> rfl) | (simp [*, errW_none, errW_some] <;> rfl), by repeat (first | (with_reducible first | exact HB.out | apply below_alloc | apply pw_below_drewN | apply below_drew1 | refine below_set ?_ GE110.out) | exact HB.out)⟩
section
open Go.Proofs.YtbhjfojbjpbdbaaDoor
def macadamref06_Check.f (l0_0 : List (S56)) (a0_1 : Int) (a0_2 : Int) (a0_3 : Int) (a0_4 : Int) (l0_5 : List (S42)) (a0_6 : Int) : Option (Int) := some (checkS (bkOf l0_0 a0_1 a0_2 a0_3 a0_4 l0_5 a0_6))
theorem macadamref06_Check.calls (A0_0 : Option Addr) (c0_0 : Nat) (l0_0 : List (S56)) (a0_1 : Int) (a0_2 : Int) (a0_3 : Int) (a0_4 : Int) (A0_5 : Option Addr) (c0_5 : Nat) (l0_5 : List (S42)) (a0_6 : Int) (r : Int) (w : World) (hr0_0 : Kd.C k56 w A0_0 l0_0.length l0_0) (hc0_0 : l0_0.length ≤ c0_0) (hr0_5 : Kd.C k42 w A0_5 l0_5.length l0_5) (hc0_5 : l0_5.length ≤ c0_5) (h : macadamref06_Check.f l0_0 a0_1 a0_2 a0_3 a0_4 l0_5 a0_6 = some r) :
    Calls Tryd.prog 18 #[.agg #[.slice A0_0 l0_0.length c0_0, .int .i64 a0_1, .int .i64 a0_2, .int .i64 a0_3, .int .i64 a0_4, .slice A0_5 l0_5.length c0_5, .int .i64 a0_6]] w fun e w' => e = .returned (.int .i64 r) ∧ Below w.heap.size w w' := by
  unfold macadamref06_Check.f at h
  have h' := Option.some.inj h
  refine (refcheck_any w (bkOf l0_0 a0_1 a0_2 a0_3 a0_4 l0_5 a0_6) _ _ _ _ _ _ _ (book_of hr0_0 hc0_0 hr0_5 hc0_5)).mono ?_
  rintro e w' ⟨rfl, hb⟩
  rw [h']
  exact ⟨rfl, hb⟩
end
def macadamref00_In.f (a0 : Int) (a1 : Int) : Option (Bool) := if 0 ≤ a1 then (some ((Go.bits .and .i64 (shr .i64 a0 a1) 1) == 1)) else (none)
set_option maxHeartbeats 8000000 in
set_option maxRecDepth 100000 in
theorem macadamref00_In.calls (a0 : Int) (a1 : Int) (r : Bool) (w : World) (h : macadamref00_In.f a0 a1 = some r) :
    Calls Tryd.prog 44 #[.int .i64 a0, .int .i64 a1] w fun e w' => e = .returned (.bool r) ∧ Drawn0 w w' := by
  have H : (if 0 ≤ a1 then (some ((Go.bits .and .i64 (shr .i64 a0 a1) 1) == 1)) else (none)) = some r := h
  clear h
  by_cases c3 : 0 ≤ a1
  · rw [if_pos c3] at H
    have c3b0 := eq_true c3
    have c3b1 : decide (0 ≤ a1) = true := decide_eq_true c3
    clear c3
    obtain ⟨ji4, hji4⟩ : ∃ j_ : Int, (shr .i64 a0 a1) = j_ := ⟨_, rfl⟩
    replace H : (some ((Go.bits .and .i64 (ji4) 1) == 1)) = some r := by first | (rw [hji4] at H; exact H) | (simp only [hji4] at H ⊢; exact H)
    have hji4_ : (a0 / 2 ^ min a1.toNat 64) = ji4 := hji4
    have hji4z : a1 ≤ 64 → (a0 / 2 ^ a1.toNat) = ji4 := shr_small hji4
    obtain rfl := Option.some.inj H
    go_enter Tryd.func44, Tryd.ntmps44
    go_wp2
    go_ret
    exact ⟨by first | rfl | (simp; done) | (simp only [← hji4] <;> (first | rfl | simp)) | (simp [*]; done), by repeat (first | exact Drawn0.refl _ | apply Drawn0.step)⟩
  · rw [if_neg c3] at H
    exact absurd H (by simp)
def macadamref06_right.l0 : Nat → Int → Int → Int → List (S56) → Int → Int → Int → Int → List (S42) → Int → Option (Bool)
  | 0, _, _, _, _, _, _, _, _, _, _ => none
  | k + 1, x1, x2, x7, x118000, x118001, x118002, x118003, x118004, x118005, x118006 => if x7 < (x118005.length : Int) then (if 0 ≤ x7 then (if ((rd_T42 x118005 x7).f0) = x1 then ((macadamref00_Amid.f (wrap64 (((rd_T42 x118005 x7).f1) - x2)) (wrap64 (-((rd_T42 x118005 x7).f2))) ((rd_T42 x118005 x7).f2)).bind fun t120 => (if t120 = true then (macadamref06_right.l0 k x1 x2 (wrap64 (x7 + 1)) x118000 x118001 x118002 x118003 x118004 x118005 x118006) else (some false))) else (macadamref06_right.l0 k x1 x2 (wrap64 (x7 + 1)) x118000 x118001 x118002 x118003 x118004 x118005 x118006)) else (none)) else (some true)
def macadamref06_right.f (k : Nat) (l0_0 : List (S56)) (a0_1 : Int) (a0_2 : Int) (a0_3 : Int) (a0_4 : Int) (l0_5 : List (S42)) (a0_6 : Int) (a1 : Int) (a2 : Int) : Option (Bool) := macadamref06_right.l0 k a1 a2 0 l0_0 a0_1 a0_2 a0_3 a0_4 l0_5 a0_6
set_option maxHeartbeats 8000000 in
set_option maxRecDepth 100000 in
theorem macadamref06_right.calls (k : Nat) (A0_0 : Option Addr) (c0_0 : Nat) (l0_0 : List (S56)) (a0_1 : Int) (a0_2 : Int) (a0_3 : Int) (a0_4 : Int) (A0_5 : Option Addr) (c0_5 : Nat) (l0_5 : List (S42)) (a0_6 : Int) (a1 : Int) (a2 : Int) (r : Bool) (w : World) (hr0_0 : Kd.C k56 w A0_0 l0_0.length l0_0) (hc0_0 : l0_0.length ≤ c0_0) (hr0_5 : Kd.C k42 w A0_5 l0_5.length l0_5) (hc0_5 : l0_5.length ≤ c0_5) (h : macadamref06_right.f k l0_0 a0_1 a0_2 a0_3 a0_4 l0_5 a0_6 a1 a2 = some r) :
    Calls Tryd.prog 106 #[.agg #[.slice A0_0 l0_0.length c0_0, .int .i64 a0_1, .int .i64 a0_2, .int .i64 a0_3, .int .i64 a0_4, .slice A0_5 l0_5.length c0_5, .int .i64 a0_6], .int .i64 a1, .int .i64 a2] w fun e w' => e = .returned (.bool r) ∧ Below w.heap.size w w' := by
  have hu26 := Tryd.underlying26
  have hu42 := Tryd.underlying42
  have HR0_0 := Aside0.mk hr0_0
  have HC0_0 := Aside0.mk hc0_0
  clear hr0_0 hc0_0
  have HR0_5 := Aside0.mk hr0_5
  have HC0_5 := Aside0.mk hc0_5
  clear hr0_5 hc0_5
  have HB := Aside0.mk (Below.refl w.heap.size w)
  have H : (macadamref06_right.l0 k a1 a2 0 l0_0 a0_1 a0_2 a0_3 a0_4 l0_5 a0_6) = some r := h
  clear h
  have H' := Aside0.mk H
  clear H
  go_enter Tryd.func106, Tryd.ntmps106
  go_wp2_with (first | ((with_reducible refine gate_dst (N := 3) rfl ?_); refine box_event ?hg (N := 3) ?hd (cs := #[.slice A0_0 l0_0.length c0_0, .int .i64 a0_1, .int .i64 a0_2, .int .i64 a0_3, .int .i64 a0_4, .slice A0_5 l0_5.length c0_5, .int .i64 a0_6]) (t := 26) ?hr ?_; (case hd => rfl); (case hg => rfl); (case hr => first | (go_simp; done) | (go_simp; rfl)); intro gb117 hg w4 hbox hb; have n0_ := Aside0.mk (below_step (by repeat (first | (with_reducible first | exact HB.out | apply below_alloc | apply pw_below_drewN | apply below_drew1) | exact HB.out)) hb); have n1_ := Aside0.mk (hbox); have n2_ := Aside0.mk ((by rw [hg]; exact (below_size (by repeat (first | (with_reducible first | exact HB.out | apply below_alloc | apply pw_below_drewN | apply below_drew1) | exact HB.out))) : w.heap.size ≤ gb117)); have n3_ := Aside0.mk ((by rw [hg]; exact (below_size (by repeat (first | (with_reducible first | exact HB.out | apply below_alloc | apply pw_below_drewN | apply below_drew1) | exact HB.out))) : w.heap.size ≤ gb117)); clear HB; have HB := n0_; have BK117 := n1_; have GW117 := n2_; have GE117 := n3_; clear n0_ n1_ n2_ n3_; clear hb hbox hg))
  go_loopg [7] k (fun kq v7 w' => ∃ (x7_1 : Int), v7 = .int .i64 x7_1 ∧ Aside0 (macadamref06_right.l0 kq a1 a2 x7_1 l0_0 a0_1 a0_2 a0_3 a0_4 l0_5 a0_6 = some r) ∧ Aside0 (kq ≤ k) ∧ Aside0 (w'.heap[gb117]? = some (.cells #[(.slice A0_0 l0_0.length c0_0), .int .i64 a0_1, .int .i64 a0_2, .int .i64 a0_3, .int .i64 a0_4, (.slice A0_5 l0_5.length c0_5), .int .i64 a0_6] 26 (0, 0))) ∧ Aside0 (Below w.heap.size w w'))
  case atStart => exact ⟨(0), (by first | rfl | (simp; done) | (simp [*]; done)), H', ⟨Nat.le_refl _⟩, ⟨by (with_reducible repeat (first | refine blk_drewN ?_ _ | refine blk_drew ?_ | refine blk_alloc ?_ _)); exact BK117.out⟩, ⟨by repeat (first | (with_reducible first | exact HB.out | apply below_alloc | apply pw_below_drewN | apply below_drew1 | refine below_set ?_ GE117.out) | exact HB.out)⟩⟩
  case round =>
    clear H'
    try clear c1
    try clear p2
    obtain ⟨x7_1, rfl, HA, HK1, BK117, HB⟩ := hrel
    cases gk with
    | zero => exact absurd HA.out (by simp [macadamref06_right.l0])
    | succ k1 =>
      have H := HA.out
      clear HA
      simp only [macadamref06_right.l0] at H
      by_cases c5 : x7_1 < (l0_5.length : Int)
      · rw [if_pos c5] at H
        have c5b0 : decide (x7_1 < (l0_5.length : Int)) = true := decide_eq_true c5
        clear c5
        by_cases c6 : 0 ≤ x7_1
        · rw [if_pos c6] at H
          have c6b0 : decide (0 ≤ x7_1) = true := decide_eq_true c6
          clear c6
          by_cases c7 : ((rd_T42 l0_5 x7_1).f0) = a1
          · rw [if_pos c7] at H
            have c7b0 : (((rd_T42 l0_5 x7_1).f0) == a1) = true := beq_iff_eq.mpr c7
            have c7b1 : (((rd_T42 l0_5 x7_1).f0) != a1) = false := bne_eq_false_iff_eq.mpr c7
            clear c7
            replace H := Option.bind_eq_some_iff.mp H
            obtain ⟨t120, A80, H⟩ := H
            replace H : (if t120 = true then (macadamref06_right.l0 k1 a1 a2 (wrap64 (x7_1 + 1)) l0_0 a0_1 a0_2 a0_3 a0_4 l0_5 a0_6) else (some false)) = some r := H
            have A8 := Aside0.mk A80
            clear A80
            by_cases c9 : t120 = true
            · subst c9
              have H1 : (macadamref06_right.l0 k1 a1 a2 (wrap64 (x7_1 + 1)) l0_0 a0_1 a0_2 a0_3 a0_4 l0_5 a0_6) = some r := by rw [if_pos rfl] at H; exact H
              clear H
              have H := H1
              clear H1
              have H' := Aside0.mk H
              clear H
              have hcz10_0 : wr.cell? ⟨gb117, 0, none⟩ = some (.slice A0_0 l0_0.length c0_0) := (blk_cell BK117.out 0).trans rfl
              have hcz10_1 : wr.cell? ⟨gb117, 1, none⟩ = some (.int .i64 a0_1) := (blk_cell BK117.out 1).trans rfl
              have hcz10_2 : wr.cell? ⟨gb117, 2, none⟩ = some (.int .i64 a0_2) := (blk_cell BK117.out 2).trans rfl
              have hcz10_3 : wr.cell? ⟨gb117, 3, none⟩ = some (.int .i64 a0_3) := (blk_cell BK117.out 3).trans rfl
              have hcz10_4 : wr.cell? ⟨gb117, 4, none⟩ = some (.int .i64 a0_4) := (blk_cell BK117.out 4).trans rfl
              have hcz10_5 : wr.cell? ⟨gb117, 5, none⟩ = some (.slice A0_5 l0_5.length c0_5) := (blk_cell BK117.out 5).trans rfl
              have hcz10_6 : wr.cell? ⟨gb117, 6, none⟩ = some (.int .i64 a0_6) := (blk_cell BK117.out 6).trans rfl
              have hfz10_0 := blk_frozen BK117.out 0
              have hfz10_1 := blk_frozen BK117.out 1
              have hfz10_2 := blk_frozen BK117.out 2
              have hfz10_3 := blk_frozen BK117.out 3
              have hfz10_4 := blk_frozen BK117.out 4
              have hfz10_5 := blk_frozen BK117.out 5
              have hfz10_6 := blk_frozen BK117.out 6
              have p118 : 0 ≤ (x7_1 : Int) := of_decide_eq_true (by first | (with_reducible assumption) | assumption)
              have q118 : x7_1 < (l0_5.length : Int) := of_decide_eq_true (by first | (with_reducible assumption) | assumption)
              obtain ⟨ad118, e118, hx118_0, hx118_1, hx118_2⟩ := at_T42 HR0_5.out x7_1 p118 q118
              cases e118
              replace hx118_0 := (HB.out.cell (World.block_lt_of_cell? w _ hx118_0)).trans hx118_0
              replace hx118_1 := (HB.out.cell (World.block_lt_of_cell? w _ hx118_1)).trans hx118_1
              replace hx118_2 := (HB.out.cell (World.block_lt_of_cell? w _ hx118_2)).trans hx118_2
              replace p118 := eq_true p118
              replace q118 := eq_true q118
              go_wp2_with (first | ((with_reducible refine gate_dst (N := 8) rfl ?_); refine box_event ?hg (N := 8) ?hd (cs := #[.int .i64 0, .int .i64 0, .int .i64 0]) (t := 42) ?hr ?_; (case hd => rfl); (case hg => rfl); (case hr => first | (go_simp; done) | (go_simp; rfl)); intro gb119 hg w11 hbox hb; have n0_ := Aside0.mk (blk_below (g := gb117) (o := .cells #[.slice A0_0 l0_0.length c0_0, .int .i64 a0_1, .int .i64 a0_2, .int .i64 a0_3, .int .i64 a0_4, .slice (some ad118) l0_5.length c0_5, .int .i64 a0_6] 26 (0, 0)) (by (with_reducible repeat (first | refine blk_drewN ?_ _ | refine blk_drew ?_ | refine blk_alloc ?_ _)); exact BK117.out) hb); have n1_ := Aside0.mk (below_step (by repeat (first | (with_reducible first | exact HB.out | apply below_alloc | apply pw_below_drewN | apply below_drew1 | refine below_set ?_ GE117.out) | exact HB.out)) hb); have n2_ := Aside0.mk (hbox); have n3_ := Aside0.mk ((by rw [hg]; exact (below_size (by repeat (first | (with_reducible first | exact HB.out | apply below_alloc | apply pw_below_drewN | apply below_drew1 | refine below_set ?_ GE117.out) | exact HB.out))) : w.heap.size ≤ gb119)); have n4_ := Aside0.mk ((by rw [hg]; exact (below_size (by repeat (first | (with_reducible first | exact HB.out | apply below_alloc | apply pw_below_drewN | apply below_drew1 | refine below_set ?_ GE117.out) | exact HB.out))) : w.heap.size ≤ gb119)); have n5_ := Aside0.mk ((by rw [hg]; exact Nat.ne_of_lt (blk_lt (g := gb117) (o := .cells #[.slice A0_0 l0_0.length c0_0, .int .i64 a0_1, .int .i64 a0_2, .int .i64 a0_3, .int .i64 a0_4, .slice (some ad118) l0_5.length c0_5, .int .i64 a0_6] 26 (0, 0)) (by (with_reducible repeat (first | refine blk_drewN ?_ _ | refine blk_drew ?_ | refine blk_alloc ?_ _)); exact BK117.out)) : gb117 ≠ gb119)); have n6_ := Aside0.mk ((by rw [hg]; exact Nat.ne_of_gt (blk_lt (g := gb117) (o := .cells #[.slice A0_0 l0_0.length c0_0, .int .i64 a0_1, .int .i64 a0_2, .int .i64 a0_3, .int .i64 a0_4, .slice (some ad118) l0_5.length c0_5, .int .i64 a0_6] 26 (0, 0)) (by (with_reducible repeat (first | refine blk_drewN ?_ _ | refine blk_drew ?_ | refine blk_alloc ?_ _)); exact BK117.out)) : gb119 ≠ gb117)); clear BK117; clear HB; have BK117 := n0_; have HB := n1_; have BK119 := n2_; have GW119 := n3_; have GE119 := n4_; have NB117_119 := n5_; have NB119_117 := n6_; clear n0_ n1_ n2_ n3_ n4_ n5_ n6_; clear hb hbox hg; have hnb12 := NB119_117.out; have hnc12 := NB117_119.out; have hcz13_0 : w11.cell? ⟨gb119, 0, none⟩ = some (.int .i64 0) := (blk_cell BK119.out 0).trans rfl; have hcz13_1 : w11.cell? ⟨gb119, 1, none⟩ = some (.int .i64 0) := (blk_cell BK119.out 1).trans rfl; have hcz13_2 : w11.cell? ⟨gb119, 2, none⟩ = some (.int .i64 0) := (blk_cell BK119.out 2).trans rfl; have hfz13_0 := blk_frozen BK119.out 0; have hfz13_1 := blk_frozen BK119.out 1; have hfz13_2 := blk_frozen BK119.out 2) | (go_at_call 45; (with_reducible refine (macadamref00_Amid.calls (wrap64 (((rd_T42 l0_5 x7_1).f1) - a2)) (wrap64 (-((rd_T42 l0_5 x7_1).f2))) ((rd_T42 l0_5 x7_1).f2) true _ A8.out).mono ?_); rintro e w' ⟨rfl, ⟨nd, rfl⟩⟩))
              go_roundg k1
              case measure => have := HK1.out; omega
              case rel => exact ⟨(wrap64 (x7_1 + 1)), (by first | rfl | (simp; done) | (simp [*]; done)), H', ⟨by have := HK1.out; omega⟩, ⟨by (with_reducible repeat (first | refine blk_drewN ?_ _ | refine blk_drew ?_ | refine blk_alloc ?_ _)); refine blk_far ?_ NB117_119.out _; (with_reducible repeat (first | refine blk_drewN ?_ _ | refine blk_drew ?_ | refine blk_alloc ?_ _)); refine blk_far ?_ NB117_119.out _; (with_reducible repeat (first | refine blk_drewN ?_ _ | refine blk_drew ?_ | refine blk_alloc ?_ _)); refine blk_far ?_ NB117_119.out _; (with_reducible repeat (first | refine blk_drewN ?_ _ | refine blk_drew ?_ | refine blk_alloc ?_ _)); exact BK117.out⟩, ⟨by repeat (first | (with_reducible first | exact HB.out | apply below_alloc | apply pw_below_drewN | apply below_drew1 | refine below_set ?_ GE117.out | refine below_set ?_ GE119.out) | exact HB.out)⟩⟩
            · replace c9 := Bool.eq_false_iff.mpr c9
              subst c9
              have H1 : (some false) = some r := by rw [if_neg (show ¬ (false = true) by decide)] at H; exact H
              clear H
              have H := H1
              clear H1
              obtain rfl := Option.some.inj H
              have hcz14_0 : wr.cell? ⟨gb117, 0, none⟩ = some (.slice A0_0 l0_0.length c0_0) := (blk_cell BK117.out 0).trans rfl
              have hcz14_1 : wr.cell? ⟨gb117, 1, none⟩ = some (.int .i64 a0_1) := (blk_cell BK117.out 1).trans rfl
              have hcz14_2 : wr.cell? ⟨gb117, 2, none⟩ = some (.int .i64 a0_2) := (blk_cell BK117.out 2).trans rfl
              have hcz14_3 : wr.cell? ⟨gb117, 3, none⟩ = some (.int .i64 a0_3) := (blk_cell BK117.out 3).trans rfl
              have hcz14_4 : wr.cell? ⟨gb117, 4, none⟩ = some (.int .i64 a0_4) := (blk_cell BK117.out 4).trans rfl
              have hcz14_5 : wr.cell? ⟨gb117, 5, none⟩ = some (.slice A0_5 l0_5.length c0_5) := (blk_cell BK117.out 5).trans rfl
              have hcz14_6 : wr.cell? ⟨gb117, 6, none⟩ = some (.int .i64 a0_6) := (blk_cell BK117.out 6).trans rfl
              have hfz14_0 := blk_frozen BK117.out 0
              have hfz14_1 := blk_frozen BK117.out 1
              have hfz14_2 := blk_frozen BK117.out 2
              have hfz14_3 := blk_frozen BK117.out 3
              have hfz14_4 := blk_frozen BK117.out 4
              have hfz14_5 := blk_frozen BK117.out 5
              have hfz14_6 := blk_frozen BK117.out 6
              have p118 : 0 ≤ (x7_1 : Int) := of_decide_eq_true (by first | (with_reducible assumption) | assumption)
              have q118 : x7_1 < (l0_5.length : Int) := of_decide_eq_true (by first | (with_reducible assumption) | assumption)
              obtain ⟨ad118, e118, hx118_0, hx118_1, hx118_2⟩ := at_T42 HR0_5.out x7_1 p118 q118
              cases e118
              replace hx118_0 := (HB.out.cell (World.block_lt_of_cell? w _ hx118_0)).trans hx118_0
              replace hx118_1 := (HB.out.cell (World.block_lt_of_cell? w _ hx118_1)).trans hx118_1
              replace hx118_2 := (HB.out.cell (World.block_lt_of_cell? w _ hx118_2)).trans hx118_2
              replace p118 := eq_true p118
              replace q118 := eq_true q118
              go_wp2_with (first | ((with_reducible refine gate_dst (N := 8) rfl ?_); refine box_event ?hg (N := 8) ?hd (cs := #[.int .i64 0, .int .i64 0, .int .i64 0]) (t := 42) ?hr ?_; (case hd => rfl); (case hg => rfl); (case hr => first | (go_simp; done) | (go_simp; rfl)); intro gb119 hg w15 hbox hb; have n0_ := Aside0.mk (blk_below (g := gb117) (o := .cells #[.slice A0_0 l0_0.length c0_0, .int .i64 a0_1, .int .i64 a0_2, .int .i64 a0_3, .int .i64 a0_4, .slice (some ad118) l0_5.length c0_5, .int .i64 a0_6] 26 (0, 0)) (by (with_reducible repeat (first | refine blk_drewN ?_ _ | refine blk_drew ?_ | refine blk_alloc ?_ _)); exact BK117.out) hb); have n1_ := Aside0.mk (below_step (by repeat (first | (with_reducible first | exact HB.out | apply below_alloc | apply pw_below_drewN | apply below_drew1 | refine below_set ?_ GE117.out) | exact HB.out)) hb); have n2_ := Aside0.mk (hbox); have n3_ := Aside0.mk ((by rw [hg]; exact (below_size (by repeat (first | (with_reducible first | exact HB.out | apply below_alloc | apply pw_below_drewN | apply below_drew1 | refine below_set ?_ GE117.out) | exact HB.out))) : w.heap.size ≤ gb119)); have n4_ := Aside0.mk ((by rw [hg]; exact (below_size (by repeat (first | (with_reducible first | exact HB.out | apply below_alloc | apply pw_below_drewN | apply below_drew1 | refine below_set ?_ GE117.out) | exact HB.out))) : w.heap.size ≤ gb119)); have n5_ := Aside0.mk ((by rw [hg]; exact Nat.ne_of_lt (blk_lt (g := gb117) (o := .cells #[.slice A0_0 l0_0.length c0_0, .int .i64 a0_1, .int .i64 a0_2, .int .i64 a0_3, .int .i64 a0_4, .slice (some ad118) l0_5.length c0_5, .int .i64 a0_6] 26 (0, 0)) (by (with_reducible repeat (first | refine blk_drewN ?_ _ | refine blk_drew ?_ | refine blk_alloc ?_ _)); exact BK117.out)) : gb117 ≠ gb119)); have n6_ := Aside0.mk ((by rw [hg]; exact Nat.ne_of_gt (blk_lt (g := gb117) (o := .cells #[.slice A0_0 l0_0.length c0_0, .int .i64 a0_1, .int .i64 a0_2, .int .i64 a0_3, .int .i64 a0_4, .slice (some ad118) l0_5.length c0_5, .int .i64 a0_6] 26 (0, 0)) (by (with_reducible repeat (first | refine blk_drewN ?_ _ | refine blk_drew ?_ | refine blk_alloc ?_ _)); exact BK117.out)) : gb119 ≠ gb117)); clear BK117; clear HB; have BK117 := n0_; have HB := n1_; have BK119 := n2_; have GW119 := n3_; have GE119 := n4_; have NB117_119 := n5_; have NB119_117 := n6_; clear n0_ n1_ n2_ n3_ n4_ n5_ n6_; clear hb hbox hg; have hnb16 := NB119_117.out; have hnc16 := NB117_119.out; have hcz17_0 : w15.cell? ⟨gb119, 0, none⟩ = some (.int .i64 0) := (blk_cell BK119.out 0).trans rfl; have hcz17_1 : w15.cell? ⟨gb119, 1, none⟩ = some (.int .i64 0) := (blk_cell BK119.out 1).trans rfl; have hcz17_2 : w15.cell? ⟨gb119, 2, none⟩ = some (.int .i64 0) := (blk_cell BK119.out 2).trans rfl; have hfz17_0 := blk_frozen BK119.out 0; have hfz17_1 := blk_frozen BK119.out 1; have hfz17_2 := blk_frozen BK119.out 2) | (go_at_call 45; (with_reducible refine (macadamref00_Amid.calls (wrap64 (((rd_T42 l0_5 x7_1).f1) - a2)) (wrap64 (-((rd_T42 l0_5 x7_1).f2))) ((rd_T42 l0_5 x7_1).f2) false _ A8.out).mono ?_); rintro e w' ⟨rfl, ⟨nd, rfl⟩⟩))
              go_ret
              exact ⟨by first | rfl | (simp [errW_none, errW_some] <;> rfl) | (simp [*, errW_none, errW_some] <;> rfl), by repeat (first | (with_reducible first | exact HB.out | apply below_alloc | apply pw_below_drewN | apply below_drew1 | refine below_set ?_ GE117.out | refine below_set ?_ GE119.out) | exact HB.out)⟩
          · rw [if_neg c7] at H
            have c7b0 : (((rd_T42 l0_5 x7_1).f0) == a1) = false := beq_eq_false_iff_ne.mpr c7
            have c7b1 : (((rd_T42 l0_5 x7_1).f0) != a1) = true := bne_iff_ne.mpr c7
            have H' := Aside0.mk H
            clear H
            have hcz18_0 : wr.cell? ⟨gb117, 0, none⟩ = some (.slice A0_0 l0_0.length c0_0) := (blk_cell BK117.out 0).trans rfl
            have hcz18_1 : wr.cell? ⟨gb117, 1, none⟩ = some (.int .i64 a0_1) := (blk_cell BK117.out 1).trans rfl
            have hcz18_2 : wr.cell? ⟨gb117, 2, none⟩ = some (.int .i64 a0_2) := (blk_cell BK117.out 2).trans rfl
            have hcz18_3 : wr.cell? ⟨gb117, 3, none⟩ = some (.int .i64 a0_3) := (blk_cell BK117.out 3).trans rfl
            have hcz18_4 : wr.cell? ⟨gb117, 4, none⟩ = some (.int .i64 a0_4) := (blk_cell BK117.out 4).trans rfl
            have hcz18_5 : wr.cell? ⟨gb117, 5, none⟩ = some (.slice A0_5 l0_5.length c0_5) := (blk_cell BK117.out 5).trans rfl
            have hcz18_6 : wr.cell? ⟨gb117, 6, none⟩ = some (.int .i64 a0_6) := (blk_cell BK117.out 6).trans rfl
            have hfz18_0 := blk_frozen BK117.out 0
            have hfz18_1 := blk_frozen BK117.out 1
            have hfz18_2 := blk_frozen BK117.out 2
            have hfz18_3 := blk_frozen BK117.out 3
            have hfz18_4 := blk_frozen BK117.out 4
            have hfz18_5 := blk_frozen BK117.out 5
            have hfz18_6 := blk_frozen BK117.out 6
            have p118 : 0 ≤ (x7_1 : Int) := of_decide_eq_true (by first | (with_reducible assumption) | assumption)
            have q118 : x7_1 < (l0_5.length : Int) := of_decide_eq_true (by first | (with_reducible assumption) | assumption)
            obtain ⟨ad118, e118, hx118_0, hx118_1, hx118_2⟩ := at_T42 HR0_5.out x7_1 p118 q118
            cases e118
            replace hx118_0 := (HB.out.cell (World.block_lt_of_cell? w _ hx118_0)).trans hx118_0
            replace hx118_1 := (HB.out.cell (World.block_lt_of_cell? w _ hx118_1)).trans hx118_1
            replace hx118_2 := (HB.out.cell (World.block_lt_of_cell? w _ hx118_2)).trans hx118_2
            replace p118 := eq_true p118
            replace q118 := eq_true q118
            go_wp2_with (first | ((with_reducible refine gate_dst (N := 8) rfl ?_); refine box_event ?hg (N := 8) ?hd (cs := #[.int .i64 0, .int .i64 0, .int .i64 0]) (t := 42) ?hr ?_; (case hd => rfl); (case hg => rfl); (case hr => first | (go_simp; done) | (go_simp; rfl)); intro gb119 hg w19 hbox hb; have n0_ := Aside0.mk (blk_below (g := gb117) (o := .cells #[.slice A0_0 l0_0.length c0_0, .int .i64 a0_1, .int .i64 a0_2, .int .i64 a0_3, .int .i64 a0_4, .slice (some ad118) l0_5.length c0_5, .int .i64 a0_6] 26 (0, 0)) (by (with_reducible repeat (first | refine blk_drewN ?_ _ | refine blk_drew ?_ | refine blk_alloc ?_ _)); exact BK117.out) hb); have n1_ := Aside0.mk (below_step (by repeat (first | (with_reducible first | exact HB.out | apply below_alloc | apply pw_below_drewN | apply below_drew1 | refine below_set ?_ GE117.out) | exact HB.out)) hb); have n2_ := Aside0.mk (hbox); have n3_ := Aside0.mk ((by rw [hg]; exact (below_size (by repeat (first | (with_reducible first | exact HB.out | apply below_alloc | apply pw_below_drewN | apply below_drew1 | refine below_set ?_ GE117.out) | exact HB.out))) : w.heap.size ≤ gb119)); have n4_ := Aside0.mk ((by rw [hg]; exact (below_size (by repeat (first | (with_reducible first | exact HB.out | apply below_alloc | apply pw_below_drewN | apply below_drew1 | refine below_set ?_ GE117.out) | exact HB.out))) : w.heap.size ≤ gb119)); have n5_ := Aside0.mk ((by rw [hg]; exact Nat.ne_of_lt (blk_lt (g := gb117) (o := .cells #[.slice A0_0 l0_0.length c0_0, .int .i64 a0_1, .int .i64 a0_2, .int .i64 a0_3, .int .i64 a0_4, .slice (some ad118) l0_5.length c0_5, .int .i64 a0_6] 26 (0, 0)) (by (with_reducible repeat (first | refine blk_drewN ?_ _ | refine blk_drew ?_ | refine blk_alloc ?_ _)); exact BK117.out)) : gb117 ≠ gb119)); have n6_ := Aside0.mk ((by rw [hg]; exact Nat.ne_of_gt (blk_lt (g := gb117) (o := .cells #[.slice A0_0 l0_0.length c0_0, .int .i64 a0_1, .int .i64 a0_2, .int .i64 a0_3, .int .i64 a0_4, .slice (some ad118) l0_5.length c0_5, .int .i64 a0_6] 26 (0, 0)) (by (with_reducible repeat (first | refine blk_drewN ?_ _ | refine blk_drew ?_ | refine blk_alloc ?_ _)); exact BK117.out)) : gb119 ≠ gb117)); clear BK117; clear HB; have BK117 := n0_; have HB := n1_; have BK119 := n2_; have GW119 := n3_; have GE119 := n4_; have NB117_119 := n5_; have NB119_117 := n6_; clear n0_ n1_ n2_ n3_ n4_ n5_ n6_; clear hb hbox hg; have hnb20 := NB119_117.out; have hnc20 := NB117_119.out; have hcz21_0 : w19.cell? ⟨gb119, 0, none⟩ = some (.int .i64 0) := (blk_cell BK119.out 0).trans rfl; have hcz21_1 : w19.cell? ⟨gb119, 1, none⟩ = some (.int .i64 0) := (blk_cell BK119.out 1).trans rfl; have hcz21_2 : w19.cell? ⟨gb119, 2, none⟩ = some (.int .i64 0) := (blk_cell BK119.out 2).trans rfl; have hfz21_0 := blk_frozen BK119.out 0; have hfz21_1 := blk_frozen BK119.out 1; have hfz21_2 := blk_frozen BK119.out 2))
            go_roundg k1
            case measure => have := HK1.out; omega
            case rel => exact ⟨(wrap64 (x7_1 + 1)), (by first | rfl | (simp; done) | (simp [*]; done)), H', ⟨by have := HK1.out; omega⟩, ⟨by (with_reducible repeat (first | refine blk_drewN ?_ _ | refine blk_drew ?_ | refine blk_alloc ?_ _)); refine blk_far ?_ NB117_119.out _; (with_reducible repeat (first | refine blk_drewN ?_ _ | refine blk_drew ?_ | refine blk_alloc ?_ _)); refine blk_far ?_ NB117_119.out _; (with_reducible repeat (first | refine blk_drewN ?_ _ | refine blk_drew ?_ | refine blk_alloc ?_ _)); refine blk_far ?_ NB117_119.out _; (with_reducible repeat (first | refine blk_drewN ?_ _ | refine blk_drew ?_ | refine blk_alloc ?_ _)); exact BK117.out⟩, ⟨by repeat (first | (with_reducible first | exact HB.out | apply below_alloc | apply pw_below_drewN | apply below_drew1 | refine below_set ?_ GE117.out | refine below_set ?_ GE119.out) | exact HB.out)⟩⟩
        · rw [if_neg c6] at H
          exact absurd H (by simp)
      · rw [if_neg c5] at H
        have c5b0 : decide (x7_1 < (l0_5.length : Int)) = false := decide_eq_false c5
        clear c5
        obtain rfl := Option.some.inj H
        have hcz22_0 : wr.cell? ⟨gb117, 0, none⟩ = some (.slice A0_0 l0_0.length c0_0) := (blk_cell BK117.out 0).trans rfl
        have hcz22_1 : wr.cell? ⟨gb117, 1, none⟩ = some (.int .i64 a0_1) := (blk_cell BK117.out 1).trans rfl
        have hcz22_2 : wr.cell? ⟨gb117, 2, none⟩ = some (.int .i64 a0_2) := (blk_cell BK117.out 2).trans rfl
        have hcz22_3 : wr.cell? ⟨gb117, 3, none⟩ = some (.int .i64 a0_3) := (blk_cell BK117.out 3).trans rfl
        have hcz22_4 : wr.cell? ⟨gb117, 4, none⟩ = some (.int .i64 a0_4) := (blk_cell BK117.out 4).trans rfl
        have hcz22_5 : wr.cell? ⟨gb117, 5, none⟩ = some (.slice A0_5 l0_5.length c0_5) := (blk_cell BK117.out 5).trans rfl
        have hcz22_6 : wr.cell? ⟨gb117, 6, none⟩ = some (.int .i64 a0_6) := (blk_cell BK117.out 6).trans rfl
        have hfz22_0 := blk_frozen BK117.out 0
        have hfz22_1 := blk_frozen BK117.out 1
        have hfz22_2 := blk_frozen BK117.out 2
        have hfz22_3 := blk_frozen BK117.out 3
        have hfz22_4 := blk_frozen BK117.out 4
        have hfz22_5 := blk_frozen BK117.out 5
        have hfz22_6 := blk_frozen BK117.out 6
        go_wp2
        go_ret
        exact ⟨by first | rfl | (simp [errW_none, errW_some] <;> rfl) | (simp [*, errW_none, errW_some] <;> rfl), by repeat (first | (with_reducible first | exact HB.out | apply below_alloc | apply pw_below_drewN | apply below_drew1 | refine below_set ?_ GE117.out) | exact HB.out)⟩
end Go.Proofs.YtbhjfojbjpbdbaaDoorPX
namespace Go.Proofs.YtbhjfojbjpbdbaaDoorPX
open Go.Proofs.YtbhjfojbjpbdbaaDoor (Glob ix3 blk_ix3 bl nrm_ pu_ po_ tk_)
open Go.RowKit Go.Proofs.YtbhjfojbjpbdbaaDoorW.PrintWords Go.Proofs.YtbhjfojbjpbdbaaDoorW.PrintLast Go.Proofs.YtbhjfojbjpbdbaaDoorW.PrintMore

set_option linter.unusedVariables false
set_option linter.unusedSimpArgs false
def macadamref00_Put.f (l0 : List Int) (a1 : Int) : Option (List Int) := (some (([] : List Int) : List Int)).bind fun y121 => (if y121.length + l0.length < 17592186044416 then ((some (y121 ++ l0 : List Int)).bind fun y124 => (if y124.length < 17592186044416 then (some (y124 ++ [a1])) else (none))) else (none))
set_option maxHeartbeats 8000000 in
set_option maxRecDepth 100000 in
theorem macadamref00_Put.calls (A0 : Option Addr) (c0 : Nat) (l0 : List Int) (a1 : Int) (r : List Int) (w : World) (hr0 : Kd.C (Kd.int .i64) w A0 l0.length l0) (hc0 : l0.length ≤ c0) (h : macadamref00_Put.f l0 a1 = some r) :
    Calls Tryd.prog 107 #[.slice A0 l0.length c0, .int .i64 a1] w fun e w' => ∃ v0_ : Value, e = .returned (v0_) ∧ Kd.R (Kd.int .i64) 3 w' w.heap.size (fun _ => True) v0_ r ∧ Below w.heap.size w w' := by
  have HR0 := Aside0.mk hr0
  have HC0 := Aside0.mk hc0
  clear hr0 hc0
  have HB := Aside0.mk (Below.refl w.heap.size w)
  have H : ((some (([] : List Int) : List Int)).bind fun y121 => (if y121.length + l0.length < 17592186044416 then ((some (y121 ++ l0 : List Int)).bind fun y124 => (if y124.length < 17592186044416 then (some (y124 ++ [a1])) else (none))) else (none))) = some r := h
  clear h
  obtain ⟨y121, hy121⟩ : ∃ y_ : List Int, y_ = (([] : List Int)) := ⟨_, rfl⟩
  replace H : (if y121.length + l0.length < 17592186044416 then ((some (y121 ++ l0 : List Int)).bind fun y124 => (if y124.length < 17592186044416 then (some (y124 ++ [a1])) else (none))) else (none)) = some r := by first | (rw [hy121]; with_reducible exact H) | (have H2_ := (Option.bind_some _ _).symm.trans H; rw [hy121]; with_reducible exact H2_) | (have H2_ := (Option.bind_some _ _).symm.trans H; with_reducible exact H2_) | with_reducible exact H | (rw [hy121]; exact H) | exact H
  have Ny121 := Aside0.mk hy121
  clear hy121
  by_cases c3 : y121.length + l0.length < 17592186044416
  · rw [if_pos c3] at H
    have LMc3 := Aside0.mk c3
    clear c3
    obtain ⟨y124, hy124⟩ : ∃ y_ : List Int, y_ = (y121 ++ l0) := ⟨_, rfl⟩
    replace H : (if y124.length < 17592186044416 then (some (y124 ++ [a1])) else (none)) = some r := by first | (rw [hy124]; with_reducible exact H) | (have H2_ := (Option.bind_some _ _).symm.trans H; rw [hy124]; with_reducible exact H2_) | (have H2_ := (Option.bind_some _ _).symm.trans H; with_reducible exact H2_) | with_reducible exact H | (rw [hy124]; exact H) | exact H
    have Ny124 := Aside0.mk hy124
    clear hy124
    by_cases c4 : y124.length < 17592186044416
    · rw [if_pos c4] at H
      have LMc4 := Aside0.mk c4
      clear c4
      obtain ⟨y127, hy127⟩ : ∃ y_ : List Int, y_ = (y124 ++ [a1]) := ⟨_, rfl⟩
      replace H : (some y127) = some r := by first | (rw [hy127]; with_reducible exact H) | (have H2_ := (Option.bind_some _ _).symm.trans H; rw [hy127]; with_reducible exact H2_) | (have H2_ := (Option.bind_some _ _).symm.trans H; with_reducible exact H2_) | with_reducible exact H | (rw [hy127]; exact H) | exact H
      have Ny127 := Aside0.mk hy127
      clear hy127
      obtain rfl := Option.some.inj H
      go_enter Tryd.func107, Tryd.ntmps107
      go_wp2_with (first | ((with_reducible refine gate_dst (N := 5) rfl ?_); refine Kd.R_lit (Kd.int .i64) _ 3 ?hg (N := 5) ?hd (xs := ([] : List Int)) (inner := []) (ok := fun _ => True) (okp := fun _ => True) ?hr ?hp (fun _ hk => hk) trivial (Below.refl _ _) (Nat.le_refl _) (by simp) ?_; (case hd => rfl); (case hg => rfl); (case hr => first | (go_simp; done) | (go_simp; rfl)); (case hp => exact (Reps.none _ _)); intro v122 w5 ho6 hb hg_ hnew_; clear hg_ hnew_; (first | rw [← Ny121.out] at ho6 | (simp only [Int.reduceToNat] at ho6; rw [← Ny121.out] at ho6)); have n0_ := Aside0.mk (Kd.R_lower ho6 (below_size (by repeat (first | (with_reducible first | exact HB.out | apply below_alloc | apply pw_below_drewN | apply below_drew1) | exact HB.out)))); have n1_ := Aside0.mk (below_step (by repeat (first | (with_reducible first | exact HB.out | apply below_alloc | apply pw_below_drewN | apply below_drew1) | exact HB.out)) hb); clear HB; have HO123 := n0_; have HB := n1_; clear n0_ n1_; clear hb ho6) | ((with_reducible refine gate_builtin (b := .append) (xs := #[.tmp 5, .tmp 6]) rfl ?_); at_builtin; refine Kd.R_append_rows (Kd.int .i64) (w0 := w) w.heap.size rfl (.tmp 5) (.tmp 6) 44 3 (.int .i64 0) 8 rfl Tryd.underlying44 info3 rfl (by decide) (by omega) v122 y121 l0 _ _ _ (fun _ => True) (fun _ => False) rfl rfl ?aO ?aR (fun _ _ h => h) (fun _ h => h.elim) ?aF ?aB ?aS ?aL ?_; (case aR => repeat (first | exact (Kd.C_below HR0.out HB.out) | (with_reducible refine Kd.C_alloc ?_ _) | (with_reducible refine Kd.C_drewN ?_ _) | (with_reducible refine Kd.C_drew ?_))); (case aB => exact (by repeat (first | (with_reducible first | exact HB.out | apply below_alloc | apply pw_below_drewN | apply below_drew1) | exact HB.out))); (case aF => exact (fun _ _ => trivial)); (case aO => exact (by (with_reducible repeat (first | apply Kd.R_alloc | apply Kd.R_drewN | apply Kd.R_drew)); exact HO123.out)); (case aS => exact (below_size (by repeat (first | (with_reducible first | exact HB.out | apply below_alloc | apply pw_below_drewN | apply below_drew1) | exact HB.out)))); (case aL => have := LMc3.out; omega); intro v125 w7 ho hb hg hat; rw [← Ny124.out] at ho; have n0_ := Aside0.mk (hb); have n1_ := Aside0.mk (ho); clear HB; clear HO123; have HB := n0_; have HO126 := n1_; clear n0_ n1_; clear ho hb hg hat) | ((with_reducible refine gate_builtin (b := .append) (xs := #[.tmp 7, .tmp 9]) rfl ?_); at_builtin; refine Kd.R_append (Kd.int .i64) (w0 := w) w.heap.size rfl (.tmp 7) (.tmp 9) 44 3 (.int .i64 0) 8 rfl Tryd.underlying44 info3 rfl (by decide) (by omega) v125 y124 a1 [.int .i64 a1] (fun _ => True) (fun _ => False) rfl rfl ?aP (fun _ hk => hk.elim) ?aF ?aO ?aB ?aS ?aL ?_; (case aP => exact rfl); (case aB => exact (by repeat (first | (with_reducible first | exact HB.out | apply below_alloc | apply pw_below_drewN | apply below_drew1) | exact HB.out))); (case aF => exact (fun _ _ => trivial)); (case aO => exact (by (with_reducible repeat (first | apply Kd.R_alloc | apply Kd.R_drewN | apply Kd.R_drew)); exact HO126.out)); (case aS => exact (below_size (by repeat (first | (with_reducible first | exact HB.out | apply below_alloc | apply pw_below_drewN | apply below_drew1) | exact HB.out)))); (case aL => have := LMc4.out; omega); intro v128 w8 ho hb hg hat; rw [← Ny127.out] at ho; have n0_ := Aside0.mk (hb); have n1_ := Aside0.mk (ho); clear HB; clear HO126; have HB := n0_; have HO129 := n1_; clear n0_ n1_; clear ho hb hg hat))
      go_ret
      exact ⟨_, by first | rfl | (simp [errW_none, errW_some] <;> rfl) | (simp [*, errW_none, errW_some] <;> rfl), by (with_reducible repeat (first | apply Kd.R_alloc | apply Kd.R_drewN | apply Kd.R_drew)); exact HO129.out, by repeat (first | (with_reducible first | exact HB.out | apply below_alloc | apply pw_below_drewN | apply below_drew1) | exact HB.out)⟩
    · rw [if_neg c4] at H
      exact absurd H (by simp)
  · rw [if_neg c3] at H
    exact absurd H (by simp)
end Go.Proofs.YtbhjfojbjpbdbaaDoorPX
namespace Go.Proofs.YtbhjfojbjpbdbaaDoorPX
open Go.Proofs.YtbhjfojbjpbdbaaDoor (Glob ix3 blk_ix3 bl nrm_ pu_ po_ tk_)
open Go.RowKit Go.Proofs.YtbhjfojbjpbdbaaDoorW.PrintWords Go.Proofs.YtbhjfojbjpbdbaaDoorW.PrintLast Go.Proofs.YtbhjfojbjpbdbaaDoorW.PrintMore

set_option linter.unusedVariables false
set_option linter.unusedSimpArgs false
mutual
def macadamref06_goes.l0 : Nat → Int → Int → List (S92) → Int → List (S56) → Int → Int → Int → Int → List (S42) → Int → Int → List Int → List Int → Int → Int → Int → Int → Int → Int → Int → Option ((List (S92)))
  | 0, _, _, _, _, _, _, _, _, _, _, _, _, _, _, _, _, _, _, _, _, _ => none
  | k + 1, x2, x7, x9, x10, x131000, x131001, x131002, x131003, x131004, x131005, x131006, x132000, x132001, x132002, x137000, x137001, x137002, x137003, x137004, x137005, x137006 => if x10 ≤ x137002 then (macadamref06_goes.l1 k x2 x7 x9 x10 x137003 x131000 x131001 x131002 x131003 x131004 x131005 x131006 x132000 x132001 x132002 x137000 x137001 x137002 x137003 x137004 x137005 x137006) else (some x9)
def macadamref06_goes.l1 : Nat → Int → Int → List (S92) → Int → Int → List (S56) → Int → Int → Int → Int → List (S42) → Int → Int → List Int → List Int → Int → Int → Int → Int → Int → Int → Int → Option ((List (S92)))
  | 0, _, _, _, _, _, _, _, _, _, _, _, _, _, _, _, _, _, _, _, _, _, _ => none
  | k + 1, x2, x7, x9, x10, x11, x131000, x131001, x131002, x131003, x131004, x131005, x131006, x132000, x132001, x132002, x137000, x137001, x137002, x137003, x137004, x137005, x137006 => if x11 ≤ x137004 then (if 0 ≤ x132000 then (if x132000 < 3 then ((macadamref06_right.f k x131000 x131001 x131002 x131003 x131004 x131005 x131006 x7 (wrap64 ((wrap64 ((wrap64 (x2 + x10)) + x11)) + (ix3 x131002 x131003 x131004 x132000)))).bind fun t137 => (if t137 = true then (macadamref06_goes.l2 k x2 x7 x9 x10 x11 (wrap64 ((wrap64 ((wrap64 (x2 + x10)) + x11)) + (ix3 x131002 x131003 x131004 x132000))) x137005 x131000 x131001 x131002 x131003 x131004 x131005 x131006 x132000 x132001 x132002 x137000 x137001 x137002 x137003 x137004 x137005 x137006) else (macadamref06_goes.l1 k x2 x7 x9 x10 (wrap64 (x11 + 1)) x131000 x131001 x131002 x131003 x131004 x131005 x131006 x132000 x132001 x132002 x137000 x137001 x137002 x137003 x137004 x137005 x137006))) else (none)) else (none)) else (macadamref06_goes.l0 k x2 x7 x9 (wrap64 (x10 + 1)) x131000 x131001 x131002 x131003 x131004 x131005 x131006 x132000 x132001 x132002 x137000 x137001 x137002 x137003 x137004 x137005 x137006)
def macadamref06_goes.l2 : Nat → Int → Int → List (S92) → Int → Int → Int → Int → List (S56) → Int → Int → Int → Int → List (S42) → Int → Int → List Int → List Int → Int → Int → Int → Int → Int → Int → Int → Option ((List (S92)))
  | 0, _, _, _, _, _, _, _, _, _, _, _, _, _, _, _, _, _, _, _, _, _, _, _, _ => none
  | k + 1, x2, x7, x9, x10, x11, x12, x13, x131000, x131001, x131002, x131003, x131004, x131005, x131006, x132000, x132001, x132002, x137000, x137001, x137002, x137003, x137004, x137005, x137006 => if x13 ≤ x137006 then ((macadamref00_Put.f x132001 x11).bind fun t138 => ((macadamref00_Put.f x132002 x12).bind fun t141 => ((macadamref06_goes.f k x131000 x131001 x131002 x131003 x131004 x131005 x131006 x132000 t138 t141 (wrap64 (x12 + x13))).bind fun t144 => (if x9.length + t144.length < 2513169434916 then (macadamref06_goes.l2 k x2 x7 (x9 ++ t144) x10 x11 x12 (wrap64 (x13 + 1)) x131000 x131001 x131002 x131003 x131004 x131005 x131006 x132000 x132001 x132002 x137000 x137001 x137002 x137003 x137004 x137005 x137006) else (none))))) else (macadamref06_goes.l1 k x2 x7 x9 x10 (wrap64 (x11 + 1)) x131000 x131001 x131002 x131003 x131004 x131005 x131006 x132000 x132001 x132002 x137000 x137001 x137002 x137003 x137004 x137005 x137006)
def macadamref06_goes.f : Nat → List (S56) → Int → Int → Int → Int → List (S42) → Int → Int → List Int → List Int → Int → Option ((List (S92)))
  | 0, _, _, _, _, _, _, _, _, _, _, _ => none
  | k + 1, l0_0, a0_1, a0_2, a0_3, a0_4, l0_5, a0_6, a1_0, l1_1, l1_2, a2 => if (l1_2.length : Int) = (l0_0.length : Int) then (some (([(⟨a1_0, l1_1, l1_2⟩ : S92)] : List (S92)))) else (if 0 ≤ (l1_2.length : Int) then (if (l1_2.length : Int) < (l0_0.length : Int) then (macadamref06_goes.l0 k a2 (l1_2.length : Int) ([] : List (S92)) ((rd_T56 l0_0 (l1_2.length : Int)).f1.f0) l0_0 a0_1 a0_2 a0_3 a0_4 l0_5 a0_6 a1_0 l1_1 l1_2 ((rd_T56 l0_0 (l1_2.length : Int)).f0) ((rd_T56 l0_0 (l1_2.length : Int)).f1.f0) ((rd_T56 l0_0 (l1_2.length : Int)).f1.f1) ((rd_T56 l0_0 (l1_2.length : Int)).f2.f0) ((rd_T56 l0_0 (l1_2.length : Int)).f2.f1) ((rd_T56 l0_0 (l1_2.length : Int)).f3.f0) ((rd_T56 l0_0 (l1_2.length : Int)).f3.f1)) else (none)) else (none))
end
def macadamref06_goes.T17 : Bool × List (List Nat × List Nat) := (true, [([], []), ([], []), ([], []), ([2], [2]), ([], []), ([4], [4]), ([], []), ([5, 6], [5, 6]), ([], []), ([8], [8]), ([], []), ([9, 10, 7], [9, 10]), ([3, 7, 11], [3, 7, 11]), ([], []), ([], []), ([13, 14], [13, 14]), ([1, 12, 15, 11], [1, 12, 15]), ([0, 16, 16], [0, 16]), ([17, 17, 0, 1, 2, 3, 4, 5, 6, 7, 8, 9, 10, 11, 12, 13, 14, 15, 16, 17], [0, 17])])
def macadamref06_goes.B17 : List Nat := [0, 0, 0, 4, 0, 16, 0, 112, 0, 256, 0, 2032, 4092, 0, 0, 24576, 65534, 131071, 262143]
theorem macadamref06_goes.tab17 : rtab .any (opsOf Tryd.f96 17) = macadamref06_goes.T17 := by kernel_rfl
theorem macadamref06_goes.bits17 : waitsOk macadamref06_goes.T17.2 macadamref06_goes.B17 = true := by kernel_rfl
set_option maxHeartbeats 8000000 in
set_option maxRecDepth 100000 in
theorem macadamref06_goes.calls (k : Nat) : ∀ (A0_0 : Option Addr) (c0_0 : Nat) (l0_0 : List (S56)) (a0_1 : Int) (a0_2 : Int) (a0_3 : Int) (a0_4 : Int) (A0_5 : Option Addr) (c0_5 : Nat) (l0_5 : List (S42)) (a0_6 : Int) (a1_0 : Int) (P1_1_ : Nat → Prop) (A1_1 : Option Addr) (c1_1 : Nat) (l1_1 : List Int) (P1_2_ : Nat → Prop) (A1_2 : Option Addr) (c1_2 : Nat) (l1_2 : List Int) (a2 : Int) (r : List (S92)) (w : World) (hr0_0 : Kd.C k56 w A0_0 l0_0.length l0_0) (hc0_0 : l0_0.length ≤ c0_0) (hr0_5 : Kd.C k42 w A0_5 l0_5.length l0_5) (hc0_5 : l0_5.length ≤ c0_5) (hs1_1 : Kd.V (Kd.int .i64) 3 w w.heap.size (fun k_ => P1_1_ k_) (.slice A1_1 l1_1.length c1_1) l1_1) (hs1_2 : Kd.V (Kd.int .i64) 3 w w.heap.size (fun k_ => P1_2_ k_) (.slice A1_2 l1_2.length c1_2) l1_2) (h : macadamref06_goes.f k l0_0 a0_1 a0_2 a0_3 a0_4 l0_5 a0_6 a1_0 l1_1 l1_2 a2 = some r),
    Calls Tryd.prog 96 #[.agg #[.slice A0_0 l0_0.length c0_0, .int .i64 a0_1, .int .i64 a0_2, .int .i64 a0_3, .int .i64 a0_4, .slice A0_5 l0_5.length c0_5, .int .i64 a0_6], .agg #[.int .i64 a1_0, .slice A1_1 l1_1.length c1_1, .slice A1_2 l1_2.length c1_2], .int .i64 a2] w fun e w' => ∃ v0_ : Value, e = .returned (v0_) ∧ Kd.N k92 92 w' w.heap.size (fun k_ => ((P1_1_ k_ ∨ P1_2_ k_) ∨ w.heap.size ≤ k_)) v0_ r ∧ Below w.heap.size w w' := by
  induction k using Nat.strongRecOn with
  | _ k ih =>
  intro A0_0 c0_0 l0_0 a0_1 a0_2 a0_3 a0_4 A0_5 c0_5 l0_5 a0_6 a1_0 P1_1_ A1_1 c1_1 l1_1 P1_2_ A1_2 c1_2 l1_2 a2 r w hr0_0 hc0_0 hr0_5 hc0_5 hs1_1 hs1_2 h
  cases k with
  | zero => exact absurd h (by simp [macadamref06_goes.f])
  | succ k =>
  simp only [macadamref06_goes.f] at h
  have hu26 := Tryd.underlying26
  have hu92 := Tryd.underlying92
  have hu56 := Tryd.underlying56
  have HR0_0 := Aside0.mk hr0_0
  have HC0_0 := Aside0.mk hc0_0
  clear hr0_0 hc0_0
  have HR0_5 := Aside0.mk hr0_5
  have HC0_5 := Aside0.mk hc0_5
  clear hr0_5 hc0_5
  have HO1_1 := Aside0.mk (show Kd.V (Kd.int .i64) 3 w w.heap.size (fun k_ => ((P1_1_ k_ ∨ P1_2_ k_) ∨ w.heap.size ≤ k_)) (.slice A1_1 l1_1.length c1_1) l1_1 from Kd.V_mono hs1_1 (fun k_ hk => .inl (.inl hk)))
  have HO1_2 := Aside0.mk (show Kd.V (Kd.int .i64) 3 w w.heap.size (fun k_ => ((P1_1_ k_ ∨ P1_2_ k_) ∨ w.heap.size ≤ k_)) (.slice A1_2 l1_2.length c1_2) l1_2 from Kd.V_mono hs1_2 (fun k_ hk => .inl (.inr hk)))
  have HB := Aside0.mk (Below.refl w.heap.size w)
  have H : (if (l1_2.length : Int) = (l0_0.length : Int) then (some (([(⟨a1_0, l1_1, l1_2⟩ : S92)] : List (S92)))) else (if 0 ≤ (l1_2.length : Int) then (if (l1_2.length : Int) < (l0_0.length : Int) then (macadamref06_goes.l0 k a2 (l1_2.length : Int) ([] : List (S92)) ((rd_T56 l0_0 (l1_2.length : Int)).f1.f0) l0_0 a0_1 a0_2 a0_3 a0_4 l0_5 a0_6 a1_0 l1_1 l1_2 ((rd_T56 l0_0 (l1_2.length : Int)).f0) ((rd_T56 l0_0 (l1_2.length : Int)).f1.f0) ((rd_T56 l0_0 (l1_2.length : Int)).f1.f1) ((rd_T56 l0_0 (l1_2.length : Int)).f2.f0) ((rd_T56 l0_0 (l1_2.length : Int)).f2.f1) ((rd_T56 l0_0 (l1_2.length : Int)).f3.f0) ((rd_T56 l0_0 (l1_2.length : Int)).f3.f1)) else (none)) else (none))) = some r := h
  clear h
  by_cases c4 : (l1_2.length : Int) = (l0_0.length : Int)
  · rw [if_pos c4] at H
    have c4b0 : ((l1_2.length : Int) == (l0_0.length : Int)) = true := beq_iff_eq.mpr c4
    have c4b1 : ((l1_2.length : Int) != (l0_0.length : Int)) = false := bne_eq_false_iff_eq.mpr c4
    have c4b2 : (l1_2.length == l0_0.length) = true := by first | simpa using c4 | (simp at c4 ⊢; omega)
    clear c4
    obtain ⟨y132, hy132⟩ : ∃ y_ : List (S92), y_ = (([(⟨a1_0, l1_1, l1_2⟩ : S92)] : List (S92))) := ⟨_, rfl⟩
    replace H : (some y132) = some r := by first | (rw [hy132]; with_reducible exact H) | (have H2_ := (Option.bind_some _ _).symm.trans H; rw [hy132]; with_reducible exact H2_) | (have H2_ := (Option.bind_some _ _).symm.trans H; with_reducible exact H2_) | with_reducible exact H | (rw [hy132]; exact H) | exact H
    have Ny132 := Aside0.mk hy132
    clear hy132
    obtain rfl := Option.some.inj H
    go_enter Tryd.func96, Tryd.ntmps96
    go_wp2_with (first | ((with_reducible refine gate_dst (N := 3) rfl ?_); refine box_event ?hg (N := 3) ?hd (cs := #[.slice A0_0 l0_0.length c0_0, .int .i64 a0_1, .int .i64 a0_2, .int .i64 a0_3, .int .i64 a0_4, .slice A0_5 l0_5.length c0_5, .int .i64 a0_6]) (t := 26) ?hr ?_; (case hd => rfl); (case hg => rfl); (case hr => first | (go_simp; done) | (go_simp; rfl)); intro gb130 hg w5 hbox hb; have n0_ := Aside0.mk (Kd.V_below (Kd.V_elderB (by (with_reducible repeat (first | apply Kd.V_alloc | apply Kd.V_drewN | apply Kd.V_drew)); exact HO1_1.out) gb130 (Nat.le_of_eq hg.symm)) hb); have n1_ := Aside0.mk (Kd.V_below (Kd.V_elderB (by (with_reducible repeat (first | apply Kd.V_alloc | apply Kd.V_drewN | apply Kd.V_drew)); exact HO1_2.out) gb130 (Nat.le_of_eq hg.symm)) hb); have n2_ := Aside0.mk (below_step (by repeat (first | (with_reducible first | exact HB.out | apply below_alloc | apply pw_below_drewN | apply below_drew1) | exact HB.out)) hb); have n3_ := Aside0.mk (hbox); have n4_ := Aside0.mk ((by rw [hg]; exact (below_size (by repeat (first | (with_reducible first | exact HB.out | apply below_alloc | apply pw_below_drewN | apply below_drew1) | exact HB.out))) : w.heap.size ≤ gb130)); have n5_ := Aside0.mk ((by rw [hg]; exact (below_size (by repeat (first | (with_reducible first | exact HB.out | apply below_alloc | apply pw_below_drewN | apply below_drew1) | exact HB.out))) : w.heap.size ≤ gb130)); clear HO1_1; clear HO1_2; clear HB; have HO1_1 := n0_; have HO1_2 := n1_; have HB := n2_; have BK130 := n3_; have GW130 := n4_; have GE130 := n5_; clear n0_ n1_ n2_ n3_ n4_ n5_; clear hb hbox hg) | ((with_reducible refine gate_dst (N := 4) rfl ?_); refine box_event ?hg (N := 4) ?hd (cs := #[.int .i64 a1_0, .slice A1_1 l1_1.length c1_1, .slice A1_2 l1_2.length c1_2]) (t := 92) ?hr ?_; (case hd => rfl); (case hg => rfl); (case hr => first | (go_simp; done) | (go_simp; rfl)); intro gb131 hg w6 hbox hb; have n0_ := Aside0.mk (Kd.V_below (Kd.V_elderB (by (with_reducible repeat (first | apply Kd.V_alloc | apply Kd.V_drewN | apply Kd.V_drew)); exact HO1_1.out) gb131 (Nat.le_of_eq hg.symm)) hb); have n1_ := Aside0.mk (Kd.V_below (Kd.V_elderB (by (with_reducible repeat (first | apply Kd.V_alloc | apply Kd.V_drewN | apply Kd.V_drew)); exact HO1_2.out) gb131 (Nat.le_of_eq hg.symm)) hb); have n2_ := Aside0.mk (blk_below (g := gb130) (o := .cells #[.slice A0_0 l0_0.length c0_0, .int .i64 a0_1, .int .i64 a0_2, .int .i64 a0_3, .int .i64 a0_4, .slice A0_5 l0_5.length c0_5, .int .i64 a0_6] 26 (0, 0)) (by (with_reducible repeat (first | refine blk_drewN ?_ _ | refine blk_drew ?_ | refine blk_alloc ?_ _)); exact BK130.out) hb); have n3_ := Aside0.mk (below_step (by repeat (first | (with_reducible first | exact HB.out | apply below_alloc | apply pw_below_drewN | apply below_drew1 | refine below_set ?_ GE130.out) | exact HB.out)) hb); have n4_ := Aside0.mk (hbox); have n5_ := Aside0.mk ((by rw [hg]; exact (below_size (by repeat (first | (with_reducible first | exact HB.out | apply below_alloc | apply pw_below_drewN | apply below_drew1 | refine below_set ?_ GE130.out) | exact HB.out))) : w.heap.size ≤ gb131)); have n6_ := Aside0.mk ((by rw [hg]; exact (below_size (by repeat (first | (with_reducible first | exact HB.out | apply below_alloc | apply pw_below_drewN | apply below_drew1 | refine below_set ?_ GE130.out) | exact HB.out))) : w.heap.size ≤ gb131)); have n7_ := Aside0.mk ((by rw [hg]; exact Nat.ne_of_lt (blk_lt (g := gb130) (o := .cells #[.slice A0_0 l0_0.length c0_0, .int .i64 a0_1, .int .i64 a0_2, .int .i64 a0_3, .int .i64 a0_4, .slice A0_5 l0_5.length c0_5, .int .i64 a0_6] 26 (0, 0)) (by (with_reducible repeat (first | refine blk_drewN ?_ _ | refine blk_drew ?_ | refine blk_alloc ?_ _)); exact BK130.out)) : gb130 ≠ gb131)); have n8_ := Aside0.mk ((by rw [hg]; exact Nat.ne_of_gt (blk_lt (g := gb130) (o := .cells #[.slice A0_0 l0_0.length c0_0, .int .i64 a0_1, .int .i64 a0_2, .int .i64 a0_3, .int .i64 a0_4, .slice A0_5 l0_5.length c0_5, .int .i64 a0_6] 26 (0, 0)) (by (with_reducible repeat (first | refine blk_drewN ?_ _ | refine blk_drew ?_ | refine blk_alloc ?_ _)); exact BK130.out)) : gb131 ≠ gb130)); clear HO1_1; clear HO1_2; clear BK130; clear HB; have HO1_1 := n0_; have HO1_2 := n1_; have BK130 := n2_; have HB := n3_; have BK131 := n4_; have GW131 := n5_; have GE131 := n6_; have NB130_131 := n7_; have NB131_130 := n8_; clear n0_ n1_ n2_ n3_ n4_ n5_ n6_ n7_ n8_; clear hb hbox hg; have hnb7 := NB131_130.out; have hnc7 := NB130_131.out; have hcz8_0 : w6.cell? ⟨gb131, 0, none⟩ = some (.int .i64 a1_0) := (blk_cell BK131.out 0).trans rfl; have hcz8_1 : w6.cell? ⟨gb131, 1, none⟩ = some (.slice A1_1 l1_1.length c1_1) := (blk_cell BK131.out 1).trans rfl; have hcz8_2 : w6.cell? ⟨gb131, 2, none⟩ = some (.slice A1_2 l1_2.length c1_2) := (blk_cell BK131.out 2).trans rfl; have hfz8_0 := blk_frozen BK131.out 0; have hfz8_1 := blk_frozen BK131.out 1; have hfz8_2 := blk_frozen BK131.out 2; have hcz9_0 : w6.cell? ⟨gb130, 0, none⟩ = some (.slice A0_0 l0_0.length c0_0) := (blk_cell BK130.out 0).trans rfl; have hcz9_1 : w6.cell? ⟨gb130, 1, none⟩ = some (.int .i64 a0_1) := (blk_cell BK130.out 1).trans rfl; have hcz9_2 : w6.cell? ⟨gb130, 2, none⟩ = some (.int .i64 a0_2) := (blk_cell BK130.out 2).trans rfl; have hcz9_3 : w6.cell? ⟨gb130, 3, none⟩ = some (.int .i64 a0_3) := (blk_cell BK130.out 3).trans rfl; have hcz9_4 : w6.cell? ⟨gb130, 4, none⟩ = some (.int .i64 a0_4) := (blk_cell BK130.out 4).trans rfl; have hcz9_5 : w6.cell? ⟨gb130, 5, none⟩ = some (.slice A0_5 l0_5.length c0_5) := (blk_cell BK130.out 5).trans rfl; have hcz9_6 : w6.cell? ⟨gb130, 6, none⟩ = some (.int .i64 a0_6) := (blk_cell BK130.out 6).trans rfl; have hfz9_0 := blk_frozen BK130.out 0; have hfz9_1 := blk_frozen BK130.out 1; have hfz9_2 := blk_frozen BK130.out 2; have hfz9_3 := blk_frozen BK130.out 3; have hfz9_4 := blk_frozen BK130.out 4; have hfz9_5 := blk_frozen BK130.out 5; have hfz9_6 := blk_frozen BK130.out 6) | ((with_reducible refine gate_dst (N := 23) rfl ?_); refine Kd.N_lit k92 _ 92 ?hg (N' := 23) ?hd (xs := ([(⟨a1_0, l1_1, l1_2⟩ : S92)] : List (S92))) (inner := [.int .i64 a1_0, .slice A1_1 l1_1.length c1_1, .slice A1_2 l1_2.length c1_2]) (ok := (fun k_ => ((P1_1_ k_ ∨ P1_2_ k_) ∨ w.heap.size ≤ k_) ∧ k_ ≠ gb130 ∧ k_ ≠ gb131)) (okp := (fun k_ => ((P1_1_ k_ ∨ P1_2_ k_) ∨ w.heap.size ≤ k_) ∧ k_ ≠ gb130 ∧ k_ ≠ gb131)) ?hr ?hp (fun _ hk => hk) ((show ∀ k_, w6.heap.size ≤ k_ → (fun k_ => ((P1_1_ k_ ∨ P1_2_ k_) ∨ w.heap.size ≤ k_) ∧ k_ ≠ gb130 ∧ k_ ≠ gb131) k_ from fun k_ hk => ⟨(.inr (Nat.le_trans (below_size (by repeat (first | (with_reducible first | exact HB.out | apply below_alloc | apply pw_below_drewN | apply below_drew1 | refine below_set ?_ GE130.out | refine below_set ?_ GE131.out) | exact HB.out))) hk)), Kd.freshB (g := gb130) (o := .cells #[.slice A0_0 l0_0.length c0_0, .int .i64 a0_1, .int .i64 a0_2, .int .i64 a0_3, .int .i64 a0_4, .slice A0_5 l0_5.length c0_5, .int .i64 a0_6] 26 (0, 0)) (by (with_reducible repeat (first | refine blk_drewN ?_ _ | refine blk_drew ?_ | refine blk_alloc ?_ _)); exact BK130.out) k_ hk, Kd.freshB (g := gb131) (o := .cells #[.int .i64 a1_0, .slice A1_1 l1_1.length c1_1, .slice A1_2 l1_2.length c1_2] 92 (0, 0)) (by (with_reducible repeat (first | refine blk_drewN ?_ _ | refine blk_drew ?_ | refine blk_alloc ?_ _)); exact BK131.out) k_ hk⟩) _ (Nat.le_refl _)) (Below.refl _ _) (Nat.le_refl _) (by simp) ?_; (case hd => rfl); (case hg => rfl); (case hr => first | (go_simp; done) | (go_simp; rfl)); (case hp => exact (Reps.c3 (show Kd.FK k92 _ _ (⟨a1_0, l1_1, l1_2⟩ : S92) [.int .i64 a1_0, .slice A1_1 l1_1.length c1_1, .slice A1_2 l1_2.length c1_2] from (k92_mkF _ _ (⟨a1_0, l1_1, l1_2⟩ : S92) (Kd.V_reads' (Kd.V_mono (ok' := (fun k_ => ((P1_1_ k_ ∨ P1_2_ k_) ∨ w.heap.size ≤ k_) ∧ k_ ≠ gb130 ∧ k_ ≠ gb131)) (HO1_1.out) (fun k_ hk => ⟨hk.1.1, ⟨hk.1.2, hk.2⟩⟩))).2.1 (Kd.V_F (Kd.V_mono (ok' := (fun k_ => ((P1_1_ k_ ∨ P1_2_ k_) ∨ w.heap.size ≤ k_) ∧ k_ ≠ gb130 ∧ k_ ≠ gb131)) (HO1_1.out) (fun k_ hk => ⟨hk.1.1, ⟨hk.1.2, hk.2⟩⟩))) (Kd.V_reads' (Kd.V_mono (ok' := (fun k_ => ((P1_1_ k_ ∨ P1_2_ k_) ∨ w.heap.size ≤ k_) ∧ k_ ≠ gb130 ∧ k_ ≠ gb131)) (HO1_2.out) (fun k_ hk => ⟨hk.1.1, ⟨hk.1.2, hk.2⟩⟩))).2.1 (Kd.V_F (Kd.V_mono (ok' := (fun k_ => ((P1_1_ k_ ∨ P1_2_ k_) ∨ w.heap.size ≤ k_) ∧ k_ ≠ gb130 ∧ k_ ≠ gb131)) (HO1_2.out) (fun k_ hk => ⟨hk.1.1, ⟨hk.1.2, hk.2⟩⟩))))) (Reps.none _ _))); intro v133 w10 ho11 hb hg_ hnew_; clear hg_ hnew_; (first | rw [← Ny132.out] at ho11 | (simp only [Int.reduceToNat] at ho11; rw [← Ny132.out] at ho11)); have n0_ := Aside0.mk (Kd.V_elder' (by (with_reducible repeat (first | apply Kd.V_alloc | apply Kd.V_drewN | apply Kd.V_drew)); exact HO1_1.out) (Kd.N_base ho11) hb); have n1_ := Aside0.mk (Kd.V_elder' (by (with_reducible repeat (first | apply Kd.V_alloc | apply Kd.V_drewN | apply Kd.V_drew)); exact HO1_2.out) (Kd.N_base ho11) hb); have n2_ := Aside0.mk (Kd.N_lower ho11 (below_size (by repeat (first | (with_reducible first | exact HB.out | apply below_alloc | apply pw_below_drewN | apply below_drew1 | refine below_set ?_ GE130.out | refine below_set ?_ GE131.out) | exact HB.out)))); have n3_ := Aside0.mk (blk_below (g := gb130) (o := .cells #[.slice A0_0 l0_0.length c0_0, .int .i64 a0_1, .int .i64 a0_2, .int .i64 a0_3, .int .i64 a0_4, .slice A0_5 l0_5.length c0_5, .int .i64 a0_6] 26 (0, 0)) (by (with_reducible repeat (first | refine blk_drewN ?_ _ | refine blk_drew ?_ | refine blk_alloc ?_ _)); exact BK130.out) hb); have n4_ := Aside0.mk (blk_below (g := gb131) (o := .cells #[.int .i64 a1_0, .slice A1_1 l1_1.length c1_1, .slice A1_2 l1_2.length c1_2] 92 (0, 0)) (by (with_reducible repeat (first | refine blk_drewN ?_ _ | refine blk_drew ?_ | refine blk_alloc ?_ _)); exact BK131.out) hb); have n5_ := Aside0.mk (below_step (by repeat (first | (with_reducible first | exact HB.out | apply below_alloc | apply pw_below_drewN | apply below_drew1 | refine below_set ?_ GE130.out | refine below_set ?_ GE131.out) | exact HB.out)) hb); clear HO1_1; clear HO1_2; clear BK130; clear BK131; clear HB; have HO1_1 := n0_; have HO1_2 := n1_; have HO134 := n2_; have BK130 := n3_; have BK131 := n4_; have HB := n5_; clear n0_ n1_ n2_ n3_ n4_ n5_; clear hb ho11))
    go_ret
    exact ⟨_, by first | rfl | (simp [errW_none, errW_some] <;> rfl) | (simp [*, errW_none, errW_some] <;> rfl), by (with_reducible repeat (first | apply Kd.N_alloc | apply Kd.N_drewN | apply Kd.N_drew)); exact Kd.N_mono HO134.out (fun _ hk => hk.1), by repeat (first | (with_reducible first | exact HB.out | apply below_alloc | apply pw_below_drewN | apply below_drew1 | refine below_set ?_ GE130.out | refine below_set ?_ GE131.out) | exact HB.out)⟩
  · rw [if_neg c4] at H
    have c4b0 : ((l1_2.length : Int) == (l0_0.length : Int)) = false := beq_eq_false_iff_ne.mpr c4
    have c4b1 : ((l1_2.length : Int) != (l0_0.length : Int)) = true := bne_iff_ne.mpr c4
    have c4b2 : (l1_2.length == l0_0.length) = false := by first | simpa using c4 | (simp at c4 ⊢; omega)
    by_cases c12 : 0 ≤ (l1_2.length : Int)
    · rw [if_pos c12] at H
      have c12b0 : decide (0 ≤ (l1_2.length : Int)) = true := decide_eq_true c12
      have c12b1 : decide (0 ≤ l1_2.length) = true := decide_eq_true (by omega)
      clear c12
      by_cases c13 : (l1_2.length : Int) < (l0_0.length : Int)
      · rw [if_pos c13] at H
        have c13b0 : decide ((l1_2.length : Int) < (l0_0.length : Int)) = true := decide_eq_true c13
        have c13b1 : decide (l1_2.length < l0_0.length) = true := decide_eq_true (Int.ofNat_lt.mp c13)
        clear c13
        have H' := Aside0.mk H
        clear H
        go_enter Tryd.func96, Tryd.ntmps96
        go_wp2_with (first | ((with_reducible refine gate_dst (N := 3) rfl ?_); refine box_event ?hg (N := 3) ?hd (cs := #[.slice A0_0 l0_0.length c0_0, .int .i64 a0_1, .int .i64 a0_2, .int .i64 a0_3, .int .i64 a0_4, .slice A0_5 l0_5.length c0_5, .int .i64 a0_6]) (t := 26) ?hr ?_; (case hd => rfl); (case hg => rfl); (case hr => first | (go_simp; done) | (go_simp; rfl)); intro gb130 hg w14 hbox hb; have n0_ := Aside0.mk (Kd.V_below (Kd.V_elderB (by (with_reducible repeat (first | apply Kd.V_alloc | apply Kd.V_drewN | apply Kd.V_drew)); exact HO1_1.out) gb130 (Nat.le_of_eq hg.symm)) hb); have n1_ := Aside0.mk (Kd.V_below (Kd.V_elderB (by (with_reducible repeat (first | apply Kd.V_alloc | apply Kd.V_drewN | apply Kd.V_drew)); exact HO1_2.out) gb130 (Nat.le_of_eq hg.symm)) hb); have n2_ := Aside0.mk (below_step (by repeat (first | (with_reducible first | exact HB.out | apply below_alloc | apply pw_below_drewN | apply below_drew1) | exact HB.out)) hb); have n3_ := Aside0.mk (hbox); have n4_ := Aside0.mk ((by rw [hg]; exact (below_size (by repeat (first | (with_reducible first | exact HB.out | apply below_alloc | apply pw_below_drewN | apply below_drew1) | exact HB.out))) : w.heap.size ≤ gb130)); have n5_ := Aside0.mk ((by rw [hg]; exact (below_size (by repeat (first | (with_reducible first | exact HB.out | apply below_alloc | apply pw_below_drewN | apply below_drew1) | exact HB.out))) : w.heap.size ≤ gb130)); clear HO1_1; clear HO1_2; clear HB; have HO1_1 := n0_; have HO1_2 := n1_; have HB := n2_; have BK130 := n3_; have GW130 := n4_; have GE130 := n5_; clear n0_ n1_ n2_ n3_ n4_ n5_; clear hb hbox hg) | ((with_reducible refine gate_dst (N := 4) rfl ?_); refine box_event ?hg (N := 4) ?hd (cs := #[.int .i64 a1_0, .slice A1_1 l1_1.length c1_1, .slice A1_2 l1_2.length c1_2]) (t := 92) ?hr ?_; (case hd => rfl); (case hg => rfl); (case hr => first | (go_simp; done) | (go_simp; rfl)); intro gb131 hg w15 hbox hb; have n0_ := Aside0.mk (Kd.V_below (Kd.V_elderB (by (with_reducible repeat (first | apply Kd.V_alloc | apply Kd.V_drewN | apply Kd.V_drew)); exact HO1_1.out) gb131 (Nat.le_of_eq hg.symm)) hb); have n1_ := Aside0.mk (Kd.V_below (Kd.V_elderB (by (with_reducible repeat (first | apply Kd.V_alloc | apply Kd.V_drewN | apply Kd.V_drew)); exact HO1_2.out) gb131 (Nat.le_of_eq hg.symm)) hb); have n2_ := Aside0.mk (blk_below (g := gb130) (o := .cells #[.slice A0_0 l0_0.length c0_0, .int .i64 a0_1, .int .i64 a0_2, .int .i64 a0_3, .int .i64 a0_4, .slice A0_5 l0_5.length c0_5, .int .i64 a0_6] 26 (0, 0)) (by (with_reducible repeat (first | refine blk_drewN ?_ _ | refine blk_drew ?_ | refine blk_alloc ?_ _)); exact BK130.out) hb); have n3_ := Aside0.mk (below_step (by repeat (first | (with_reducible first | exact HB.out | apply below_alloc | apply pw_below_drewN | apply below_drew1 | refine below_set ?_ GE130.out) | exact HB.out)) hb); have n4_ := Aside0.mk (hbox); have n5_ := Aside0.mk ((by rw [hg]; exact (below_size (by repeat (first | (with_reducible first | exact HB.out | apply below_alloc | apply pw_below_drewN | apply below_drew1 | refine below_set ?_ GE130.out) | exact HB.out))) : w.heap.size ≤ gb131)); have n6_ := Aside0.mk ((by rw [hg]; exact (below_size (by repeat (first | (with_reducible first | exact HB.out | apply below_alloc | apply pw_below_drewN | apply below_drew1 | refine below_set ?_ GE130.out) | exact HB.out))) : w.heap.size ≤ gb131)); have n7_ := Aside0.mk ((by rw [hg]; exact Nat.ne_of_lt (blk_lt (g := gb130) (o := .cells #[.slice A0_0 l0_0.length c0_0, .int .i64 a0_1, .int .i64 a0_2, .int .i64 a0_3, .int .i64 a0_4, .slice A0_5 l0_5.length c0_5, .int .i64 a0_6] 26 (0, 0)) (by (with_reducible repeat (first | refine blk_drewN ?_ _ | refine blk_drew ?_ | refine blk_alloc ?_ _)); exact BK130.out)) : gb130 ≠ gb131)); have n8_ := Aside0.mk ((by rw [hg]; exact Nat.ne_of_gt (blk_lt (g := gb130) (o := .cells #[.slice A0_0 l0_0.length c0_0, .int .i64 a0_1, .int .i64 a0_2, .int .i64 a0_3, .int .i64 a0_4, .slice A0_5 l0_5.length c0_5, .int .i64 a0_6] 26 (0, 0)) (by (with_reducible repeat (first | refine blk_drewN ?_ _ | refine blk_drew ?_ | refine blk_alloc ?_ _)); exact BK130.out)) : gb131 ≠ gb130)); clear HO1_1; clear HO1_2; clear BK130; clear HB; have HO1_1 := n0_; have HO1_2 := n1_; have BK130 := n2_; have HB := n3_; have BK131 := n4_; have GW131 := n5_; have GE131 := n6_; have NB130_131 := n7_; have NB131_130 := n8_; clear n0_ n1_ n2_ n3_ n4_ n5_ n6_ n7_ n8_; clear hb hbox hg; have hnb16 := NB131_130.out; have hnc16 := NB130_131.out; have hcz17_0 : w15.cell? ⟨gb131, 0, none⟩ = some (.int .i64 a1_0) := (blk_cell BK131.out 0).trans rfl; have hcz17_1 : w15.cell? ⟨gb131, 1, none⟩ = some (.slice A1_1 l1_1.length c1_1) := (blk_cell BK131.out 1).trans rfl; have hcz17_2 : w15.cell? ⟨gb131, 2, none⟩ = some (.slice A1_2 l1_2.length c1_2) := (blk_cell BK131.out 2).trans rfl; have hfz17_0 := blk_frozen BK131.out 0; have hfz17_1 := blk_frozen BK131.out 1; have hfz17_2 := blk_frozen BK131.out 2; have hcz18_0 : w15.cell? ⟨gb130, 0, none⟩ = some (.slice A0_0 l0_0.length c0_0) := (blk_cell BK130.out 0).trans rfl; have hcz18_1 : w15.cell? ⟨gb130, 1, none⟩ = some (.int .i64 a0_1) := (blk_cell BK130.out 1).trans rfl; have hcz18_2 : w15.cell? ⟨gb130, 2, none⟩ = some (.int .i64 a0_2) := (blk_cell BK130.out 2).trans rfl; have hcz18_3 : w15.cell? ⟨gb130, 3, none⟩ = some (.int .i64 a0_3) := (blk_cell BK130.out 3).trans rfl; have hcz18_4 : w15.cell? ⟨gb130, 4, none⟩ = some (.int .i64 a0_4) := (blk_cell BK130.out 4).trans rfl; have hcz18_5 : w15.cell? ⟨gb130, 5, none⟩ = some (.slice A0_5 l0_5.length c0_5) := (blk_cell BK130.out 5).trans rfl; have hcz18_6 : w15.cell? ⟨gb130, 6, none⟩ = some (.int .i64 a0_6) := (blk_cell BK130.out 6).trans rfl; have hfz18_0 := blk_frozen BK130.out 0; have hfz18_1 := blk_frozen BK130.out 1; have hfz18_2 := blk_frozen BK130.out 2; have hfz18_3 := blk_frozen BK130.out 3; have hfz18_4 := blk_frozen BK130.out 4; have hfz18_5 := blk_frozen BK130.out 5; have hfz18_6 := blk_frozen BK130.out 6; have p135 : 0 ≤ ((l1_2.length : Int) : Int) := of_decide_eq_true (by first | (with_reducible assumption) | assumption); have q135 : (l1_2.length : Int) < (l0_0.length : Int) := of_decide_eq_true (by first | (with_reducible assumption) | assumption); obtain ⟨ad135, e135, hx135_0, hx135_1, hx135_2, hx135_3, hx135_4, hx135_5, hx135_6⟩ := at_T56 HR0_0.out (l1_2.length : Int) p135 q135; cases e135; replace hx135_0 := (HB.out.cell (World.block_lt_of_cell? w _ hx135_0)).trans hx135_0; replace hx135_1 := (HB.out.cell (World.block_lt_of_cell? w _ hx135_1)).trans hx135_1; replace hx135_2 := (HB.out.cell (World.block_lt_of_cell? w _ hx135_2)).trans hx135_2; replace hx135_3 := (HB.out.cell (World.block_lt_of_cell? w _ hx135_3)).trans hx135_3; replace hx135_4 := (HB.out.cell (World.block_lt_of_cell? w _ hx135_4)).trans hx135_4; replace hx135_5 := (HB.out.cell (World.block_lt_of_cell? w _ hx135_5)).trans hx135_5; replace hx135_6 := (HB.out.cell (World.block_lt_of_cell? w _ hx135_6)).trans hx135_6; (try simp only [Go.IntWalk.toNatUp] at hx135_0); (try simp only [Go.IntWalk.toNatUp] at hx135_1); (try simp only [Go.IntWalk.toNatUp] at hx135_2); (try simp only [Go.IntWalk.toNatUp] at hx135_3); (try simp only [Go.IntWalk.toNatUp] at hx135_4); (try simp only [Go.IntWalk.toNatUp] at hx135_5); (try simp only [Go.IntWalk.toNatUp] at hx135_6); replace p135 := eq_true p135; replace q135 := eq_true q135) | ((with_reducible refine gate_dst (N := 8) rfl ?_); refine box_event ?hg (N := 8) ?hd (cs := #[.int .i64 0, .int .i64 0, .int .i64 0, .int .i64 0, .int .i64 0, .int .i64 0, .int .i64 0]) (t := 56) ?hr ?_; (case hd => rfl); (case hg => rfl); (case hr => first | (go_simp; done) | (go_simp; rfl)); intro gb136 hg w19 hbox hb; have n0_ := Aside0.mk (Kd.V_below (Kd.V_elderB (by (with_reducible repeat (first | apply Kd.V_alloc | apply Kd.V_drewN | apply Kd.V_drew)); exact HO1_1.out) gb136 (Nat.le_of_eq hg.symm)) hb); have n1_ := Aside0.mk (Kd.V_below (Kd.V_elderB (by (with_reducible repeat (first | apply Kd.V_alloc | apply Kd.V_drewN | apply Kd.V_drew)); exact HO1_2.out) gb136 (Nat.le_of_eq hg.symm)) hb); have n2_ := Aside0.mk (blk_below (g := gb130) (o := .cells #[.slice (some ad135) l0_0.length c0_0, .int .i64 a0_1, .int .i64 a0_2, .int .i64 a0_3, .int .i64 a0_4, .slice A0_5 l0_5.length c0_5, .int .i64 a0_6] 26 (0, 0)) (by (with_reducible repeat (first | refine blk_drewN ?_ _ | refine blk_drew ?_ | refine blk_alloc ?_ _)); exact BK130.out) hb); have n3_ := Aside0.mk (blk_below (g := gb131) (o := .cells #[.int .i64 a1_0, .slice A1_1 l1_1.length c1_1, .slice A1_2 l1_2.length c1_2] 92 (0, 0)) (by (with_reducible repeat (first | refine blk_drewN ?_ _ | refine blk_drew ?_ | refine blk_alloc ?_ _)); exact BK131.out) hb); have n4_ := Aside0.mk (below_step (by repeat (first | (with_reducible first | exact HB.out | apply below_alloc | apply pw_below_drewN | apply below_drew1 | refine below_set ?_ GE130.out | refine below_set ?_ GE131.out) | exact HB.out)) hb); have n5_ := Aside0.mk (hbox); have n6_ := Aside0.mk ((by rw [hg]; exact (below_size (by repeat (first | (with_reducible first | exact HB.out | apply below_alloc | apply pw_below_drewN | apply below_drew1 | refine below_set ?_ GE130.out | refine below_set ?_ GE131.out) | exact HB.out))) : w.heap.size ≤ gb136)); have n7_ := Aside0.mk ((by rw [hg]; exact (below_size (by repeat (first | (with_reducible first | exact HB.out | apply below_alloc | apply pw_below_drewN | apply below_drew1 | refine below_set ?_ GE130.out | refine below_set ?_ GE131.out) | exact HB.out))) : w.heap.size ≤ gb136)); have n8_ := Aside0.mk ((by rw [hg]; exact Nat.ne_of_lt (blk_lt (g := gb130) (o := .cells #[.slice (some ad135) l0_0.length c0_0, .int .i64 a0_1, .int .i64 a0_2, .int .i64 a0_3, .int .i64 a0_4, .slice A0_5 l0_5.length c0_5, .int .i64 a0_6] 26 (0, 0)) (by (with_reducible repeat (first | refine blk_drewN ?_ _ | refine blk_drew ?_ | refine blk_alloc ?_ _)); exact BK130.out)) : gb130 ≠ gb136)); have n9_ := Aside0.mk ((by rw [hg]; exact Nat.ne_of_gt (blk_lt (g := gb130) (o := .cells #[.slice (some ad135) l0_0.length c0_0, .int .i64 a0_1, .int .i64 a0_2, .int .i64 a0_3, .int .i64 a0_4, .slice A0_5 l0_5.length c0_5, .int .i64 a0_6] 26 (0, 0)) (by (with_reducible repeat (first | refine blk_drewN ?_ _ | refine blk_drew ?_ | refine blk_alloc ?_ _)); exact BK130.out)) : gb136 ≠ gb130)); have n10_ := Aside0.mk ((by rw [hg]; exact Nat.ne_of_lt (blk_lt (g := gb131) (o := .cells #[.int .i64 a1_0, .slice A1_1 l1_1.length c1_1, .slice A1_2 l1_2.length c1_2] 92 (0, 0)) (by (with_reducible repeat (first | refine blk_drewN ?_ _ | refine blk_drew ?_ | refine blk_alloc ?_ _)); exact BK131.out)) : gb131 ≠ gb136)); have n11_ := Aside0.mk ((by rw [hg]; exact Nat.ne_of_gt (blk_lt (g := gb131) (o := .cells #[.int .i64 a1_0, .slice A1_1 l1_1.length c1_1, .slice A1_2 l1_2.length c1_2] 92 (0, 0)) (by (with_reducible repeat (first | refine blk_drewN ?_ _ | refine blk_drew ?_ | refine blk_alloc ?_ _)); exact BK131.out)) : gb136 ≠ gb131)); clear HO1_1; clear HO1_2; clear BK130; clear BK131; clear HB; have HO1_1 := n0_; have HO1_2 := n1_; have BK130 := n2_; have BK131 := n3_; have HB := n4_; have BK136 := n5_; have GW136 := n6_; have GE136 := n7_; have NB130_136 := n8_; have NB136_130 := n9_; have NB131_136 := n10_; have NB136_131 := n11_; clear n0_ n1_ n2_ n3_ n4_ n5_ n6_ n7_ n8_ n9_ n10_ n11_; clear hb hbox hg; have hnb20 := NB136_130.out; have hnc20 := NB130_136.out; have hnb21 := NB136_131.out; have hnc21 := NB131_136.out; have hcz22_0 : w19.cell? ⟨gb136, 0, none⟩ = some (.int .i64 0) := (blk_cell BK136.out 0).trans rfl; have hcz22_1 : w19.cell? ⟨gb136, 1, none⟩ = some (.int .i64 0) := (blk_cell BK136.out 1).trans rfl; have hcz22_2 : w19.cell? ⟨gb136, 2, none⟩ = some (.int .i64 0) := (blk_cell BK136.out 2).trans rfl; have hcz22_3 : w19.cell? ⟨gb136, 3, none⟩ = some (.int .i64 0) := (blk_cell BK136.out 3).trans rfl; have hcz22_4 : w19.cell? ⟨gb136, 4, none⟩ = some (.int .i64 0) := (blk_cell BK136.out 4).trans rfl; have hcz22_5 : w19.cell? ⟨gb136, 5, none⟩ = some (.int .i64 0) := (blk_cell BK136.out 5).trans rfl; have hcz22_6 : w19.cell? ⟨gb136, 6, none⟩ = some (.int .i64 0) := (blk_cell BK136.out 6).trans rfl; have hfz22_0 := blk_frozen BK136.out 0; have hfz22_1 := blk_frozen BK136.out 1; have hfz22_2 := blk_frozen BK136.out 2; have hfz22_3 := blk_frozen BK136.out 3; have hfz22_4 := blk_frozen BK136.out 4; have hfz22_5 := blk_frozen BK136.out 5; have hfz22_6 := blk_frozen BK136.out 6))
        go_loopg [9, 10] k (fun kq v9 v10 w' => ∃ (x9_1 : List (S92)) (x10_1 : Int), v10 = .int .i64 x10_1 ∧ Aside0 (macadamref06_goes.l0 kq a2 (l1_2.length : Int) x9_1 x10_1 l0_0 a0_1 a0_2 a0_3 a0_4 l0_5 a0_6 a1_0 l1_1 l1_2 ((rd_T56 l0_0 (l1_2.length : Int)).f0) ((rd_T56 l0_0 (l1_2.length : Int)).f1.f0) ((rd_T56 l0_0 (l1_2.length : Int)).f1.f1) ((rd_T56 l0_0 (l1_2.length : Int)).f2.f0) ((rd_T56 l0_0 (l1_2.length : Int)).f2.f1) ((rd_T56 l0_0 (l1_2.length : Int)).f3.f0) ((rd_T56 l0_0 (l1_2.length : Int)).f3.f1) = some r) ∧ Aside0 (kq ≤ k) ∧ Aside0 (Kd.N k92 92 w' w.heap.size (fun k_ => ((P1_1_ k_ ∨ P1_2_ k_) ∨ w.heap.size ≤ k_) ∧ k_ ≠ gb130 ∧ k_ ≠ gb131 ∧ k_ ≠ gb136) v9 x9_1) ∧ Aside0 (Kd.V (Kd.int .i64) 3 w' w.heap.size (fun k_ => ((P1_1_ k_ ∨ P1_2_ k_) ∨ w.heap.size ≤ k_) ∧ some k_ ≠ (v9 : Value).ownBlock ∧ k_ ≠ gb130 ∧ k_ ≠ gb131 ∧ k_ ≠ gb136) (.slice A1_1 l1_1.length c1_1) l1_1) ∧ Aside0 (Kd.V (Kd.int .i64) 3 w' w.heap.size (fun k_ => ((P1_1_ k_ ∨ P1_2_ k_) ∨ w.heap.size ≤ k_) ∧ some k_ ≠ (v9 : Value).ownBlock ∧ k_ ≠ gb130 ∧ k_ ≠ gb131 ∧ k_ ≠ gb136) (.slice A1_2 l1_2.length c1_2) l1_2) ∧ Aside0 (w'.heap[gb130]? = some (.cells #[(.slice (some ad135) l0_0.length c0_0), .int .i64 a0_1, .int .i64 a0_2, .int .i64 a0_3, .int .i64 a0_4, (.slice A0_5 l0_5.length c0_5), .int .i64 a0_6] 26 (0, 0))) ∧ Aside0 (w'.heap[gb131]? = some (.cells #[.int .i64 a1_0, (.slice A1_1 l1_1.length c1_1), (.slice A1_2 l1_2.length c1_2)] 92 (0, 0))) ∧ Aside0 (w'.heap[gb136]? = some (.cells #[.int .i64 ((rd_T56 l0_0 (l1_2.length : Int)).f0), .int .i64 ((rd_T56 l0_0 (l1_2.length : Int)).f1.f0), .int .i64 ((rd_T56 l0_0 (l1_2.length : Int)).f1.f1), .int .i64 ((rd_T56 l0_0 (l1_2.length : Int)).f2.f0), .int .i64 ((rd_T56 l0_0 (l1_2.length : Int)).f2.f1), .int .i64 ((rd_T56 l0_0 (l1_2.length : Int)).f3.f0), .int .i64 ((rd_T56 l0_0 (l1_2.length : Int)).f3.f1)] 56 (0, 0))) ∧ Aside0 (Below w.heap.size w w'))
        case atStart => exact ⟨(([] : List (S92))), ((rd_T56 l0_0 (l1_2.length : Int)).f1.f0), (by first | rfl | (simp; done) | (simp [*]; done)), H', ⟨Nat.le_refl _⟩, ⟨by first | exact Kd.S_nil _ _ _ _ _ | exact Kd.N_nil _ _ _ _ _ | exact Kd.V_nil _ _ _ _ _ | exact Kd.Q_nil _ _ _ _ _ | exact Kd.R_nil _ _ _ _ _⟩, ⟨by (with_reducible repeat (first | apply Kd.V_alloc | apply Kd.V_drewN | apply Kd.V_drew)); exact Kd.V_mono (Kd.V_far (p := ⟨gb136, 6, none⟩) (Kd.V_far (p := ⟨gb136, 5, none⟩) (Kd.V_far (p := ⟨gb136, 4, none⟩) (Kd.V_far (p := ⟨gb136, 3, none⟩) (Kd.V_far (p := ⟨gb136, 2, none⟩) (Kd.V_far (p := ⟨gb136, 1, none⟩) (Kd.V_far (p := ⟨gb136, 0, none⟩) (Kd.V_mono HO1_1.out (fun k_ hk => (⟨hk, hk.2⟩ : _ ∧ k_ ≠ gb136))) (fun _ hk => hk.2) (.int .i64 ((rd_T56 l0_0 (l1_2.length : Int)).f0))) (fun _ hk => hk.2) (.int .i64 ((rd_T56 l0_0 (l1_2.length : Int)).f1.f0))) (fun _ hk => hk.2) (.int .i64 ((rd_T56 l0_0 (l1_2.length : Int)).f1.f1))) (fun _ hk => hk.2) (.int .i64 ((rd_T56 l0_0 (l1_2.length : Int)).f2.f0))) (fun _ hk => hk.2) (.int .i64 ((rd_T56 l0_0 (l1_2.length : Int)).f2.f1))) (fun _ hk => hk.2) (.int .i64 ((rd_T56 l0_0 (l1_2.length : Int)).f3.f0))) (fun _ hk => hk.2) (.int .i64 ((rd_T56 l0_0 (l1_2.length : Int)).f3.f1))) (fun _ hk => ⟨hk.1.1.1.1, ⟨(by simp [Value.ownBlock]), ⟨hk.1.1.1.2, ⟨hk.1.1.2, hk.1.2⟩⟩⟩⟩)⟩, ⟨by (with_reducible repeat (first | apply Kd.V_alloc | apply Kd.V_drewN | apply Kd.V_drew)); exact Kd.V_mono (Kd.V_far (p := ⟨gb136, 6, none⟩) (Kd.V_far (p := ⟨gb136, 5, none⟩) (Kd.V_far (p := ⟨gb136, 4, none⟩) (Kd.V_far (p := ⟨gb136, 3, none⟩) (Kd.V_far (p := ⟨gb136, 2, none⟩) (Kd.V_far (p := ⟨gb136, 1, none⟩) (Kd.V_far (p := ⟨gb136, 0, none⟩) (Kd.V_mono HO1_2.out (fun k_ hk => (⟨hk, hk.2⟩ : _ ∧ k_ ≠ gb136))) (fun _ hk => hk.2) (.int .i64 ((rd_T56 l0_0 (l1_2.length : Int)).f0))) (fun _ hk => hk.2) (.int .i64 ((rd_T56 l0_0 (l1_2.length : Int)).f1.f0))) (fun _ hk => hk.2) (.int .i64 ((rd_T56 l0_0 (l1_2.length : Int)).f1.f1))) (fun _ hk => hk.2) (.int .i64 ((rd_T56 l0_0 (l1_2.length : Int)).f2.f0))) (fun _ hk => hk.2) (.int .i64 ((rd_T56 l0_0 (l1_2.length : Int)).f2.f1))) (fun _ hk => hk.2) (.int .i64 ((rd_T56 l0_0 (l1_2.length : Int)).f3.f0))) (fun _ hk => hk.2) (.int .i64 ((rd_T56 l0_0 (l1_2.length : Int)).f3.f1))) (fun _ hk => ⟨hk.1.1.1.1, ⟨(by simp [Value.ownBlock]), ⟨hk.1.1.1.2, ⟨hk.1.1.2, hk.1.2⟩⟩⟩⟩)⟩, ⟨by (with_reducible repeat (first | refine blk_drewN ?_ _ | refine blk_drew ?_ | refine blk_alloc ?_ _)); refine blk_far ?_ NB130_136.out _; (with_reducible repeat (first | refine blk_drewN ?_ _ | refine blk_drew ?_ | refine blk_alloc ?_ _)); refine blk_far ?_ NB130_136.out _; (with_reducible repeat (first | refine blk_drewN ?_ _ | refine blk_drew ?_ | refine blk_alloc ?_ _)); refine blk_far ?_ NB130_136.out _; (with_reducible repeat (first | refine blk_drewN ?_ _ | refine blk_drew ?_ | refine blk_alloc ?_ _)); refine blk_far ?_ NB130_136.out _; (with_reducible repeat (first | refine blk_drewN ?_ _ | refine blk_drew ?_ | refine blk_alloc ?_ _)); refine blk_far ?_ NB130_136.out _; (with_reducible repeat (first | refine blk_drewN ?_ _ | refine blk_drew ?_ | refine blk_alloc ?_ _)); refine blk_far ?_ NB130_136.out _; (with_reducible repeat (first | refine blk_drewN ?_ _ | refine blk_drew ?_ | refine blk_alloc ?_ _)); refine blk_far ?_ NB130_136.out _; (with_reducible repeat (first | refine blk_drewN ?_ _ | refine blk_drew ?_ | refine blk_alloc ?_ _)); exact BK130.out⟩, ⟨by (with_reducible repeat (first | refine blk_drewN ?_ _ | refine blk_drew ?_ | refine blk_alloc ?_ _)); refine blk_far ?_ NB131_136.out _; (with_reducible repeat (first | refine blk_drewN ?_ _ | refine blk_drew ?_ | refine blk_alloc ?_ _)); refine blk_far ?_ NB131_136.out _; (with_reducible repeat (first | refine blk_drewN ?_ _ | refine blk_drew ?_ | refine blk_alloc ?_ _)); refine blk_far ?_ NB131_136.out _; (with_reducible repeat (first | refine blk_drewN ?_ _ | refine blk_drew ?_ | refine blk_alloc ?_ _)); refine blk_far ?_ NB131_136.out _; (with_reducible repeat (first | refine blk_drewN ?_ _ | refine blk_drew ?_ | refine blk_alloc ?_ _)); refine blk_far ?_ NB131_136.out _; (with_reducible repeat (first | refine blk_drewN ?_ _ | refine blk_drew ?_ | refine blk_alloc ?_ _)); refine blk_far ?_ NB131_136.out _; (with_reducible repeat (first | refine blk_drewN ?_ _ | refine blk_drew ?_ | refine blk_alloc ?_ _)); refine blk_far ?_ NB131_136.out _; (with_reducible repeat (first | refine blk_drewN ?_ _ | refine blk_drew ?_ | refine blk_alloc ?_ _)); exact BK131.out⟩, ⟨by (with_reducible repeat (first | refine blk_drewN ?_ _ | refine blk_drew ?_ | refine blk_alloc ?_ _)); refine blk_put (cs := #[.int .i64 ((rd_T56 l0_0 (l1_2.length : Int)).f0), .int .i64 ((rd_T56 l0_0 (l1_2.length : Int)).f1.f0), .int .i64 ((rd_T56 l0_0 (l1_2.length : Int)).f1.f1), .int .i64 ((rd_T56 l0_0 (l1_2.length : Int)).f2.f0), .int .i64 ((rd_T56 l0_0 (l1_2.length : Int)).f2.f1), .int .i64 ((rd_T56 l0_0 (l1_2.length : Int)).f3.f0), .int .i64 0]) ?_ 6 _ rfl; (with_reducible repeat (first | refine blk_drewN ?_ _ | refine blk_drew ?_ | refine blk_alloc ?_ _)); refine blk_put (cs := #[.int .i64 ((rd_T56 l0_0 (l1_2.length : Int)).f0), .int .i64 ((rd_T56 l0_0 (l1_2.length : Int)).f1.f0), .int .i64 ((rd_T56 l0_0 (l1_2.length : Int)).f1.f1), .int .i64 ((rd_T56 l0_0 (l1_2.length : Int)).f2.f0), .int .i64 ((rd_T56 l0_0 (l1_2.length : Int)).f2.f1), .int .i64 0, .int .i64 0]) ?_ 5 _ rfl; (with_reducible repeat (first | refine blk_drewN ?_ _ | refine blk_drew ?_ | refine blk_alloc ?_ _)); refine blk_put (cs := #[.int .i64 ((rd_T56 l0_0 (l1_2.length : Int)).f0), .int .i64 ((rd_T56 l0_0 (l1_2.length : Int)).f1.f0), .int .i64 ((rd_T56 l0_0 (l1_2.length : Int)).f1.f1), .int .i64 ((rd_T56 l0_0 (l1_2.length : Int)).f2.f0), .int .i64 0, .int .i64 0, .int .i64 0]) ?_ 4 _ rfl; (with_reducible repeat (first | refine blk_drewN ?_ _ | refine blk_drew ?_ | refine blk_alloc ?_ _)); refine blk_put (cs := #[.int .i64 ((rd_T56 l0_0 (l1_2.length : Int)).f0), .int .i64 ((rd_T56 l0_0 (l1_2.length : Int)).f1.f0), .int .i64 ((rd_T56 l0_0 (l1_2.length : Int)).f1.f1), .int .i64 0, .int .i64 0, .int .i64 0, .int .i64 0]) ?_ 3 _ rfl; (with_reducible repeat (first | refine blk_drewN ?_ _ | refine blk_drew ?_ | refine blk_alloc ?_ _)); refine blk_put (cs := #[.int .i64 ((rd_T56 l0_0 (l1_2.length : Int)).f0), .int .i64 ((rd_T56 l0_0 (l1_2.length : Int)).f1.f0), .int .i64 0, .int .i64 0, .int .i64 0, .int .i64 0, .int .i64 0]) ?_ 2 _ rfl; (with_reducible repeat (first | refine blk_drewN ?_ _ | refine blk_drew ?_ | refine blk_alloc ?_ _)); refine blk_put (cs := #[.int .i64 ((rd_T56 l0_0 (l1_2.length : Int)).f0), .int .i64 0, .int .i64 0, .int .i64 0, .int .i64 0, .int .i64 0, .int .i64 0]) ?_ 1 _ rfl; (with_reducible repeat (first | refine blk_drewN ?_ _ | refine blk_drew ?_ | refine blk_alloc ?_ _)); refine blk_put (cs := #[.int .i64 0, .int .i64 0, .int .i64 0, .int .i64 0, .int .i64 0, .int .i64 0, .int .i64 0]) ?_ 0 _ rfl; (with_reducible repeat (first | refine blk_drewN ?_ _ | refine blk_drew ?_ | refine blk_alloc ?_ _)); exact BK136.out⟩, ⟨by repeat (first | (with_reducible first | exact HB.out | apply below_alloc | apply pw_below_drewN | apply below_drew1 | refine below_set ?_ GE130.out | refine below_set ?_ GE131.out | refine below_set ?_ GE136.out) | exact HB.out)⟩⟩
        case round =>
          clear H'
          try clear c1
          try clear p1
          try clear q1
          try clear hx1
          try clear c2
          try clear p2
          try clear c3
          try clear c4
          try clear c4b0
          try clear c4b1
          try clear c4b2
          try clear c7
          try clear c9
          try clear c12
          try clear c12b0
          try clear c12b1
          try clear c13
          try clear c13b0
          try clear c13b1
          try clear p13
          try clear q13
          try clear hx13
          try clear c16
          try clear c20
          try clear c21
          try clear hcz17_0
          try clear hcz17_1
          try clear hcz17_2
          try clear hcz18_0
          try clear hcz18_1
          try clear hcz18_2
          try clear hcz18_3
          try clear hcz18_4
          try clear hcz18_5
          try clear hcz18_6
          try clear hcz22_0
          try clear hcz22_1
          try clear hcz22_2
          try clear hcz22_3
          try clear hcz22_4
          try clear hcz22_5
          try clear hcz22_6
          try clear hcz8_0
          try clear hcz8_1
          try clear hcz8_2
          try clear hcz9_0
          try clear hcz9_1
          try clear hcz9_2
          try clear hcz9_3
          try clear hcz9_4
          try clear hcz9_5
          try clear hcz9_6
          try clear hfz17_0
          try clear hfz17_1
          try clear hfz17_2
          try clear hfz18_0
          try clear hfz18_1
          try clear hfz18_2
          try clear hfz18_3
          try clear hfz18_4
          try clear hfz18_5
          try clear hfz18_6
          try clear hfz22_0
          try clear hfz22_1
          try clear hfz22_2
          try clear hfz22_3
          try clear hfz22_4
          try clear hfz22_5
          try clear hfz22_6
          try clear hfz8_0
          try clear hfz8_1
          try clear hfz8_2
          try clear hfz9_0
          try clear hfz9_1
          try clear hfz9_2
          try clear hfz9_3
          try clear hfz9_4
          try clear hfz9_5
          try clear hfz9_6
          try clear hx135_0
          try clear hx135_1
          try clear hx135_2
          try clear hx135_3
          try clear hx135_4
          try clear hx135_5
          try clear hx135_6
          try clear p135
          try clear q135
          obtain ⟨x9_1, x10_1, rfl, HA, HK1, HO_9, HO_132001, HO_132002, BK130, BK131, BK136, HB⟩ := hrel
          cases gk with
          | zero => exact absurd HA.out (by simp [macadamref06_goes.l0])
          | succ k1 =>
            have H := HA.out
            clear HA
            simp only [macadamref06_goes.l0] at H
            by_cases c23 : x10_1 ≤ ((rd_T56 l0_0 (l1_2.length : Int)).f1.f1)
            · rw [if_pos c23] at H
              have c23b0 : decide (x10_1 ≤ ((rd_T56 l0_0 (l1_2.length : Int)).f1.f1)) = true := decide_eq_true c23
              clear c23
              have H' := Aside0.mk H
              clear H
              have hnb24 := NB136_130.out
              have hnc24 := NB130_136.out
              have hnb25 := NB136_131.out
              have hnc25 := NB131_136.out
              have hcz26_0 : wr.cell? ⟨gb136, 0, none⟩ = some (.int .i64 ((rd_T56 l0_0 (l1_2.length : Int)).f0)) := (blk_cell BK136.out 0).trans rfl
              have hcz26_1 : wr.cell? ⟨gb136, 1, none⟩ = some (.int .i64 ((rd_T56 l0_0 (l1_2.length : Int)).f1.f0)) := (blk_cell BK136.out 1).trans rfl
              have hcz26_2 : wr.cell? ⟨gb136, 2, none⟩ = some (.int .i64 ((rd_T56 l0_0 (l1_2.length : Int)).f1.f1)) := (blk_cell BK136.out 2).trans rfl
              have hcz26_3 : wr.cell? ⟨gb136, 3, none⟩ = some (.int .i64 ((rd_T56 l0_0 (l1_2.length : Int)).f2.f0)) := (blk_cell BK136.out 3).trans rfl
              have hcz26_4 : wr.cell? ⟨gb136, 4, none⟩ = some (.int .i64 ((rd_T56 l0_0 (l1_2.length : Int)).f2.f1)) := (blk_cell BK136.out 4).trans rfl
              have hcz26_5 : wr.cell? ⟨gb136, 5, none⟩ = some (.int .i64 ((rd_T56 l0_0 (l1_2.length : Int)).f3.f0)) := (blk_cell BK136.out 5).trans rfl
              have hcz26_6 : wr.cell? ⟨gb136, 6, none⟩ = some (.int .i64 ((rd_T56 l0_0 (l1_2.length : Int)).f3.f1)) := (blk_cell BK136.out 6).trans rfl
              have hfz26_0 := blk_frozen BK136.out 0
              have hfz26_1 := blk_frozen BK136.out 1
              have hfz26_2 := blk_frozen BK136.out 2
              have hfz26_3 := blk_frozen BK136.out 3
              have hfz26_4 := blk_frozen BK136.out 4
              have hfz26_5 := blk_frozen BK136.out 5
              have hfz26_6 := blk_frozen BK136.out 6
              go_wp2
              go_loopg [9, 11] k1 (fun kq v9 v11 w' => ∃ (x9_2 : List (S92)) (x11_2 : Int), v11 = .int .i64 x11_2 ∧ Aside0 (macadamref06_goes.l1 kq a2 (l1_2.length : Int) x9_2 x10_1 x11_2 l0_0 a0_1 a0_2 a0_3 a0_4 l0_5 a0_6 a1_0 l1_1 l1_2 ((rd_T56 l0_0 (l1_2.length : Int)).f0) ((rd_T56 l0_0 (l1_2.length : Int)).f1.f0) ((rd_T56 l0_0 (l1_2.length : Int)).f1.f1) ((rd_T56 l0_0 (l1_2.length : Int)).f2.f0) ((rd_T56 l0_0 (l1_2.length : Int)).f2.f1) ((rd_T56 l0_0 (l1_2.length : Int)).f3.f0) ((rd_T56 l0_0 (l1_2.length : Int)).f3.f1) = some r) ∧ Aside0 (kq ≤ k1) ∧ Aside0 (Kd.N k92 92 w' w.heap.size (fun k_ => ((P1_1_ k_ ∨ P1_2_ k_) ∨ w.heap.size ≤ k_) ∧ k_ ≠ gb130 ∧ k_ ≠ gb131 ∧ k_ ≠ gb136) v9 x9_2) ∧ Aside0 (Kd.V (Kd.int .i64) 3 w' w.heap.size (fun k_ => ((P1_1_ k_ ∨ P1_2_ k_) ∨ w.heap.size ≤ k_) ∧ some k_ ≠ (v9 : Value).ownBlock ∧ k_ ≠ gb130 ∧ k_ ≠ gb131 ∧ k_ ≠ gb136) (.slice A1_1 l1_1.length c1_1) l1_1) ∧ Aside0 (Kd.V (Kd.int .i64) 3 w' w.heap.size (fun k_ => ((P1_1_ k_ ∨ P1_2_ k_) ∨ w.heap.size ≤ k_) ∧ some k_ ≠ (v9 : Value).ownBlock ∧ k_ ≠ gb130 ∧ k_ ≠ gb131 ∧ k_ ≠ gb136) (.slice A1_2 l1_2.length c1_2) l1_2) ∧ Aside0 (w'.heap[gb130]? = some (.cells #[(.slice (some ad135) l0_0.length c0_0), .int .i64 a0_1, .int .i64 a0_2, .int .i64 a0_3, .int .i64 a0_4, (.slice A0_5 l0_5.length c0_5), .int .i64 a0_6] 26 (0, 0))) ∧ Aside0 (w'.heap[gb131]? = some (.cells #[.int .i64 a1_0, (.slice A1_1 l1_1.length c1_1), (.slice A1_2 l1_2.length c1_2)] 92 (0, 0))) ∧ Aside0 (w'.heap[gb136]? = some (.cells #[.int .i64 ((rd_T56 l0_0 (l1_2.length : Int)).f0), .int .i64 ((rd_T56 l0_0 (l1_2.length : Int)).f1.f0), .int .i64 ((rd_T56 l0_0 (l1_2.length : Int)).f1.f1), .int .i64 ((rd_T56 l0_0 (l1_2.length : Int)).f2.f0), .int .i64 ((rd_T56 l0_0 (l1_2.length : Int)).f2.f1), .int .i64 ((rd_T56 l0_0 (l1_2.length : Int)).f3.f0), .int .i64 ((rd_T56 l0_0 (l1_2.length : Int)).f3.f1)] 56 (0, 0))) ∧ Aside0 (Below w.heap.size w w'))
              case atStart => exact ⟨(x9_1), (((rd_T56 l0_0 (l1_2.length : Int)).f2.f0)), (by first | rfl | (simp; done) | (simp [*]; done)), H', ⟨Nat.le_refl _⟩, ⟨by (with_reducible repeat (first | apply Kd.N_alloc | apply Kd.N_drewN | apply Kd.N_drew)); exact HO_9.out⟩, ⟨by (with_reducible repeat (first | apply Kd.V_alloc | apply Kd.V_drewN | apply Kd.V_drew)); exact HO_132001.out⟩, ⟨by (with_reducible repeat (first | apply Kd.V_alloc | apply Kd.V_drewN | apply Kd.V_drew)); exact HO_132002.out⟩, ⟨by (with_reducible repeat (first | refine blk_drewN ?_ _ | refine blk_drew ?_ | refine blk_alloc ?_ _)); exact BK130.out⟩, ⟨by (with_reducible repeat (first | refine blk_drewN ?_ _ | refine blk_drew ?_ | refine blk_alloc ?_ _)); exact BK131.out⟩, ⟨by (with_reducible repeat (first | refine blk_drewN ?_ _ | refine blk_drew ?_ | refine blk_alloc ?_ _)); exact BK136.out⟩, ⟨by repeat (first | (with_reducible first | exact HB.out | apply below_alloc | apply pw_below_drewN | apply below_drew1 | refine below_set ?_ GE130.out | refine below_set ?_ GE131.out | refine below_set ?_ GE136.out) | exact HB.out)⟩⟩
              case round =>
                clear H'
                try clear c1
                try clear p1
                try clear q1
                try clear hx1
                try clear c2
                try clear p2
                try clear c3
                try clear c4
                try clear c4b0
                try clear c4b1
                try clear c4b2
                try clear c7
                try clear c9
                try clear c12
                try clear c12b0
                try clear c12b1
                try clear c13
                try clear c13b0
                try clear c13b1
                try clear p13
                try clear q13
                try clear hx13
                try clear c16
                try clear c20
                try clear c21
                try clear c23
                try clear c23b0
                try clear c24
                try clear c25
                try clear hcz17_0
                try clear hcz17_1
                try clear hcz17_2
                try clear hcz18_0
                try clear hcz18_1
                try clear hcz18_2
                try clear hcz18_3
                try clear hcz18_4
                try clear hcz18_5
                try clear hcz18_6
                try clear hcz22_0
                try clear hcz22_1
                try clear hcz22_2
                try clear hcz22_3
                try clear hcz22_4
                try clear hcz22_5
                try clear hcz22_6
                try clear hcz26_0
                try clear hcz26_1
                try clear hcz26_2
                try clear hcz26_3
                try clear hcz26_4
                try clear hcz26_5
                try clear hcz26_6
                try clear hcz8_0
                try clear hcz8_1
                try clear hcz8_2
                try clear hcz9_0
                try clear hcz9_1
                try clear hcz9_2
                try clear hcz9_3
                try clear hcz9_4
                try clear hcz9_5
                try clear hcz9_6
                try clear hfz17_0
                try clear hfz17_1
                try clear hfz17_2
                try clear hfz18_0
                try clear hfz18_1
                try clear hfz18_2
                try clear hfz18_3
                try clear hfz18_4
                try clear hfz18_5
                try clear hfz18_6
                try clear hfz22_0
                try clear hfz22_1
                try clear hfz22_2
                try clear hfz22_3
                try clear hfz22_4
                try clear hfz22_5
                try clear hfz22_6
                try clear hfz26_0
                try clear hfz26_1
                try clear hfz26_2
                try clear hfz26_3
                try clear hfz26_4
                try clear hfz26_5
                try clear hfz26_6
                try clear hfz8_0
                try clear hfz8_1
                try clear hfz8_2
                try clear hfz9_0
                try clear hfz9_1
                try clear hfz9_2
                try clear hfz9_3
                try clear hfz9_4
                try clear hfz9_5
                try clear hfz9_6
                try clear hx135_0
                try clear hx135_1
                try clear hx135_2
                try clear hx135_3
                try clear hx135_4
                try clear hx135_5
                try clear hx135_6
                try clear p1
                try clear p13
                try clear p135
                try clear p2
                try clear q1
                try clear q13
                try clear q135
                obtain ⟨x9_2, x11_2, rfl, HA, HK2, HO_9, HO_132001, HO_132002, BK130, BK131, BK136, HB⟩ := hrel
                cases gk with
                | zero => exact absurd HA.out (by simp [macadamref06_goes.l1])
                | succ k2 =>
                  have H := HA.out
                  clear HA
                  simp only [macadamref06_goes.l1] at H
                  by_cases c27 : x11_2 ≤ ((rd_T56 l0_0 (l1_2.length : Int)).f2.f1)
                  · rw [if_pos c27] at H
                    have c27b0 : decide (x11_2 ≤ ((rd_T56 l0_0 (l1_2.length : Int)).f2.f1)) = true := decide_eq_true c27
                    clear c27
                    by_cases c28 : 0 ≤ a1_0
                    · rw [if_pos c28] at H
                      have c28b0 : decide (0 ≤ a1_0) = true := decide_eq_true c28
                      clear c28
                      by_cases c29 : a1_0 < 3
                      · rw [if_pos c29] at H
                        have c29b0 : decide (a1_0 < 3) = true := decide_eq_true c29
                        clear c29
                        have c30b0 := eq_true (And.intro (of_decide_eq_true (by first | (with_reducible assumption) | assumption) : 0 ≤ a1_0) (of_decide_eq_true (by first | (with_reducible assumption) | assumption) : a1_0 < 3))
                        replace H := Option.bind_eq_some_iff.mp H
                        obtain ⟨t137, A310, H⟩ := H
                        replace H : (if t137 = true then (macadamref06_goes.l2 k2 a2 (l1_2.length : Int) x9_2 x10_1 x11_2 (wrap64 ((wrap64 ((wrap64 (a2 + x10_1)) + x11_2)) + (ix3 a0_2 a0_3 a0_4 a1_0))) ((rd_T56 l0_0 (l1_2.length : Int)).f3.f0) l0_0 a0_1 a0_2 a0_3 a0_4 l0_5 a0_6 a1_0 l1_1 l1_2 ((rd_T56 l0_0 (l1_2.length : Int)).f0) ((rd_T56 l0_0 (l1_2.length : Int)).f1.f0) ((rd_T56 l0_0 (l1_2.length : Int)).f1.f1) ((rd_T56 l0_0 (l1_2.length : Int)).f2.f0) ((rd_T56 l0_0 (l1_2.length : Int)).f2.f1) ((rd_T56 l0_0 (l1_2.length : Int)).f3.f0) ((rd_T56 l0_0 (l1_2.length : Int)).f3.f1)) else (macadamref06_goes.l1 k2 a2 (l1_2.length : Int) x9_2 x10_1 (wrap64 (x11_2 + 1)) l0_0 a0_1 a0_2 a0_3 a0_4 l0_5 a0_6 a1_0 l1_1 l1_2 ((rd_T56 l0_0 (l1_2.length : Int)).f0) ((rd_T56 l0_0 (l1_2.length : Int)).f1.f0) ((rd_T56 l0_0 (l1_2.length : Int)).f1.f1) ((rd_T56 l0_0 (l1_2.length : Int)).f2.f0) ((rd_T56 l0_0 (l1_2.length : Int)).f2.f1) ((rd_T56 l0_0 (l1_2.length : Int)).f3.f0) ((rd_T56 l0_0 (l1_2.length : Int)).f3.f1))) = some r := H
                        have A31 := Aside0.mk A310
                        clear A310
                        by_cases c32 : t137 = true
                        · subst c32
                          have H1 : (macadamref06_goes.l2 k2 a2 (l1_2.length : Int) x9_2 x10_1 x11_2 (wrap64 ((wrap64 ((wrap64 (a2 + x10_1)) + x11_2)) + (ix3 a0_2 a0_3 a0_4 a1_0))) ((rd_T56 l0_0 (l1_2.length : Int)).f3.f0) l0_0 a0_1 a0_2 a0_3 a0_4 l0_5 a0_6 a1_0 l1_1 l1_2 ((rd_T56 l0_0 (l1_2.length : Int)).f0) ((rd_T56 l0_0 (l1_2.length : Int)).f1.f0) ((rd_T56 l0_0 (l1_2.length : Int)).f1.f1) ((rd_T56 l0_0 (l1_2.length : Int)).f2.f0) ((rd_T56 l0_0 (l1_2.length : Int)).f2.f1) ((rd_T56 l0_0 (l1_2.length : Int)).f3.f0) ((rd_T56 l0_0 (l1_2.length : Int)).f3.f1)) = some r := by rw [if_pos rfl] at H; exact H
                          clear H
                          have H := H1
                          clear H1
                          have H' := Aside0.mk H
                          clear H
                          have hnb33 := NB136_130.out
                          have hnc33 := NB130_136.out
                          have hnb34 := NB136_131.out
                          have hnc34 := NB131_136.out
                          have hcz35_0 : wr.cell? ⟨gb136, 0, none⟩ = some (.int .i64 ((rd_T56 l0_0 (l1_2.length : Int)).f0)) := (blk_cell BK136.out 0).trans rfl
                          have hcz35_1 : wr.cell? ⟨gb136, 1, none⟩ = some (.int .i64 ((rd_T56 l0_0 (l1_2.length : Int)).f1.f0)) := (blk_cell BK136.out 1).trans rfl
                          have hcz35_2 : wr.cell? ⟨gb136, 2, none⟩ = some (.int .i64 ((rd_T56 l0_0 (l1_2.length : Int)).f1.f1)) := (blk_cell BK136.out 2).trans rfl
                          have hcz35_3 : wr.cell? ⟨gb136, 3, none⟩ = some (.int .i64 ((rd_T56 l0_0 (l1_2.length : Int)).f2.f0)) := (blk_cell BK136.out 3).trans rfl
                          have hcz35_4 : wr.cell? ⟨gb136, 4, none⟩ = some (.int .i64 ((rd_T56 l0_0 (l1_2.length : Int)).f2.f1)) := (blk_cell BK136.out 4).trans rfl
                          have hcz35_5 : wr.cell? ⟨gb136, 5, none⟩ = some (.int .i64 ((rd_T56 l0_0 (l1_2.length : Int)).f3.f0)) := (blk_cell BK136.out 5).trans rfl
                          have hcz35_6 : wr.cell? ⟨gb136, 6, none⟩ = some (.int .i64 ((rd_T56 l0_0 (l1_2.length : Int)).f3.f1)) := (blk_cell BK136.out 6).trans rfl
                          have hfz35_0 := blk_frozen BK136.out 0
                          have hfz35_1 := blk_frozen BK136.out 1
                          have hfz35_2 := blk_frozen BK136.out 2
                          have hfz35_3 := blk_frozen BK136.out 3
                          have hfz35_4 := blk_frozen BK136.out 4
                          have hfz35_5 := blk_frozen BK136.out 5
                          have hfz35_6 := blk_frozen BK136.out 6
                          have hnb36 := NB131_130.out
                          have hnc36 := NB130_131.out
                          have hcz37_0 : wr.cell? ⟨gb131, 0, none⟩ = some (.int .i64 a1_0) := (blk_cell BK131.out 0).trans rfl
                          have hcz37_1 : wr.cell? ⟨gb131, 1, none⟩ = some (.slice A1_1 l1_1.length c1_1) := (blk_cell BK131.out 1).trans rfl
                          have hcz37_2 : wr.cell? ⟨gb131, 2, none⟩ = some (.slice A1_2 l1_2.length c1_2) := (blk_cell BK131.out 2).trans rfl
                          have hfz37_0 := blk_frozen BK131.out 0
                          have hfz37_1 := blk_frozen BK131.out 1
                          have hfz37_2 := blk_frozen BK131.out 2
                          have hcz38_0 : wr.cell? ⟨gb130, 0, none⟩ = some (.slice (some ad135) l0_0.length c0_0) := (blk_cell BK130.out 0).trans rfl
                          have hcz38_1 : wr.cell? ⟨gb130, 1, none⟩ = some (.int .i64 a0_1) := (blk_cell BK130.out 1).trans rfl
                          have hcz38_2 : wr.cell? ⟨gb130, 2, none⟩ = some (.int .i64 a0_2) := (blk_cell BK130.out 2).trans rfl
                          have hcz38_3 : wr.cell? ⟨gb130, 3, none⟩ = some (.int .i64 a0_3) := (blk_cell BK130.out 3).trans rfl
                          have hcz38_4 : wr.cell? ⟨gb130, 4, none⟩ = some (.int .i64 a0_4) := (blk_cell BK130.out 4).trans rfl
                          have hcz38_5 : wr.cell? ⟨gb130, 5, none⟩ = some (.slice A0_5 l0_5.length c0_5) := (blk_cell BK130.out 5).trans rfl
                          have hcz38_6 : wr.cell? ⟨gb130, 6, none⟩ = some (.int .i64 a0_6) := (blk_cell BK130.out 6).trans rfl
                          have hfz38_0 := blk_frozen BK130.out 0
                          have hfz38_1 := blk_frozen BK130.out 1
                          have hfz38_2 := blk_frozen BK130.out 2
                          have hfz38_3 := blk_frozen BK130.out 3
                          have hfz38_4 := blk_frozen BK130.out 4
                          have hfz38_5 := blk_frozen BK130.out 5
                          have hfz38_6 := blk_frozen BK130.out 6
                          have hcx39 : wr.cell? ⟨gb130, 2 + (a1_0 : Int).toNat, none⟩ = some (.int .i64 (ix3 a0_2 a0_3 a0_4 a1_0)) := blk_ix3 BK130.out 2 rfl rfl rfl (of_decide_eq_true (by first | (with_reducible assumption) | assumption)) (of_decide_eq_true (by first | (with_reducible assumption) | assumption))
                          go_wp2_with (first | ((with_reducible refine gate_callee (f := 106) rfl ?_); refine goesL_ (some 63) rfl rfl Tryd.func106 (by kernel_rfl) rfl #[.agg #[.slice (some ad135) l0_0.length c0_0, .int .i64 a0_1, .int .i64 a0_2, .int .i64 a0_3, .int .i64 a0_4, .slice A0_5 l0_5.length c0_5, .int .i64 a0_6], .int .i64 (l1_2.length : Int), .int .i64 (wrap64 ((wrap64 ((wrap64 (a2 + x10_1)) + x11_2)) + (ix3 a0_2 a0_3 a0_4 a1_0)))] rfl (by (try simp only [List.map_toArray, List.map_cons, List.map_nil]); first | done | rfl | (simp only [List.length_drop, List.length_take]; rfl)) ?_; (with_reducible refine (macadamref06_right.calls k2 _ _ l0_0 a0_1 a0_2 a0_3 a0_4 _ _ l0_5 a0_6 (l1_2.length : Int) (wrap64 ((wrap64 ((wrap64 (a2 + x10_1)) + x11_2)) + (ix3 a0_2 a0_3 a0_4 a1_0))) true _ ?side1 ?side2 ?side3 ?side4 A31.out).mono ?_); (case side1 => repeat (first | exact (Kd.C_below HR0_0.out HB.out) | (with_reducible refine Kd.C_alloc ?_ _) | (with_reducible refine Kd.C_drewN ?_ _) | (with_reducible refine Kd.C_drew ?_))); (case side2 => exact HC0_0.out); (case side3 => repeat (first | exact (Kd.C_below HR0_5.out HB.out) | (with_reducible refine Kd.C_alloc ?_ _) | (with_reducible refine Kd.C_drewN ?_ _) | (with_reducible refine Kd.C_drew ?_))); (case side4 => exact HC0_5.out); rintro e w40 ⟨rfl, hb⟩; refine ⟨_, rfl, ?_⟩; have n0_ := Aside0.mk (Kd.N_below (by (with_reducible repeat (first | apply Kd.N_alloc | apply Kd.N_drewN | apply Kd.N_drew)); exact HO_9.out) hb); have n1_ := Aside0.mk (Kd.V_below (by (with_reducible repeat (first | apply Kd.V_alloc | apply Kd.V_drewN | apply Kd.V_drew)); exact HO_132001.out) hb); have n2_ := Aside0.mk (Kd.V_below (by (with_reducible repeat (first | apply Kd.V_alloc | apply Kd.V_drewN | apply Kd.V_drew)); exact HO_132002.out) hb); have n3_ := Aside0.mk (blk_below (g := gb130) (o := .cells #[.slice (some ad135) l0_0.length c0_0, .int .i64 a0_1, .int .i64 a0_2, .int .i64 a0_3, .int .i64 a0_4, .slice A0_5 l0_5.length c0_5, .int .i64 a0_6] 26 (0, 0)) (by (with_reducible repeat (first | refine blk_drewN ?_ _ | refine blk_drew ?_ | refine blk_alloc ?_ _)); exact BK130.out) hb); have n4_ := Aside0.mk (blk_below (g := gb131) (o := .cells #[.int .i64 a1_0, .slice A1_1 l1_1.length c1_1, .slice A1_2 l1_2.length c1_2] 92 (0, 0)) (by (with_reducible repeat (first | refine blk_drewN ?_ _ | refine blk_drew ?_ | refine blk_alloc ?_ _)); exact BK131.out) hb); have n5_ := Aside0.mk (blk_below (g := gb136) (o := .cells #[.int .i64 ((rd_T56 l0_0 (l1_2.length : Int)).f0), .int .i64 ((rd_T56 l0_0 (l1_2.length : Int)).f1.f0), .int .i64 ((rd_T56 l0_0 (l1_2.length : Int)).f1.f1), .int .i64 ((rd_T56 l0_0 (l1_2.length : Int)).f2.f0), .int .i64 ((rd_T56 l0_0 (l1_2.length : Int)).f2.f1), .int .i64 ((rd_T56 l0_0 (l1_2.length : Int)).f3.f0), .int .i64 ((rd_T56 l0_0 (l1_2.length : Int)).f3.f1)] 56 (0, 0)) (by (with_reducible repeat (first | refine blk_drewN ?_ _ | refine blk_drew ?_ | refine blk_alloc ?_ _)); exact BK136.out) hb); have n6_ := Aside0.mk (below_step (by repeat (first | (with_reducible first | exact HB.out | apply below_alloc | apply pw_below_drewN | apply below_drew1 | refine below_set ?_ GE130.out | refine below_set ?_ GE131.out | refine below_set ?_ GE136.out) | exact HB.out)) hb); clear HO_9; clear HO_132001; clear HO_132002; clear BK130; clear BK131; clear BK136; clear HB; have HO_9 := n0_; have HO_132001 := n1_; have HO_132002 := n2_; have BK130 := n3_; have BK131 := n4_; have BK136 := n5_; have HB := n6_; clear n0_ n1_ n2_ n3_ n4_ n5_ n6_; (try clear hb); (try clear hb2); (try clear hk); (try clear hi); have hcz41_0 : w40.cell? ⟨gb136, 0, none⟩ = some (.int .i64 ((rd_T56 l0_0 (l1_2.length : Int)).f0)) := (blk_cell BK136.out 0).trans rfl; have hcz41_1 : w40.cell? ⟨gb136, 1, none⟩ = some (.int .i64 ((rd_T56 l0_0 (l1_2.length : Int)).f1.f0)) := (blk_cell BK136.out 1).trans rfl; have hcz41_2 : w40.cell? ⟨gb136, 2, none⟩ = some (.int .i64 ((rd_T56 l0_0 (l1_2.length : Int)).f1.f1)) := (blk_cell BK136.out 2).trans rfl; have hcz41_3 : w40.cell? ⟨gb136, 3, none⟩ = some (.int .i64 ((rd_T56 l0_0 (l1_2.length : Int)).f2.f0)) := (blk_cell BK136.out 3).trans rfl; have hcz41_4 : w40.cell? ⟨gb136, 4, none⟩ = some (.int .i64 ((rd_T56 l0_0 (l1_2.length : Int)).f2.f1)) := (blk_cell BK136.out 4).trans rfl; have hcz41_5 : w40.cell? ⟨gb136, 5, none⟩ = some (.int .i64 ((rd_T56 l0_0 (l1_2.length : Int)).f3.f0)) := (blk_cell BK136.out 5).trans rfl; have hcz41_6 : w40.cell? ⟨gb136, 6, none⟩ = some (.int .i64 ((rd_T56 l0_0 (l1_2.length : Int)).f3.f1)) := (blk_cell BK136.out 6).trans rfl; have hfz41_0 := blk_frozen BK136.out 0; have hfz41_1 := blk_frozen BK136.out 1; have hfz41_2 := blk_frozen BK136.out 2; have hfz41_3 := blk_frozen BK136.out 3; have hfz41_4 := blk_frozen BK136.out 4; have hfz41_5 := blk_frozen BK136.out 5; have hfz41_6 := blk_frozen BK136.out 6))
                          go_loopg [9, 13] k2 (fun kq v9 v13 w' => ∃ (x9_3 : List (S92)) (x13_3 : Int), v13 = .int .i64 x13_3 ∧ Aside0 (macadamref06_goes.l2 kq a2 (l1_2.length : Int) x9_3 x10_1 x11_2 (wrap64 ((wrap64 ((wrap64 (a2 + x10_1)) + x11_2)) + (ix3 a0_2 a0_3 a0_4 a1_0))) x13_3 l0_0 a0_1 a0_2 a0_3 a0_4 l0_5 a0_6 a1_0 l1_1 l1_2 ((rd_T56 l0_0 (l1_2.length : Int)).f0) ((rd_T56 l0_0 (l1_2.length : Int)).f1.f0) ((rd_T56 l0_0 (l1_2.length : Int)).f1.f1) ((rd_T56 l0_0 (l1_2.length : Int)).f2.f0) ((rd_T56 l0_0 (l1_2.length : Int)).f2.f1) ((rd_T56 l0_0 (l1_2.length : Int)).f3.f0) ((rd_T56 l0_0 (l1_2.length : Int)).f3.f1) = some r) ∧ Aside0 (kq ≤ k2) ∧ Aside0 (Kd.N k92 92 w' w.heap.size (fun k_ => ((P1_1_ k_ ∨ P1_2_ k_) ∨ w.heap.size ≤ k_) ∧ k_ ≠ gb130 ∧ k_ ≠ gb131 ∧ k_ ≠ gb136) v9 x9_3) ∧ Aside0 (Kd.V (Kd.int .i64) 3 w' w.heap.size (fun k_ => ((P1_1_ k_ ∨ P1_2_ k_) ∨ w.heap.size ≤ k_) ∧ some k_ ≠ (v9 : Value).ownBlock ∧ k_ ≠ gb130 ∧ k_ ≠ gb131 ∧ k_ ≠ gb136) (.slice A1_1 l1_1.length c1_1) l1_1) ∧ Aside0 (Kd.V (Kd.int .i64) 3 w' w.heap.size (fun k_ => ((P1_1_ k_ ∨ P1_2_ k_) ∨ w.heap.size ≤ k_) ∧ some k_ ≠ (v9 : Value).ownBlock ∧ k_ ≠ gb130 ∧ k_ ≠ gb131 ∧ k_ ≠ gb136) (.slice A1_2 l1_2.length c1_2) l1_2) ∧ Aside0 (w'.heap[gb130]? = some (.cells #[(.slice (some ad135) l0_0.length c0_0), .int .i64 a0_1, .int .i64 a0_2, .int .i64 a0_3, .int .i64 a0_4, (.slice A0_5 l0_5.length c0_5), .int .i64 a0_6] 26 (0, 0))) ∧ Aside0 (w'.heap[gb131]? = some (.cells #[.int .i64 a1_0, (.slice A1_1 l1_1.length c1_1), (.slice A1_2 l1_2.length c1_2)] 92 (0, 0))) ∧ Aside0 (w'.heap[gb136]? = some (.cells #[.int .i64 ((rd_T56 l0_0 (l1_2.length : Int)).f0), .int .i64 ((rd_T56 l0_0 (l1_2.length : Int)).f1.f0), .int .i64 ((rd_T56 l0_0 (l1_2.length : Int)).f1.f1), .int .i64 ((rd_T56 l0_0 (l1_2.length : Int)).f2.f0), .int .i64 ((rd_T56 l0_0 (l1_2.length : Int)).f2.f1), .int .i64 ((rd_T56 l0_0 (l1_2.length : Int)).f3.f0), .int .i64 ((rd_T56 l0_0 (l1_2.length : Int)).f3.f1)] 56 (0, 0))) ∧ Aside0 (Below w.heap.size w w'))
                          case atStart => exact ⟨(x9_2), (((rd_T56 l0_0 (l1_2.length : Int)).f3.f0)), (by first | rfl | (simp; done) | (simp [*]; done)), H', ⟨Nat.le_refl _⟩, ⟨by (with_reducible repeat (first | apply Kd.N_alloc | apply Kd.N_drewN | apply Kd.N_drew)); exact HO_9.out⟩, ⟨by (with_reducible repeat (first | apply Kd.V_alloc | apply Kd.V_drewN | apply Kd.V_drew)); exact HO_132001.out⟩, ⟨by (with_reducible repeat (first | apply Kd.V_alloc | apply Kd.V_drewN | apply Kd.V_drew)); exact HO_132002.out⟩, ⟨by (with_reducible repeat (first | refine blk_drewN ?_ _ | refine blk_drew ?_ | refine blk_alloc ?_ _)); exact BK130.out⟩, ⟨by (with_reducible repeat (first | refine blk_drewN ?_ _ | refine blk_drew ?_ | refine blk_alloc ?_ _)); exact BK131.out⟩, ⟨by (with_reducible repeat (first | refine blk_drewN ?_ _ | refine blk_drew ?_ | refine blk_alloc ?_ _)); exact BK136.out⟩, ⟨by repeat (first | (with_reducible first | exact HB.out | apply below_alloc | apply pw_below_drewN | apply below_drew1 | refine below_set ?_ GE130.out | refine below_set ?_ GE131.out | refine below_set ?_ GE136.out) | exact HB.out)⟩⟩
                          case round =>
                            clear H'
                            try clear c1
                            try clear p1
                            try clear q1
                            try clear hx1
                            try clear c2
                            try clear p2
                            try clear c3
                            try clear c4
                            try clear c4b0
                            try clear c4b1
                            try clear c4b2
                            try clear p6
                            try clear c7
                            try clear c9
                            try clear c10
                            try clear c12
                            try clear c12b0
                            try clear c12b1
                            try clear c13
                            try clear c13b0
                            try clear c13b1
                            try clear p13
                            try clear q13
                            try clear hx13
                            try clear c16
                            try clear c20
                            try clear c21
                            try clear c23
                            try clear c23b0
                            try clear c24
                            try clear c25
                            try clear c27
                            try clear c27b0
                            try clear c28
                            try clear c28b0
                            try clear c29
                            try clear c29b0
                            try clear c30
                            try clear c30b0
                            try clear c32
                            try clear c33
                            try clear c34
                            try clear c36
                            try clear hcz17_0
                            try clear hcz17_1
                            try clear hcz17_2
                            try clear hcz18_0
                            try clear hcz18_1
                            try clear hcz18_2
                            try clear hcz18_3
                            try clear hcz18_4
                            try clear hcz18_5
                            try clear hcz18_6
                            try clear hcz22_0
                            try clear hcz22_1
                            try clear hcz22_2
                            try clear hcz22_3
                            try clear hcz22_4
                            try clear hcz22_5
                            try clear hcz22_6
                            try clear hcz26_0
                            try clear hcz26_1
                            try clear hcz26_2
                            try clear hcz26_3
                            try clear hcz26_4
                            try clear hcz26_5
                            try clear hcz26_6
                            try clear hcz35_0
                            try clear hcz35_1
                            try clear hcz35_2
                            try clear hcz35_3
                            try clear hcz35_4
                            try clear hcz35_5
                            try clear hcz35_6
                            try clear hcz37_0
                            try clear hcz37_1
                            try clear hcz37_2
                            try clear hcz38_0
                            try clear hcz38_1
                            try clear hcz38_2
                            try clear hcz38_3
                            try clear hcz38_4
                            try clear hcz38_5
                            try clear hcz38_6
                            try clear hcz41_0
                            try clear hcz41_1
                            try clear hcz41_2
                            try clear hcz41_3
                            try clear hcz41_4
                            try clear hcz41_5
                            try clear hcz41_6
                            try clear hcz8_0
                            try clear hcz8_1
                            try clear hcz8_2
                            try clear hcz9_0
                            try clear hcz9_1
                            try clear hcz9_2
                            try clear hcz9_3
                            try clear hcz9_4
                            try clear hcz9_5
                            try clear hcz9_6
                            try clear hfz17_0
                            try clear hfz17_1
                            try clear hfz17_2
                            try clear hfz18_0
                            try clear hfz18_1
                            try clear hfz18_2
                            try clear hfz18_3
                            try clear hfz18_4
                            try clear hfz18_5
                            try clear hfz18_6
                            try clear hfz22_0
                            try clear hfz22_1
                            try clear hfz22_2
                            try clear hfz22_3
                            try clear hfz22_4
                            try clear hfz22_5
                            try clear hfz22_6
                            try clear hfz26_0
                            try clear hfz26_1
                            try clear hfz26_2
                            try clear hfz26_3
                            try clear hfz26_4
                            try clear hfz26_5
                            try clear hfz26_6
                            try clear hfz35_0
                            try clear hfz35_1
                            try clear hfz35_2
                            try clear hfz35_3
                            try clear hfz35_4
                            try clear hfz35_5
                            try clear hfz35_6
                            try clear hfz37_0
                            try clear hfz37_1
                            try clear hfz37_2
                            try clear hfz38_0
                            try clear hfz38_1
                            try clear hfz38_2
                            try clear hfz38_3
                            try clear hfz38_4
                            try clear hfz38_5
                            try clear hfz38_6
                            try clear hfz41_0
                            try clear hfz41_1
                            try clear hfz41_2
                            try clear hfz41_3
                            try clear hfz41_4
                            try clear hfz41_5
                            try clear hfz41_6
                            try clear hfz8_0
                            try clear hfz8_1
                            try clear hfz8_2
                            try clear hfz9_0
                            try clear hfz9_1
                            try clear hfz9_2
                            try clear hfz9_3
                            try clear hfz9_4
                            try clear hfz9_5
                            try clear hfz9_6
                            try clear hx135_0
                            try clear hx135_1
                            try clear hx135_2
                            try clear hx135_3
                            try clear hx135_4
                            try clear hx135_5
                            try clear hx135_6
                            try clear p1
                            try clear p13
                            try clear p135
                            try clear p2
                            try clear q1
                            try clear q13
                            try clear q135
                            obtain ⟨x9_3, x13_3, rfl, HA, HK3, HO_9, HO_132001, HO_132002, BK130, BK131, BK136, HB⟩ := hrel
                            cases gk with
                            | zero => exact absurd HA.out (by simp [macadamref06_goes.l2])
                            | succ k3 =>
                              have H := HA.out
                              clear HA
                              simp only [macadamref06_goes.l2] at H
                              by_cases c42 : x13_3 ≤ ((rd_T56 l0_0 (l1_2.length : Int)).f3.f1)
                              · rw [if_pos c42] at H
                                have c42b0 : decide (x13_3 ≤ ((rd_T56 l0_0 (l1_2.length : Int)).f3.f1)) = true := decide_eq_true c42
                                clear c42
                                replace H := Option.bind_eq_some_iff.mp H
                                obtain ⟨t138, A430, H⟩ := H
                                replace H : ((macadamref00_Put.f l1_2 (wrap64 ((wrap64 ((wrap64 (a2 + x10_1)) + x11_2)) + (ix3 a0_2 a0_3 a0_4 a1_0)))).bind fun t141 => ((macadamref06_goes.f k3 l0_0 a0_1 a0_2 a0_3 a0_4 l0_5 a0_6 a1_0 t138 t141 (wrap64 ((wrap64 ((wrap64 ((wrap64 (a2 + x10_1)) + x11_2)) + (ix3 a0_2 a0_3 a0_4 a1_0))) + x13_3))).bind fun t144 => (if x9_3.length + t144.length < 2513169434916 then (macadamref06_goes.l2 k3 a2 (l1_2.length : Int) (x9_3 ++ t144) x10_1 x11_2 (wrap64 ((wrap64 ((wrap64 (a2 + x10_1)) + x11_2)) + (ix3 a0_2 a0_3 a0_4 a1_0))) (wrap64 (x13_3 + 1)) l0_0 a0_1 a0_2 a0_3 a0_4 l0_5 a0_6 a1_0 l1_1 l1_2 ((rd_T56 l0_0 (l1_2.length : Int)).f0) ((rd_T56 l0_0 (l1_2.length : Int)).f1.f0) ((rd_T56 l0_0 (l1_2.length : Int)).f1.f1) ((rd_T56 l0_0 (l1_2.length : Int)).f2.f0) ((rd_T56 l0_0 (l1_2.length : Int)).f2.f1) ((rd_T56 l0_0 (l1_2.length : Int)).f3.f0) ((rd_T56 l0_0 (l1_2.length : Int)).f3.f1)) else (none)))) = some r := H
                                have A43 := Aside0.mk A430
                                clear A430
                                replace H := Option.bind_eq_some_iff.mp H
                                obtain ⟨t141, A440, H⟩ := H
                                replace H : ((macadamref06_goes.f k3 l0_0 a0_1 a0_2 a0_3 a0_4 l0_5 a0_6 a1_0 t138 t141 (wrap64 ((wrap64 ((wrap64 ((wrap64 (a2 + x10_1)) + x11_2)) + (ix3 a0_2 a0_3 a0_4 a1_0))) + x13_3))).bind fun t144 => (if x9_3.length + t144.length < 2513169434916 then (macadamref06_goes.l2 k3 a2 (l1_2.length : Int) (x9_3 ++ t144) x10_1 x11_2 (wrap64 ((wrap64 ((wrap64 (a2 + x10_1)) + x11_2)) + (ix3 a0_2 a0_3 a0_4 a1_0))) (wrap64 (x13_3 + 1)) l0_0 a0_1 a0_2 a0_3 a0_4 l0_5 a0_6 a1_0 l1_1 l1_2 ((rd_T56 l0_0 (l1_2.length : Int)).f0) ((rd_T56 l0_0 (l1_2.length : Int)).f1.f0) ((rd_T56 l0_0 (l1_2.length : Int)).f1.f1) ((rd_T56 l0_0 (l1_2.length : Int)).f2.f0) ((rd_T56 l0_0 (l1_2.length : Int)).f2.f1) ((rd_T56 l0_0 (l1_2.length : Int)).f3.f0) ((rd_T56 l0_0 (l1_2.length : Int)).f3.f1)) else (none))) = some r := H
                                have A44 := Aside0.mk A440
                                clear A440
                                replace H := Option.bind_eq_some_iff.mp H
                                obtain ⟨t144, A450, H⟩ := H
                                replace H : (if x9_3.length + t144.length < 2513169434916 then (macadamref06_goes.l2 k3 a2 (l1_2.length : Int) (x9_3 ++ t144) x10_1 x11_2 (wrap64 ((wrap64 ((wrap64 (a2 + x10_1)) + x11_2)) + (ix3 a0_2 a0_3 a0_4 a1_0))) (wrap64 (x13_3 + 1)) l0_0 a0_1 a0_2 a0_3 a0_4 l0_5 a0_6 a1_0 l1_1 l1_2 ((rd_T56 l0_0 (l1_2.length : Int)).f0) ((rd_T56 l0_0 (l1_2.length : Int)).f1.f0) ((rd_T56 l0_0 (l1_2.length : Int)).f1.f1) ((rd_T56 l0_0 (l1_2.length : Int)).f2.f0) ((rd_T56 l0_0 (l1_2.length : Int)).f2.f1) ((rd_T56 l0_0 (l1_2.length : Int)).f3.f0) ((rd_T56 l0_0 (l1_2.length : Int)).f3.f1)) else (none)) = some r := H
                                have A45 := Aside0.mk A450
                                clear A450
                                by_cases c46 : x9_3.length + t144.length < 2513169434916
                                · rw [if_pos c46] at H
                                  have LMc46 := Aside0.mk c46
                                  clear c46
                                  obtain ⟨y147, hy147⟩ : ∃ y_ : List (S92), y_ = (x9_3 ++ t144) := ⟨_, rfl⟩
                                  replace H : (macadamref06_goes.l2 k3 a2 (l1_2.length : Int) y147 x10_1 x11_2 (wrap64 ((wrap64 ((wrap64 (a2 + x10_1)) + x11_2)) + (ix3 a0_2 a0_3 a0_4 a1_0))) (wrap64 (x13_3 + 1)) l0_0 a0_1 a0_2 a0_3 a0_4 l0_5 a0_6 a1_0 l1_1 l1_2 ((rd_T56 l0_0 (l1_2.length : Int)).f0) ((rd_T56 l0_0 (l1_2.length : Int)).f1.f0) ((rd_T56 l0_0 (l1_2.length : Int)).f1.f1) ((rd_T56 l0_0 (l1_2.length : Int)).f2.f0) ((rd_T56 l0_0 (l1_2.length : Int)).f2.f1) ((rd_T56 l0_0 (l1_2.length : Int)).f3.f0) ((rd_T56 l0_0 (l1_2.length : Int)).f3.f1)) = some r := by first | (rw [hy147]; with_reducible exact H) | (have H2_ := (Option.bind_some _ _).symm.trans H; rw [hy147]; with_reducible exact H2_) | (have H2_ := (Option.bind_some _ _).symm.trans H; with_reducible exact H2_) | with_reducible exact H | (rw [hy147]; exact H) | exact H
                                  have Ny147 := Aside0.mk hy147
                                  clear hy147
                                  have H' := Aside0.mk H
                                  clear H
                                  have hnb47 := NB136_130.out
                                  have hnc47 := NB130_136.out
                                  have hnb48 := NB136_131.out
                                  have hnc48 := NB131_136.out
                                  have hcz49_0 : wr.cell? ⟨gb136, 0, none⟩ = some (.int .i64 ((rd_T56 l0_0 (l1_2.length : Int)).f0)) := (blk_cell BK136.out 0).trans rfl
                                  have hcz49_1 : wr.cell? ⟨gb136, 1, none⟩ = some (.int .i64 ((rd_T56 l0_0 (l1_2.length : Int)).f1.f0)) := (blk_cell BK136.out 1).trans rfl
                                  have hcz49_2 : wr.cell? ⟨gb136, 2, none⟩ = some (.int .i64 ((rd_T56 l0_0 (l1_2.length : Int)).f1.f1)) := (blk_cell BK136.out 2).trans rfl
                                  have hcz49_3 : wr.cell? ⟨gb136, 3, none⟩ = some (.int .i64 ((rd_T56 l0_0 (l1_2.length : Int)).f2.f0)) := (blk_cell BK136.out 3).trans rfl
                                  have hcz49_4 : wr.cell? ⟨gb136, 4, none⟩ = some (.int .i64 ((rd_T56 l0_0 (l1_2.length : Int)).f2.f1)) := (blk_cell BK136.out 4).trans rfl
                                  have hcz49_5 : wr.cell? ⟨gb136, 5, none⟩ = some (.int .i64 ((rd_T56 l0_0 (l1_2.length : Int)).f3.f0)) := (blk_cell BK136.out 5).trans rfl
                                  have hcz49_6 : wr.cell? ⟨gb136, 6, none⟩ = some (.int .i64 ((rd_T56 l0_0 (l1_2.length : Int)).f3.f1)) := (blk_cell BK136.out 6).trans rfl
                                  have hfz49_0 := blk_frozen BK136.out 0
                                  have hfz49_1 := blk_frozen BK136.out 1
                                  have hfz49_2 := blk_frozen BK136.out 2
                                  have hfz49_3 := blk_frozen BK136.out 3
                                  have hfz49_4 := blk_frozen BK136.out 4
                                  have hfz49_5 := blk_frozen BK136.out 5
                                  have hfz49_6 := blk_frozen BK136.out 6
                                  try go_wp2
                                  have n0_ := Aside0.mk (Kd.N_drew HO_9.out)
                                  have n1_ := Aside0.mk (Kd.V_drew HO_132001.out)
                                  have n2_ := Aside0.mk (Kd.V_drew HO_132002.out)
                                  have n3_ := Aside0.mk (blk_drew BK130.out)
                                  have n4_ := Aside0.mk (blk_drew BK131.out)
                                  have n5_ := Aside0.mk (blk_drew BK136.out)
                                  have n6_ := Aside0.mk (below_drew1 HB.out)
                                  clear HO_9
                                  clear HO_132001
                                  clear HO_132002
                                  clear BK130
                                  clear BK131
                                  clear BK136
                                  clear HB
                                  have HO_9 := n0_
                                  have HO_132001 := n1_
                                  have HO_132002 := n2_
                                  have BK130 := n3_
                                  have BK131 := n4_
                                  have BK136 := n5_
                                  have HB := n6_
                                  clear n0_ n1_ n2_ n3_ n4_ n5_ n6_
                                  refine start_ (n := 19) (S := fun w' => w'.cell? ⟨gb130, 0, none⟩ = some (.slice (some ad135) l0_0.length c0_0) ∧ w'.cell? ⟨gb130, 1, none⟩ = some (.int .i64 a0_1) ∧ w'.cell? ⟨gb130, 2, none⟩ = some (.int .i64 a0_2) ∧ w'.cell? ⟨gb130, 3, none⟩ = some (.int .i64 a0_3) ∧ w'.cell? ⟨gb130, 4, none⟩ = some (.int .i64 a0_4) ∧ w'.cell? ⟨gb130, 5, none⟩ = some (.slice A0_5 l0_5.length c0_5) ∧ w'.cell? ⟨gb130, 6, none⟩ = some (.int .i64 a0_6) ∧ w'.cell? ⟨gb131, 0, none⟩ = some (.int .i64 a1_0) ∧ w'.cell? ⟨gb131, 1, none⟩ = some (.slice A1_1 l1_1.length c1_1) ∧ w'.cell? ⟨gb131, 2, none⟩ = some (.slice A1_2 l1_2.length c1_2)) (ds := []) (bl 19 0) (by kernel_rfl) rfl (by kernel_rfl) ⟨(blk_cell BK130.out 0).trans rfl, (blk_cell BK130.out 1).trans rfl, (blk_cell BK130.out 2).trans rfl, (blk_cell BK130.out 3).trans rfl, (blk_cell BK130.out 4).trans rfl, (blk_cell BK130.out 5).trans rfl, (blk_cell BK130.out 6).trans rfl, (blk_cell BK131.out 0).trans rfl, (blk_cell BK131.out 1).trans rfl, (blk_cell BK131.out 2).trans rfl⟩ (fun hHeld => ?_); refine with_tabW macadamref06_goes.tab17 macadamref06_goes.bits17 (fun HT_ HW_ => ?_)
                                  generalize wr.drew = w50 at HO_9 HO_132001 HO_132002 BK130 BK131 BK136 HB hHeld ⊢
                                  refine pu_ 0 (some 75) (bl 19 1) rfl rfl (by kernel_rfl) (fun _ _ _ h => h) (by rfl) (by intro w'; go_simp; with_reducible rfl) (by simp only [nrm_]; rfl) ?_
                                  refine pu_ 2 (some 77) (bl 19 5) rfl rfl (by kernel_rfl) (fun _ _ _ h => h) (by rfl) (by intro w'; go_simp; with_reducible rfl) (by simp only [nrm_]; rfl) ?_
                                  refine pu_ 4 (some 79) (bl 19 21) rfl rfl (by kernel_rfl) (fun _ _ _ h => h) (by rfl) (by intro w'; go_simp; with_reducible rfl) (by simp only [nrm_]; rfl) ?_
                                  refine pu_ 6 (some 81) (bl 19 85) rfl rfl (by kernel_rfl) (fun _ _ _ h => h) (by rfl) (by intro w'; go_simp; with_reducible rfl) (by simp only [nrm_]; rfl) ?_
                                  refine pu_ 8 (some 83) (bl 19 341) rfl rfl (by kernel_rfl) (fun _ _ _ h => h) (by rfl) (by intro w'; go_simp; with_reducible rfl) (by simp only [nrm_]; rfl) ?_
                                  refine pu_ 10 (some 85) (bl 19 1365) rfl rfl (by kernel_rfl) (fun _ _ _ h => h) (by rfl) (by intro w'; go_simp; with_reducible rfl) (by simp only [nrm_]; rfl) ?_
                                  refine pu_ 13 (some 88) (bl 19 9557) rfl rfl (by kernel_rfl) (fun _ _ _ h => h) (by rfl) (by intro w'; go_simp; with_reducible rfl) (by simp only [nrm_]; rfl) ?_
                                  refine pu_ 14 (some 89) (bl 19 25941) rfl rfl (by kernel_rfl) (fun _ _ _ h => h) (by rfl) (by intro w'; go_simp; with_reducible rfl) (by simp only [nrm_]; rfl) ?_
                                  refine pu_ 15 (some 90) (bl 19 58709) rfl rfl (by kernel_rfl) (fun _ _ _ h => h) (by rfl) (by intro w'; go_simp; with_reducible rfl) (by simp only [nrm_]; rfl) ?_
                                  refine tk_ 1 (some 76) (bl 19 58711) rfl rfl (by kernel_rfl) (fun _ _ _ h => h) hHeld (by rfl) (by rintro w' ⟨s0, s1, s2, s3, s4, s5, s6, s7, s8, s9⟩; go_simp; with_reducible rfl) (by simp only [nrm_]; rfl) ?_
                                  refine tk_ 3 (some 78) (bl 19 58719) rfl rfl (by kernel_rfl) (fun _ _ _ h => h) hHeld (by rfl) (by rintro w' ⟨s0, s1, s2, s3, s4, s5, s6, s7, s8, s9⟩; go_simp; with_reducible rfl) (by simp only [nrm_]; rfl) ?_
                                  refine tk_ 5 (some 80) (bl 19 58751) rfl rfl (by kernel_rfl) (fun _ _ _ h => h) hHeld (by rfl) (by rintro w' ⟨s0, s1, s2, s3, s4, s5, s6, s7, s8, s9⟩; go_simp; with_reducible rfl) (by simp only [nrm_]; rfl) ?_
                                  refine tk_ 9 (some 84) (bl 19 59263) rfl rfl (by kernel_rfl) (fun _ _ _ h => h) hHeld (by rfl) (by rintro w' ⟨s0, s1, s2, s3, s4, s5, s6, s7, s8, s9⟩; go_simp; with_reducible rfl) (by simp only [nrm_]; rfl) ?_
                                  refine one_ (i := 7) (N := some 82) (bl 19 59391) rfl rfl (one_of HT_.out (by kernel_rfl)) (by decide) (fun K hK => ?_)
                                  refine goes_ Tryd.func107 (by kernel_rfl) rfl #[.slice A1_1 l1_1.length c1_1, .int .i64 x11_2] (by rfl) rfl rfl (by (try simp only [List.map_toArray, List.map_cons, List.map_nil]); first | done | rfl | (simp only [List.length_drop, List.length_take]; rfl)) ?_
                                  with_reducible refine (macadamref00_Put.calls _ _ l1_1 x11_2 t138 _ ?side1 ?side2 A43.out).mono ?_
                                  (case side1 => repeat (first | exact (Kd.V_reads' HO_132001.out).2.2 | (with_reducible refine Kd.C_alloc ?_ _) | (with_reducible refine Kd.C_drewN ?_ _) | (with_reducible refine Kd.C_drew ?_)))
                                  (case side2 => exact (Kd.V_reads' HO_132001.out).2.1)
                                  rintro e w51 ⟨v139, rfl, ho0, hb⟩
                                  refine ⟨_, rfl, ?_⟩
                                  have n0_ := Aside0.mk (Kd.N_elder' (by (with_reducible repeat (first | apply Kd.N_alloc | apply Kd.N_drewN | apply Kd.N_drew)); exact HO_9.out) (Kd.R_base ho0) hb)
                                  have n1_ := Aside0.mk (Kd.V_elder' (by (with_reducible repeat (first | apply Kd.V_alloc | apply Kd.V_drewN | apply Kd.V_drew)); exact HO_132001.out) (Kd.R_base ho0) hb)
                                  have n2_ := Aside0.mk (Kd.V_elder' (by (with_reducible repeat (first | apply Kd.V_alloc | apply Kd.V_drewN | apply Kd.V_drew)); exact HO_132002.out) (Kd.R_base ho0) hb)
                                  have n3_ := Aside0.mk (Kd.R_lower (Kd.R_newM (M := fun k_ => (w.heap.size ≤ k_)) ho0 (below_size (by repeat (first | (with_reducible first | exact HB.out | apply below_alloc | apply pw_below_drewN | apply below_drew1 | refine below_set ?_ GE130.out | refine below_set ?_ GE131.out | refine below_set ?_ GE136.out) | exact HB.out))) (fun k_ h_ => h_)) (below_size (by repeat (first | (with_reducible first | exact HB.out | apply below_alloc | apply pw_below_drewN | apply below_drew1 | refine below_set ?_ GE130.out | refine below_set ?_ GE131.out | refine below_set ?_ GE136.out) | exact HB.out))))
                                  have n4_ := Aside0.mk (blk_below (g := gb130) (o := .cells #[.slice (some ad135) l0_0.length c0_0, .int .i64 a0_1, .int .i64 a0_2, .int .i64 a0_3, .int .i64 a0_4, .slice A0_5 l0_5.length c0_5, .int .i64 a0_6] 26 (0, 0)) (by (with_reducible repeat (first | refine blk_drewN ?_ _ | refine blk_drew ?_ | refine blk_alloc ?_ _)); exact BK130.out) hb)
                                  have n5_ := Aside0.mk (blk_below (g := gb131) (o := .cells #[.int .i64 a1_0, .slice A1_1 l1_1.length c1_1, .slice A1_2 l1_2.length c1_2] 92 (0, 0)) (by (with_reducible repeat (first | refine blk_drewN ?_ _ | refine blk_drew ?_ | refine blk_alloc ?_ _)); exact BK131.out) hb)
                                  have n6_ := Aside0.mk (blk_below (g := gb136) (o := .cells #[.int .i64 ((rd_T56 l0_0 (l1_2.length : Int)).f0), .int .i64 ((rd_T56 l0_0 (l1_2.length : Int)).f1.f0), .int .i64 ((rd_T56 l0_0 (l1_2.length : Int)).f1.f1), .int .i64 ((rd_T56 l0_0 (l1_2.length : Int)).f2.f0), .int .i64 ((rd_T56 l0_0 (l1_2.length : Int)).f2.f1), .int .i64 ((rd_T56 l0_0 (l1_2.length : Int)).f3.f0), .int .i64 ((rd_T56 l0_0 (l1_2.length : Int)).f3.f1)] 56 (0, 0)) (by (with_reducible repeat (first | refine blk_drewN ?_ _ | refine blk_drew ?_ | refine blk_alloc ?_ _)); exact BK136.out) hb)
                                  have n7_ := Aside0.mk (below_step (by repeat (first | (with_reducible first | exact HB.out | apply below_alloc | apply pw_below_drewN | apply below_drew1 | refine below_set ?_ GE130.out | refine below_set ?_ GE131.out | refine below_set ?_ GE136.out) | exact HB.out)) hb)
                                  clear HO_9
                                  clear HO_132001
                                  clear HO_132002
                                  clear BK130
                                  clear BK131
                                  clear BK136
                                  clear HB
                                  have HO_9 := n0_
                                  have HO_132001 := n1_
                                  have HO_132002 := n2_
                                  have HO140 := n3_
                                  have BK130 := n4_
                                  have BK131 := n5_
                                  have BK136 := n6_
                                  have HB := n7_
                                  clear n0_ n1_ n2_ n3_ n4_ n5_ n6_ n7_
                                  (try clear hb)
                                  (try clear hb2)
                                  (try clear hk)
                                  (try clear hi)
                                  (try clear ho0)
                                  refine hK.out _ _ ⟨(blk_cell BK130.out 0).trans rfl, (blk_cell BK130.out 1).trans rfl, (blk_cell BK130.out 2).trans rfl, (blk_cell BK130.out 3).trans rfl, (blk_cell BK130.out 4).trans rfl, (blk_cell BK130.out 5).trans rfl, (blk_cell BK130.out 6).trans rfl, (blk_cell BK131.out 0).trans rfl, (blk_cell BK131.out 1).trans rfl, (blk_cell BK131.out 2).trans rfl⟩ (fun hHeld => ?_)
                                  clear hK K
                                  refine norm_ (a' := ?_) ?_ ?_
                                  rotate_left
                                  · show Act.put _ (some 82) _ = _
                                    simp only [nrm_]
                                    rfl
                                  refine one_ (i := 11) (N := some 86) (bl 19 61439) rfl rfl (one_of HT_.out (by kernel_rfl)) (by decide) (fun K hK => ?_)
                                  refine goes_ Tryd.func107 (by kernel_rfl) rfl #[.slice A1_2 l1_2.length c1_2, .int .i64 (wrap64 ((wrap64 ((wrap64 (a2 + x10_1)) + x11_2)) + (ix3 a0_2 a0_3 a0_4 a1_0)))] (by rfl) rfl rfl (by (try simp only [List.map_toArray, List.map_cons, List.map_nil]); first | done | rfl | (simp only [List.length_drop, List.length_take]; rfl)) ?_
                                  with_reducible refine (macadamref00_Put.calls _ _ l1_2 (wrap64 ((wrap64 ((wrap64 (a2 + x10_1)) + x11_2)) + (ix3 a0_2 a0_3 a0_4 a1_0))) t141 _ ?side1 ?side2 A44.out).mono ?_
                                  (case side1 => repeat (first | exact (Kd.V_reads' HO_132002.out).2.2 | (with_reducible refine Kd.C_alloc ?_ _) | (with_reducible refine Kd.C_drewN ?_ _) | (with_reducible refine Kd.C_drew ?_)))
                                  (case side2 => exact (Kd.V_reads' HO_132002.out).2.1)
                                  rintro e w52 ⟨v142, rfl, ho0, hb⟩
                                  refine ⟨_, rfl, ?_⟩
                                  have n0_ := Aside0.mk (Kd.N_elder' (by (with_reducible repeat (first | apply Kd.N_alloc | apply Kd.N_drewN | apply Kd.N_drew)); exact HO_9.out) (Kd.R_base ho0) hb)
                                  have n1_ := Aside0.mk (Kd.V_elder' (by (with_reducible repeat (first | apply Kd.V_alloc | apply Kd.V_drewN | apply Kd.V_drew)); exact HO_132001.out) (Kd.R_base ho0) hb)
                                  have n2_ := Aside0.mk (Kd.V_elder' (by (with_reducible repeat (first | apply Kd.V_alloc | apply Kd.V_drewN | apply Kd.V_drew)); exact HO_132002.out) (Kd.R_base ho0) hb)
                                  have n3_ := Aside0.mk (Kd.R_elder' (by (with_reducible repeat (first | apply Kd.R_alloc | apply Kd.R_drewN | apply Kd.R_drew)); exact HO140.out) (Kd.R_base ho0) hb)
                                  have n4_ := Aside0.mk (Kd.R_lower (Kd.R_new' (Kd.R_newM (M := fun k_ => (w.heap.size ≤ k_)) ho0 (below_size (by repeat (first | (with_reducible first | exact HB.out | apply below_alloc | apply pw_below_drewN | apply below_drew1 | refine below_set ?_ GE130.out | refine below_set ?_ GE131.out | refine below_set ?_ GE136.out) | exact HB.out))) (fun k_ h_ => h_)) (Kd.R_lt (by (with_reducible repeat (first | apply Kd.R_alloc | apply Kd.R_drewN | apply Kd.R_drew)); exact HO140.out))) (below_size (by repeat (first | (with_reducible first | exact HB.out | apply below_alloc | apply pw_below_drewN | apply below_drew1 | refine below_set ?_ GE130.out | refine below_set ?_ GE131.out | refine below_set ?_ GE136.out) | exact HB.out))))
                                  have n5_ := Aside0.mk (blk_below (g := gb130) (o := .cells #[.slice (some ad135) l0_0.length c0_0, .int .i64 a0_1, .int .i64 a0_2, .int .i64 a0_3, .int .i64 a0_4, .slice A0_5 l0_5.length c0_5, .int .i64 a0_6] 26 (0, 0)) (by (with_reducible repeat (first | refine blk_drewN ?_ _ | refine blk_drew ?_ | refine blk_alloc ?_ _)); exact BK130.out) hb)
                                  have n6_ := Aside0.mk (blk_below (g := gb131) (o := .cells #[.int .i64 a1_0, .slice A1_1 l1_1.length c1_1, .slice A1_2 l1_2.length c1_2] 92 (0, 0)) (by (with_reducible repeat (first | refine blk_drewN ?_ _ | refine blk_drew ?_ | refine blk_alloc ?_ _)); exact BK131.out) hb)
                                  have n7_ := Aside0.mk (blk_below (g := gb136) (o := .cells #[.int .i64 ((rd_T56 l0_0 (l1_2.length : Int)).f0), .int .i64 ((rd_T56 l0_0 (l1_2.length : Int)).f1.f0), .int .i64 ((rd_T56 l0_0 (l1_2.length : Int)).f1.f1), .int .i64 ((rd_T56 l0_0 (l1_2.length : Int)).f2.f0), .int .i64 ((rd_T56 l0_0 (l1_2.length : Int)).f2.f1), .int .i64 ((rd_T56 l0_0 (l1_2.length : Int)).f3.f0), .int .i64 ((rd_T56 l0_0 (l1_2.length : Int)).f3.f1)] 56 (0, 0)) (by (with_reducible repeat (first | refine blk_drewN ?_ _ | refine blk_drew ?_ | refine blk_alloc ?_ _)); exact BK136.out) hb)
                                  have n8_ := Aside0.mk (below_step (by repeat (first | (with_reducible first | exact HB.out | apply below_alloc | apply pw_below_drewN | apply below_drew1 | refine below_set ?_ GE130.out | refine below_set ?_ GE131.out | refine below_set ?_ GE136.out) | exact HB.out)) hb)
                                  clear HO_9
                                  clear HO_132001
                                  clear HO_132002
                                  clear HO140
                                  clear BK130
                                  clear BK131
                                  clear BK136
                                  clear HB
                                  have HO_9 := n0_
                                  have HO_132001 := n1_
                                  have HO_132002 := n2_
                                  have HO140 := n3_
                                  have HO143 := n4_
                                  have BK130 := n5_
                                  have BK131 := n6_
                                  have BK136 := n7_
                                  have HB := n8_
                                  clear n0_ n1_ n2_ n3_ n4_ n5_ n6_ n7_ n8_
                                  (try clear hb)
                                  (try clear hb2)
                                  (try clear hk)
                                  (try clear hi)
                                  (try clear ho0)
                                  obtain ⟨Ao53, co53, eo53⟩ := Kd.R_slice HO143.out
                                  (first | subst eo53 | (injection eo53 with f1_ f2_ f3_; have f4_ := f1_.symm; have f5_ := f3_.symm; clear f1_ f2_ f3_; subst f4_; subst f5_))
                                  obtain ⟨Ao54, co54, eo54⟩ := Kd.R_slice HO140.out
                                  (first | subst eo54 | (injection eo54 with f1_ f2_ f3_; have f4_ := f1_.symm; have f5_ := f3_.symm; clear f1_ f2_ f3_; subst f4_; subst f5_))
                                  refine hK.out _ _ ⟨(blk_cell BK130.out 0).trans rfl, (blk_cell BK130.out 1).trans rfl, (blk_cell BK130.out 2).trans rfl, (blk_cell BK130.out 3).trans rfl, (blk_cell BK130.out 4).trans rfl, (blk_cell BK130.out 5).trans rfl, (blk_cell BK130.out 6).trans rfl, (blk_cell BK131.out 0).trans rfl, (blk_cell BK131.out 1).trans rfl, (blk_cell BK131.out 2).trans rfl⟩ (fun hHeld => ?_)
                                  clear hK K
                                  refine norm_ (a' := ?_) ?_ ?_
                                  rotate_left
                                  · show Act.put _ (some 86) _ = _
                                    simp only [nrm_]
                                    rfl
                                  refine pu_ 12 (some 87) (bl 19 65535) rfl rfl (by kernel_rfl) (fun _ _ _ h => h) (by rfl) (by intro w'; go_simp; with_reducible rfl) (by simp only [nrm_]; rfl) ?_
                                  refine one_ (i := 16) (N := some 91) (bl 19 131071) rfl rfl (one_of HT_.out (by kernel_rfl)) (by decide) (fun K hK => ?_)
                                  refine goes_ Tryd.func96 (by kernel_rfl) rfl #[.agg #[.slice (some ad135) l0_0.length c0_0, .int .i64 a0_1, .int .i64 a0_2, .int .i64 a0_3, .int .i64 a0_4, .slice A0_5 l0_5.length c0_5, .int .i64 a0_6], .agg #[.int .i64 a1_0, .slice Ao54 t138.length co54, .slice Ao53 t141.length co53], .int .i64 (wrap64 ((wrap64 ((wrap64 ((wrap64 (a2 + x10_1)) + x11_2)) + (ix3 a0_2 a0_3 a0_4 a1_0))) + x13_3))] (by rfl) rfl rfl (by (try simp only [List.map_toArray, List.map_cons, List.map_nil]); first | done | rfl | (simp only [List.length_drop, List.length_take]; rfl)) ?_
                                  with_reducible refine (ih k3 (by have := HK1.out; have := HK2.out; have := HK3.out; omega) _ _ l0_0 a0_1 a0_2 a0_3 a0_4 _ _ l0_5 a0_6 a1_0 (fun k_ => some k_ = (.slice Ao54 t138.length co54 : Value).ownBlock) _ _ t138 (fun k_ => some k_ = (.slice Ao53 t141.length co53 : Value).ownBlock) _ _ t141 (wrap64 ((wrap64 ((wrap64 ((wrap64 (a2 + x10_1)) + x11_2)) + (ix3 a0_2 a0_3 a0_4 a1_0))) + x13_3)) t144 _ ?side1 ?side2 ?side3 ?side4 ?side5 ?side6 A45.out).mono ?_
                                  (case side1 => repeat (first | exact (Kd.C_below HR0_0.out HB.out) | (with_reducible refine Kd.C_alloc ?_ _) | (with_reducible refine Kd.C_drewN ?_ _) | (with_reducible refine Kd.C_drew ?_)))
                                  (case side2 => exact HC0_0.out)
                                  (case side3 => repeat (first | exact (Kd.C_below HR0_5.out HB.out) | (with_reducible refine Kd.C_alloc ?_ _) | (with_reducible refine Kd.C_drewN ?_ _) | (with_reducible refine Kd.C_drew ?_)))
                                  (case side4 => exact HC0_5.out)
                                  (case side5 => exact Kd.R_V (Kd.R_tight rfl (Kd.R_types (Kd.R_types (Kd.R_types (Kd.R_apart' (HO140.out) (Kd.N_typed HO_9.out) (by decide)) BK130.out (by decide)) BK131.out (by decide)) BK136.out (by decide))))
                                  (case side6 => exact Kd.R_V (Kd.R_tight rfl (Kd.R_types (Kd.R_types (Kd.R_types (Kd.R_apart' (HO143.out) (Kd.N_typed HO_9.out) (by decide)) BK130.out (by decide)) BK131.out (by decide)) BK136.out (by decide))))
                                  rintro e w55 ⟨v145, rfl, ho0, hb⟩
                                  refine ⟨_, rfl, ?_⟩
                                  have n0_ := Aside0.mk (Kd.N_elder' (by (with_reducible repeat (first | apply Kd.N_alloc | apply Kd.N_drewN | apply Kd.N_drew)); exact HO_9.out) (Kd.N_base ho0) hb)
                                  have n1_ := Aside0.mk (Kd.V_elder' (by (with_reducible repeat (first | apply Kd.V_alloc | apply Kd.V_drewN | apply Kd.V_drew)); exact HO_132001.out) (Kd.N_base ho0) hb)
                                  have n2_ := Aside0.mk (Kd.V_elder' (by (with_reducible repeat (first | apply Kd.V_alloc | apply Kd.V_drewN | apply Kd.V_drew)); exact HO_132002.out) (Kd.N_base ho0) hb)
                                  have n3_ := Aside0.mk (Kd.R_below (by (with_reducible repeat (first | apply Kd.R_alloc | apply Kd.R_drewN | apply Kd.R_drew)); exact HO140.out) hb)
                                  have n4_ := Aside0.mk (Kd.R_below (by (with_reducible repeat (first | apply Kd.R_alloc | apply Kd.R_drewN | apply Kd.R_drew)); exact HO143.out) hb)
                                  have n5_ := Aside0.mk (Kd.N_lower (Kd.N_mono (ok' := fun k_ => ((P1_1_ k_ ∨ P1_2_ k_) ∨ w.heap.size ≤ k_) ∧ some k_ ≠ (u9 : Value).ownBlock ∧ k_ ≠ gb130 ∧ k_ ≠ gb131 ∧ k_ ≠ gb136) ho0 (fun k_ hk_ => ⟨Or.elim hk_ (fun hs_ => Or.elim hs_ (fun hs_ => (.inr (((Kd.R_types (Kd.R_types (Kd.R_types (Kd.R_apart' (HO140.out) (Kd.N_typed HO_9.out) (by decide)) BK130.out (by decide)) BK131.out (by decide)) BK136.out (by decide)).1 k_ hs_.symm).1.1.1.1.1.1))) (fun hs_ => (.inr (((Kd.R_types (Kd.R_types (Kd.R_types (Kd.R_apart' (HO143.out) (Kd.N_typed HO_9.out) (by decide)) BK130.out (by decide)) BK131.out (by decide)) BK136.out (by decide)).1 k_ hs_.symm).1.1.1.1.1.1)))) (fun hn_ => (.inr (Nat.le_trans (below_size (by repeat (first | (with_reducible first | exact HB.out | apply below_alloc | apply pw_below_drewN | apply below_drew1 | refine below_set ?_ GE130.out | refine below_set ?_ GE131.out | refine below_set ?_ GE136.out) | exact HB.out))) hn_))), Or.elim hk_ (fun hs_ => Or.elim hs_ (fun hs_ => ((Kd.R_types (Kd.R_types (Kd.R_types (Kd.R_apart' (HO140.out) (Kd.N_typed HO_9.out) (by decide)) BK130.out (by decide)) BK131.out (by decide)) BK136.out (by decide)).1 k_ hs_.symm).1.1.1.2) (fun hs_ => ((Kd.R_types (Kd.R_types (Kd.R_types (Kd.R_apart' (HO143.out) (Kd.N_typed HO_9.out) (by decide)) BK130.out (by decide)) BK131.out (by decide)) BK136.out (by decide)).1 k_ hs_.symm).1.1.1.2)) (fun hn_ => (Kd.fresh' (Kd.N_lt (by (with_reducible repeat (first | apply Kd.N_alloc | apply Kd.N_drewN | apply Kd.N_drew)); exact HO_9.out)) k_ hn_)), Or.elim hk_ (fun hs_ => Or.elim hs_ (fun hs_ => ((Kd.R_types (Kd.R_types (Kd.R_types (Kd.R_apart' (HO140.out) (Kd.N_typed HO_9.out) (by decide)) BK130.out (by decide)) BK131.out (by decide)) BK136.out (by decide)).1 k_ hs_.symm).1.1.2) (fun hs_ => ((Kd.R_types (Kd.R_types (Kd.R_types (Kd.R_apart' (HO143.out) (Kd.N_typed HO_9.out) (by decide)) BK130.out (by decide)) BK131.out (by decide)) BK136.out (by decide)).1 k_ hs_.symm).1.1.2)) (fun hn_ => (Kd.freshB (g := gb130) (o := .cells #[.slice (some ad135) l0_0.length c0_0, .int .i64 a0_1, .int .i64 a0_2, .int .i64 a0_3, .int .i64 a0_4, .slice A0_5 l0_5.length c0_5, .int .i64 a0_6] 26 (0, 0)) (by (with_reducible repeat (first | refine blk_drewN ?_ _ | refine blk_drew ?_ | refine blk_alloc ?_ _)); exact BK130.out) k_ hn_)), Or.elim hk_ (fun hs_ => Or.elim hs_ (fun hs_ => ((Kd.R_types (Kd.R_types (Kd.R_types (Kd.R_apart' (HO140.out) (Kd.N_typed HO_9.out) (by decide)) BK130.out (by decide)) BK131.out (by decide)) BK136.out (by decide)).1 k_ hs_.symm).1.2) (fun hs_ => ((Kd.R_types (Kd.R_types (Kd.R_types (Kd.R_apart' (HO143.out) (Kd.N_typed HO_9.out) (by decide)) BK130.out (by decide)) BK131.out (by decide)) BK136.out (by decide)).1 k_ hs_.symm).1.2)) (fun hn_ => (Kd.freshB (g := gb131) (o := .cells #[.int .i64 a1_0, .slice A1_1 l1_1.length c1_1, .slice A1_2 l1_2.length c1_2] 92 (0, 0)) (by (with_reducible repeat (first | refine blk_drewN ?_ _ | refine blk_drew ?_ | refine blk_alloc ?_ _)); exact BK131.out) k_ hn_)), Or.elim hk_ (fun hs_ => Or.elim hs_ (fun hs_ => ((Kd.R_types (Kd.R_types (Kd.R_types (Kd.R_apart' (HO140.out) (Kd.N_typed HO_9.out) (by decide)) BK130.out (by decide)) BK131.out (by decide)) BK136.out (by decide)).1 k_ hs_.symm).2) (fun hs_ => ((Kd.R_types (Kd.R_types (Kd.R_types (Kd.R_apart' (HO143.out) (Kd.N_typed HO_9.out) (by decide)) BK130.out (by decide)) BK131.out (by decide)) BK136.out (by decide)).1 k_ hs_.symm).2)) (fun hn_ => (Kd.freshB (g := gb136) (o := .cells #[.int .i64 ((rd_T56 l0_0 (l1_2.length : Int)).f0), .int .i64 ((rd_T56 l0_0 (l1_2.length : Int)).f1.f0), .int .i64 ((rd_T56 l0_0 (l1_2.length : Int)).f1.f1), .int .i64 ((rd_T56 l0_0 (l1_2.length : Int)).f2.f0), .int .i64 ((rd_T56 l0_0 (l1_2.length : Int)).f2.f1), .int .i64 ((rd_T56 l0_0 (l1_2.length : Int)).f3.f0), .int .i64 ((rd_T56 l0_0 (l1_2.length : Int)).f3.f1)] 56 (0, 0)) (by (with_reducible repeat (first | refine blk_drewN ?_ _ | refine blk_drew ?_ | refine blk_alloc ?_ _)); exact BK136.out) k_ hn_))⟩)) (below_size (by repeat (first | (with_reducible first | exact HB.out | apply below_alloc | apply pw_below_drewN | apply below_drew1 | refine below_set ?_ GE130.out | refine below_set ?_ GE131.out | refine below_set ?_ GE136.out) | exact HB.out))))
                                  have n6_ := Aside0.mk (blk_below (g := gb130) (o := .cells #[.slice (some ad135) l0_0.length c0_0, .int .i64 a0_1, .int .i64 a0_2, .int .i64 a0_3, .int .i64 a0_4, .slice A0_5 l0_5.length c0_5, .int .i64 a0_6] 26 (0, 0)) (by (with_reducible repeat (first | refine blk_drewN ?_ _ | refine blk_drew ?_ | refine blk_alloc ?_ _)); exact BK130.out) hb)
                                  have n7_ := Aside0.mk (blk_below (g := gb131) (o := .cells #[.int .i64 a1_0, .slice A1_1 l1_1.length c1_1, .slice A1_2 l1_2.length c1_2] 92 (0, 0)) (by (with_reducible repeat (first | refine blk_drewN ?_ _ | refine blk_drew ?_ | refine blk_alloc ?_ _)); exact BK131.out) hb)
                                  have n8_ := Aside0.mk (blk_below (g := gb136) (o := .cells #[.int .i64 ((rd_T56 l0_0 (l1_2.length : Int)).f0), .int .i64 ((rd_T56 l0_0 (l1_2.length : Int)).f1.f0), .int .i64 ((rd_T56 l0_0 (l1_2.length : Int)).f1.f1), .int .i64 ((rd_T56 l0_0 (l1_2.length : Int)).f2.f0), .int .i64 ((rd_T56 l0_0 (l1_2.length : Int)).f2.f1), .int .i64 ((rd_T56 l0_0 (l1_2.length : Int)).f3.f0), .int .i64 ((rd_T56 l0_0 (l1_2.length : Int)).f3.f1)] 56 (0, 0)) (by (with_reducible repeat (first | refine blk_drewN ?_ _ | refine blk_drew ?_ | refine blk_alloc ?_ _)); exact BK136.out) hb)
                                  have n9_ := Aside0.mk (below_step (by repeat (first | (with_reducible first | exact HB.out | apply below_alloc | apply pw_below_drewN | apply below_drew1 | refine below_set ?_ GE130.out | refine below_set ?_ GE131.out | refine below_set ?_ GE136.out) | exact HB.out)) hb)
                                  clear HO_9
                                  clear HO_132001
                                  clear HO_132002
                                  clear HO140
                                  clear HO143
                                  clear BK130
                                  clear BK131
                                  clear BK136
                                  clear HB
                                  have HO_9 := n0_
                                  have HO_132001 := n1_
                                  have HO_132002 := n2_
                                  have HO140 := n3_
                                  have HO143 := n4_
                                  have HO146 := n5_
                                  have BK130 := n6_
                                  have BK131 := n7_
                                  have BK136 := n8_
                                  have HB := n9_
                                  clear n0_ n1_ n2_ n3_ n4_ n5_ n6_ n7_ n8_ n9_
                                  (try clear hb)
                                  (try clear hb2)
                                  (try clear hk)
                                  (try clear hi)
                                  (try clear ho0)
                                  obtain ⟨Ao57, co57, eo57⟩ := Kd.N_slice HO146.out
                                  (first | subst eo57 | (injection eo57 with f1_ f2_ f3_; have f4_ := f1_.symm; have f5_ := f3_.symm; clear f1_ f2_ f3_; subst f4_; subst f5_))
                                  refine hK.out _ _ ⟨(blk_cell BK130.out 0).trans rfl, (blk_cell BK130.out 1).trans rfl, (blk_cell BK130.out 2).trans rfl, (blk_cell BK130.out 3).trans rfl, (blk_cell BK130.out 4).trans rfl, (blk_cell BK130.out 5).trans rfl, (blk_cell BK130.out 6).trans rfl, (blk_cell BK131.out 0).trans rfl, (blk_cell BK131.out 1).trans rfl, (blk_cell BK131.out 2).trans rfl⟩ (fun hHeld => ?_)
                                  clear hK K
                                  refine norm_ (a' := ?_) ?_ ?_
                                  rotate_left
                                  · show Act.put _ (some 91) _ = _
                                    simp only [nrm_]
                                    rfl
                                  refine one_ (i := 17) (N := some 92) (bl 19 262143) rfl rfl (one_of HT_.out (by kernel_rfl)) (by decide) (fun K hK => ?_)
                                  refine Kd.N_append_rows_step k92 (w0 := w) w.heap.size (by rfl) (.tmp 75) (.tmp 91) 81 92 (.agg #[(.int .i64 0), (.slice none 0 0), (.slice none 0 0)]) 56 rfl Tryd.underlying81 info92 rfl (by decide) (by omega) u9 x9_3 t144 _ _ _ (fun k_ => ((P1_1_ k_ ∨ P1_2_ k_) ∨ w.heap.size ≤ k_) ∧ k_ ≠ gb130 ∧ k_ ≠ gb131 ∧ k_ ≠ gb136) (fun k_ => ((fun k_ => ((P1_1_ k_ ∨ P1_2_ k_) ∨ w.heap.size ≤ k_) ∧ k_ ≠ gb130 ∧ k_ ≠ gb131 ∧ k_ ≠ gb136)) k_ ∧ some k_ ≠ (u9 : Value).ownBlock) rfl rfl ?aO ?aR (fun _ hk => hk) ?aF ?aB ?aS ?aL ?_
                                  (case aR => exact (by skip; exact Kd.N_F (Kd.N_mono (ok' := (fun k_ => ((fun k_ => ((P1_1_ k_ ∨ P1_2_ k_) ∨ w.heap.size ≤ k_) ∧ k_ ≠ gb130 ∧ k_ ≠ gb131 ∧ k_ ≠ gb136)) k_ ∧ some k_ ≠ (u9 : Value).ownBlock)) (HO146.out) (fun k_ hk => ⟨⟨hk.1, ⟨hk.2.2.1, ⟨hk.2.2.2.1, hk.2.2.2.2⟩⟩⟩, hk.2.1⟩))))
                                  (case aB => exact (by repeat (first | (with_reducible first | exact HB.out | apply below_alloc | apply pw_below_drewN | apply below_drew1 | refine below_set ?_ GE130.out | refine below_set ?_ GE131.out | refine below_set ?_ GE136.out) | exact HB.out)))
                                  (case aF => exact (fun k_ hk => ⟨(.inr (Nat.le_trans (below_size (by repeat (first | (with_reducible first | exact HB.out | apply below_alloc | apply pw_below_drewN | apply below_drew1 | refine below_set ?_ GE130.out | refine below_set ?_ GE131.out | refine below_set ?_ GE136.out) | exact HB.out))) hk)), Kd.freshB (g := gb130) (o := .cells #[.slice (some ad135) l0_0.length c0_0, .int .i64 a0_1, .int .i64 a0_2, .int .i64 a0_3, .int .i64 a0_4, .slice A0_5 l0_5.length c0_5, .int .i64 a0_6] 26 (0, 0)) (by (with_reducible repeat (first | refine blk_drewN ?_ _ | refine blk_drew ?_ | refine blk_alloc ?_ _)); exact BK130.out) k_ hk, Kd.freshB (g := gb131) (o := .cells #[.int .i64 a1_0, .slice A1_1 l1_1.length c1_1, .slice A1_2 l1_2.length c1_2] 92 (0, 0)) (by (with_reducible repeat (first | refine blk_drewN ?_ _ | refine blk_drew ?_ | refine blk_alloc ?_ _)); exact BK131.out) k_ hk, Kd.freshB (g := gb136) (o := .cells #[.int .i64 ((rd_T56 l0_0 (l1_2.length : Int)).f0), .int .i64 ((rd_T56 l0_0 (l1_2.length : Int)).f1.f0), .int .i64 ((rd_T56 l0_0 (l1_2.length : Int)).f1.f1), .int .i64 ((rd_T56 l0_0 (l1_2.length : Int)).f2.f0), .int .i64 ((rd_T56 l0_0 (l1_2.length : Int)).f2.f1), .int .i64 ((rd_T56 l0_0 (l1_2.length : Int)).f3.f0), .int .i64 ((rd_T56 l0_0 (l1_2.length : Int)).f3.f1)] 56 (0, 0)) (by (with_reducible repeat (first | refine blk_drewN ?_ _ | refine blk_drew ?_ | refine blk_alloc ?_ _)); exact BK136.out) k_ hk⟩))
                                  (case aO => exact (by (with_reducible repeat (first | apply Kd.N_alloc | apply Kd.N_drewN | apply Kd.N_drew)); exact Kd.N_mono HO_9.out (fun _ hk => ⟨hk.1.1.1.1, ⟨hk.1.1.1.2.1, ⟨hk.1.1.1.2.2.1, hk.1.1.1.2.2.2⟩⟩⟩)))
                                  (case aS => exact (below_size (by repeat (first | (with_reducible first | exact HB.out | apply below_alloc | apply pw_below_drewN | apply below_drew1 | refine below_set ?_ GE130.out | refine below_set ?_ GE131.out | refine below_set ?_ GE136.out) | exact HB.out))))
                                  (case aL => have := LMc46.out; omega)
                                  intro v148 w56 ho hb hg hat
                                  rw [← Ny147.out] at ho
                                  have n0_ := Aside0.mk (Kd.V_afterv (ok := (fun k_ => ((P1_1_ k_ ∨ P1_2_ k_) ∨ w.heap.size ≤ k_) ∧ some k_ ≠ (.slice Ao54 t138.length co54 : Value).ownBlock ∧ some k_ ≠ (.slice Ao53 t141.length co53 : Value).ownBlock ∧ some k_ ≠ (.slice Ao57 t144.length co57 : Value).ownBlock ∧ k_ ≠ gb130 ∧ k_ ≠ gb131 ∧ k_ ≠ gb136)) (by (with_reducible repeat (first | apply Kd.V_alloc | apply Kd.V_drewN | apply Kd.V_drew)); exact Kd.V_mono HO_132001.out (fun _ hk => ⟨⟨hk.1.1.1.1, ⟨hk.1.1.2, ⟨hk.1.2, ⟨hk.2, ⟨hk.1.1.1.2.2.1, ⟨hk.1.1.1.2.2.2.1, hk.1.1.1.2.2.2.2⟩⟩⟩⟩⟩⟩, hk.1.1.1.2.1⟩)) hg hat)
                                  have n1_ := Aside0.mk (Kd.V_afterv (ok := (fun k_ => ((P1_1_ k_ ∨ P1_2_ k_) ∨ w.heap.size ≤ k_) ∧ some k_ ≠ (.slice Ao54 t138.length co54 : Value).ownBlock ∧ some k_ ≠ (.slice Ao53 t141.length co53 : Value).ownBlock ∧ some k_ ≠ (.slice Ao57 t144.length co57 : Value).ownBlock ∧ k_ ≠ gb130 ∧ k_ ≠ gb131 ∧ k_ ≠ gb136)) (by (with_reducible repeat (first | apply Kd.V_alloc | apply Kd.V_drewN | apply Kd.V_drew)); exact Kd.V_mono HO_132002.out (fun _ hk => ⟨⟨hk.1.1.1.1, ⟨hk.1.1.2, ⟨hk.1.2, ⟨hk.2, ⟨hk.1.1.1.2.2.1, ⟨hk.1.1.1.2.2.2.1, hk.1.1.1.2.2.2.2⟩⟩⟩⟩⟩⟩, hk.1.1.1.2.1⟩)) hg hat)
                                  have n2_ := Aside0.mk (blk_grown (g := gb130) (o := .cells #[.slice (some ad135) l0_0.length c0_0, .int .i64 a0_1, .int .i64 a0_2, .int .i64 a0_3, .int .i64 a0_4, .slice A0_5 l0_5.length c0_5, .int .i64 a0_6] 26 (0, 0)) (by (with_reducible repeat (first | refine blk_drewN ?_ _ | refine blk_drew ?_ | refine blk_alloc ?_ _)); exact BK130.out) hg (Kd.N_ne HO_9.out BK130.out (by decide)))
                                  have n3_ := Aside0.mk (blk_grown (g := gb131) (o := .cells #[.int .i64 a1_0, .slice A1_1 l1_1.length c1_1, .slice A1_2 l1_2.length c1_2] 92 (0, 0)) (by (with_reducible repeat (first | refine blk_drewN ?_ _ | refine blk_drew ?_ | refine blk_alloc ?_ _)); exact BK131.out) hg (Kd.N_away HO_9.out (fun _ hk => hk.1.1.1.2.2.1)))
                                  have n4_ := Aside0.mk (blk_grown (g := gb136) (o := .cells #[.int .i64 ((rd_T56 l0_0 (l1_2.length : Int)).f0), .int .i64 ((rd_T56 l0_0 (l1_2.length : Int)).f1.f0), .int .i64 ((rd_T56 l0_0 (l1_2.length : Int)).f1.f1), .int .i64 ((rd_T56 l0_0 (l1_2.length : Int)).f2.f0), .int .i64 ((rd_T56 l0_0 (l1_2.length : Int)).f2.f1), .int .i64 ((rd_T56 l0_0 (l1_2.length : Int)).f3.f0), .int .i64 ((rd_T56 l0_0 (l1_2.length : Int)).f3.f1)] 56 (0, 0)) (by (with_reducible repeat (first | refine blk_drewN ?_ _ | refine blk_drew ?_ | refine blk_alloc ?_ _)); exact BK136.out) hg (Kd.N_ne HO_9.out BK136.out (by decide)))
                                  have n5_ := Aside0.mk (Kd.R_over' (by (with_reducible repeat (first | apply Kd.R_alloc | apply Kd.R_drewN | apply Kd.R_drew)); exact HO140.out) (Kd.N_typed (by (with_reducible repeat (first | apply Kd.N_alloc | apply Kd.N_drewN | apply Kd.N_drew)); exact HO_9.out)) (by decide) hg)
                                  have n6_ := Aside0.mk (Kd.R_over' (by (with_reducible repeat (first | apply Kd.R_alloc | apply Kd.R_drewN | apply Kd.R_drew)); exact HO143.out) (Kd.N_typed (by (with_reducible repeat (first | apply Kd.N_alloc | apply Kd.N_drewN | apply Kd.N_drew)); exact HO_9.out)) (by decide) hg)
                                  have n7_ := Aside0.mk (Kd.N_afterv (ok := (fun k_ => ((P1_1_ k_ ∨ P1_2_ k_) ∨ w.heap.size ≤ k_) ∧ k_ ≠ gb130 ∧ k_ ≠ gb131 ∧ k_ ≠ gb136)) (by (with_reducible repeat (first | apply Kd.N_alloc | apply Kd.N_drewN | apply Kd.N_drew)); exact Kd.N_mono HO146.out (fun _ hk => ⟨⟨hk.1, ⟨hk.2.2.1, ⟨hk.2.2.2.1, hk.2.2.2.2⟩⟩⟩, hk.2.1⟩)) hg hat)
                                  have n8_ := Aside0.mk (hb)
                                  have n9_ := Aside0.mk (ho)
                                  clear HO_132001
                                  clear HO_132002
                                  clear BK130
                                  clear BK131
                                  clear BK136
                                  clear HO140
                                  clear HO143
                                  clear HO146
                                  clear HB
                                  clear HO_9
                                  have HO_132001 := n0_
                                  have HO_132002 := n1_
                                  have BK130 := n2_
                                  have BK131 := n3_
                                  have BK136 := n4_
                                  have HO140 := n5_
                                  have HO143 := n6_
                                  have HO146 := n7_
                                  have HB := n8_
                                  have HO149 := n9_
                                  clear n0_ n1_ n2_ n3_ n4_ n5_ n6_ n7_ n8_ n9_
                                  clear ho hb hg hat
                                  refine hK.out _ _ ⟨(blk_cell BK130.out 0).trans rfl, (blk_cell BK130.out 1).trans rfl, (blk_cell BK130.out 2).trans rfl, (blk_cell BK130.out 3).trans rfl, (blk_cell BK130.out 4).trans rfl, (blk_cell BK130.out 5).trans rfl, (blk_cell BK130.out 6).trans rfl, (blk_cell BK131.out 0).trans rfl, (blk_cell BK131.out 1).trans rfl, (blk_cell BK131.out 2).trans rfl⟩ (fun hHeld => ?_)
                                  clear hK K
                                  refine norm_ (a' := ?_) ?_ ?_
                                  rotate_left
                                  · show Act.put _ (some 92) _ = _
                                    simp only [nrm_]
                                    rfl
                                  refine pu_ 18 (some 9) (bl 19 524287) rfl rfl (by kernel_rfl) (fun _ _ _ h => h) (by rfl) (by intro w'; go_simp; with_reducible rfl) (by simp only [nrm_]; rfl) ?_
                                  refine done_ (done_of HT_.out (by kernel_rfl)) ?_
                                  try go_wp2
                                  go_roundg k3
                                  case measure => have := HK1.out; have := HK2.out; have := HK3.out; omega
                                  case rel => exact ⟨(y147), (wrap64 (x13_3 + 1)), (by first | rfl | (simp; done) | (simp [*]; done)), H', ⟨by have := HK1.out; have := HK2.out; have := HK3.out; omega⟩, ⟨by (with_reducible repeat (first | apply Kd.N_alloc | apply Kd.N_drewN | apply Kd.N_drew)); exact HO149.out⟩, ⟨by (with_reducible repeat (first | apply Kd.V_alloc | apply Kd.V_drewN | apply Kd.V_drew)); exact Kd.V_mono HO_132001.out (fun _ hk => ⟨hk.1.1, ⟨hk.2, ⟨hk.1.2.2.2.2.1, ⟨hk.1.2.2.2.2.2.1, hk.1.2.2.2.2.2.2⟩⟩⟩⟩)⟩, ⟨by (with_reducible repeat (first | apply Kd.V_alloc | apply Kd.V_drewN | apply Kd.V_drew)); exact Kd.V_mono HO_132002.out (fun _ hk => ⟨hk.1.1, ⟨hk.2, ⟨hk.1.2.2.2.2.1, ⟨hk.1.2.2.2.2.2.1, hk.1.2.2.2.2.2.2⟩⟩⟩⟩)⟩, ⟨by (with_reducible repeat (first | refine blk_drewN ?_ _ | refine blk_drew ?_ | refine blk_alloc ?_ _)); exact BK130.out⟩, ⟨by (with_reducible repeat (first | refine blk_drewN ?_ _ | refine blk_drew ?_ | refine blk_alloc ?_ _)); exact BK131.out⟩, ⟨by (with_reducible repeat (first | refine blk_drewN ?_ _ | refine blk_drew ?_ | refine blk_alloc ?_ _)); exact BK136.out⟩, ⟨by repeat (first | (with_reducible first | exact HB.out | apply below_alloc | apply pw_below_drewN | apply below_drew1 | refine below_set ?_ GE130.out | refine below_set ?_ GE131.out | refine below_set ?_ GE136.out) | exact HB.out)⟩⟩
                                · rw [if_neg c46] at H
                                  exact absurd H (by simp)
                              · rw [if_neg c42] at H
                                have c42b0 : decide (x13_3 ≤ ((rd_T56 l0_0 (l1_2.length : Int)).f3.f1)) = false := decide_eq_false c42
                                clear c42
                                have H' := Aside0.mk H
                                clear H
                                have hnb58 := NB136_130.out
                                have hnc58 := NB130_136.out
                                have hnb59 := NB136_131.out
                                have hnc59 := NB131_136.out
                                have hcz60_0 : wr.cell? ⟨gb136, 0, none⟩ = some (.int .i64 ((rd_T56 l0_0 (l1_2.length : Int)).f0)) := (blk_cell BK136.out 0).trans rfl
                                have hcz60_1 : wr.cell? ⟨gb136, 1, none⟩ = some (.int .i64 ((rd_T56 l0_0 (l1_2.length : Int)).f1.f0)) := (blk_cell BK136.out 1).trans rfl
                                have hcz60_2 : wr.cell? ⟨gb136, 2, none⟩ = some (.int .i64 ((rd_T56 l0_0 (l1_2.length : Int)).f1.f1)) := (blk_cell BK136.out 2).trans rfl
                                have hcz60_3 : wr.cell? ⟨gb136, 3, none⟩ = some (.int .i64 ((rd_T56 l0_0 (l1_2.length : Int)).f2.f0)) := (blk_cell BK136.out 3).trans rfl
                                have hcz60_4 : wr.cell? ⟨gb136, 4, none⟩ = some (.int .i64 ((rd_T56 l0_0 (l1_2.length : Int)).f2.f1)) := (blk_cell BK136.out 4).trans rfl
                                have hcz60_5 : wr.cell? ⟨gb136, 5, none⟩ = some (.int .i64 ((rd_T56 l0_0 (l1_2.length : Int)).f3.f0)) := (blk_cell BK136.out 5).trans rfl
                                have hcz60_6 : wr.cell? ⟨gb136, 6, none⟩ = some (.int .i64 ((rd_T56 l0_0 (l1_2.length : Int)).f3.f1)) := (blk_cell BK136.out 6).trans rfl
                                have hfz60_0 := blk_frozen BK136.out 0
                                have hfz60_1 := blk_frozen BK136.out 1
                                have hfz60_2 := blk_frozen BK136.out 2
                                have hfz60_3 := blk_frozen BK136.out 3
                                have hfz60_4 := blk_frozen BK136.out 4
                                have hfz60_5 := blk_frozen BK136.out 5
                                have hfz60_6 := blk_frozen BK136.out 6
                                go_wp2
                                go_roundg k3
                                case measure => have := HK1.out; have := HK2.out; have := HK3.out; omega
                                case rel => exact ⟨(x9_3), (wrap64 (x11_2 + 1)), (by first | rfl | (simp; done) | (simp [*]; done)), H', ⟨by have := HK1.out; have := HK2.out; have := HK3.out; omega⟩, ⟨by (with_reducible repeat (first | apply Kd.N_alloc | apply Kd.N_drewN | apply Kd.N_drew)); exact HO_9.out⟩, ⟨by (with_reducible repeat (first | apply Kd.V_alloc | apply Kd.V_drewN | apply Kd.V_drew)); exact HO_132001.out⟩, ⟨by (with_reducible repeat (first | apply Kd.V_alloc | apply Kd.V_drewN | apply Kd.V_drew)); exact HO_132002.out⟩, ⟨by (with_reducible repeat (first | refine blk_drewN ?_ _ | refine blk_drew ?_ | refine blk_alloc ?_ _)); exact BK130.out⟩, ⟨by (with_reducible repeat (first | refine blk_drewN ?_ _ | refine blk_drew ?_ | refine blk_alloc ?_ _)); exact BK131.out⟩, ⟨by (with_reducible repeat (first | refine blk_drewN ?_ _ | refine blk_drew ?_ | refine blk_alloc ?_ _)); exact BK136.out⟩, ⟨by repeat (first | (with_reducible first | exact HB.out | apply below_alloc | apply pw_below_drewN | apply below_drew1 | refine below_set ?_ GE130.out | refine below_set ?_ GE131.out | refine below_set ?_ GE136.out) | exact HB.out)⟩⟩
                        · replace c32 := Bool.eq_false_iff.mpr c32
                          subst c32
                          have H1 : (macadamref06_goes.l1 k2 a2 (l1_2.length : Int) x9_2 x10_1 (wrap64 (x11_2 + 1)) l0_0 a0_1 a0_2 a0_3 a0_4 l0_5 a0_6 a1_0 l1_1 l1_2 ((rd_T56 l0_0 (l1_2.length : Int)).f0) ((rd_T56 l0_0 (l1_2.length : Int)).f1.f0) ((rd_T56 l0_0 (l1_2.length : Int)).f1.f1) ((rd_T56 l0_0 (l1_2.length : Int)).f2.f0) ((rd_T56 l0_0 (l1_2.length : Int)).f2.f1) ((rd_T56 l0_0 (l1_2.length : Int)).f3.f0) ((rd_T56 l0_0 (l1_2.length : Int)).f3.f1)) = some r := by rw [if_neg (show ¬ (false = true) by decide)] at H; exact H
                          clear H
                          have H := H1
                          clear H1
                          have H' := Aside0.mk H
                          clear H
                          have hnb61 := NB136_130.out
                          have hnc61 := NB130_136.out
                          have hnb62 := NB136_131.out
                          have hnc62 := NB131_136.out
                          have hcz63_0 : wr.cell? ⟨gb136, 0, none⟩ = some (.int .i64 ((rd_T56 l0_0 (l1_2.length : Int)).f0)) := (blk_cell BK136.out 0).trans rfl
                          have hcz63_1 : wr.cell? ⟨gb136, 1, none⟩ = some (.int .i64 ((rd_T56 l0_0 (l1_2.length : Int)).f1.f0)) := (blk_cell BK136.out 1).trans rfl
                          have hcz63_2 : wr.cell? ⟨gb136, 2, none⟩ = some (.int .i64 ((rd_T56 l0_0 (l1_2.length : Int)).f1.f1)) := (blk_cell BK136.out 2).trans rfl
                          have hcz63_3 : wr.cell? ⟨gb136, 3, none⟩ = some (.int .i64 ((rd_T56 l0_0 (l1_2.length : Int)).f2.f0)) := (blk_cell BK136.out 3).trans rfl
                          have hcz63_4 : wr.cell? ⟨gb136, 4, none⟩ = some (.int .i64 ((rd_T56 l0_0 (l1_2.length : Int)).f2.f1)) := (blk_cell BK136.out 4).trans rfl
                          have hcz63_5 : wr.cell? ⟨gb136, 5, none⟩ = some (.int .i64 ((rd_T56 l0_0 (l1_2.length : Int)).f3.f0)) := (blk_cell BK136.out 5).trans rfl
                          have hcz63_6 : wr.cell? ⟨gb136, 6, none⟩ = some (.int .i64 ((rd_T56 l0_0 (l1_2.length : Int)).f3.f1)) := (blk_cell BK136.out 6).trans rfl
                          have hfz63_0 := blk_frozen BK136.out 0
                          have hfz63_1 := blk_frozen BK136.out 1
                          have hfz63_2 := blk_frozen BK136.out 2
                          have hfz63_3 := blk_frozen BK136.out 3
                          have hfz63_4 := blk_frozen BK136.out 4
                          have hfz63_5 := blk_frozen BK136.out 5
                          have hfz63_6 := blk_frozen BK136.out 6
                          have hnb64 := NB131_130.out
                          have hnc64 := NB130_131.out
                          have hcz65_0 : wr.cell? ⟨gb131, 0, none⟩ = some (.int .i64 a1_0) := (blk_cell BK131.out 0).trans rfl
                          have hcz65_1 : wr.cell? ⟨gb131, 1, none⟩ = some (.slice A1_1 l1_1.length c1_1) := (blk_cell BK131.out 1).trans rfl
                          have hcz65_2 : wr.cell? ⟨gb131, 2, none⟩ = some (.slice A1_2 l1_2.length c1_2) := (blk_cell BK131.out 2).trans rfl
                          have hfz65_0 := blk_frozen BK131.out 0
                          have hfz65_1 := blk_frozen BK131.out 1
                          have hfz65_2 := blk_frozen BK131.out 2
                          have hcz66_0 : wr.cell? ⟨gb130, 0, none⟩ = some (.slice (some ad135) l0_0.length c0_0) := (blk_cell BK130.out 0).trans rfl
                          have hcz66_1 : wr.cell? ⟨gb130, 1, none⟩ = some (.int .i64 a0_1) := (blk_cell BK130.out 1).trans rfl
                          have hcz66_2 : wr.cell? ⟨gb130, 2, none⟩ = some (.int .i64 a0_2) := (blk_cell BK130.out 2).trans rfl
                          have hcz66_3 : wr.cell? ⟨gb130, 3, none⟩ = some (.int .i64 a0_3) := (blk_cell BK130.out 3).trans rfl
                          have hcz66_4 : wr.cell? ⟨gb130, 4, none⟩ = some (.int .i64 a0_4) := (blk_cell BK130.out 4).trans rfl
                          have hcz66_5 : wr.cell? ⟨gb130, 5, none⟩ = some (.slice A0_5 l0_5.length c0_5) := (blk_cell BK130.out 5).trans rfl
                          have hcz66_6 : wr.cell? ⟨gb130, 6, none⟩ = some (.int .i64 a0_6) := (blk_cell BK130.out 6).trans rfl
                          have hfz66_0 := blk_frozen BK130.out 0
                          have hfz66_1 := blk_frozen BK130.out 1
                          have hfz66_2 := blk_frozen BK130.out 2
                          have hfz66_3 := blk_frozen BK130.out 3
                          have hfz66_4 := blk_frozen BK130.out 4
                          have hfz66_5 := blk_frozen BK130.out 5
                          have hfz66_6 := blk_frozen BK130.out 6
                          have hcx67 : wr.cell? ⟨gb130, 2 + (a1_0 : Int).toNat, none⟩ = some (.int .i64 (ix3 a0_2 a0_3 a0_4 a1_0)) := blk_ix3 BK130.out 2 rfl rfl rfl (of_decide_eq_true (by first | (with_reducible assumption) | assumption)) (of_decide_eq_true (by first | (with_reducible assumption) | assumption))
                          go_wp2_with (first | ((with_reducible refine gate_callee (f := 106) rfl ?_); refine goesL_ (some 63) rfl rfl Tryd.func106 (by kernel_rfl) rfl #[.agg #[.slice (some ad135) l0_0.length c0_0, .int .i64 a0_1, .int .i64 a0_2, .int .i64 a0_3, .int .i64 a0_4, .slice A0_5 l0_5.length c0_5, .int .i64 a0_6], .int .i64 (l1_2.length : Int), .int .i64 (wrap64 ((wrap64 ((wrap64 (a2 + x10_1)) + x11_2)) + (ix3 a0_2 a0_3 a0_4 a1_0)))] rfl (by (try simp only [List.map_toArray, List.map_cons, List.map_nil]); first | done | rfl | (simp only [List.length_drop, List.length_take]; rfl)) ?_; (with_reducible refine (macadamref06_right.calls k2 _ _ l0_0 a0_1 a0_2 a0_3 a0_4 _ _ l0_5 a0_6 (l1_2.length : Int) (wrap64 ((wrap64 ((wrap64 (a2 + x10_1)) + x11_2)) + (ix3 a0_2 a0_3 a0_4 a1_0))) false _ ?side1 ?side2 ?side3 ?side4 A31.out).mono ?_); (case side1 => repeat (first | exact (Kd.C_below HR0_0.out HB.out) | (with_reducible refine Kd.C_alloc ?_ _) | (with_reducible refine Kd.C_drewN ?_ _) | (with_reducible refine Kd.C_drew ?_))); (case side2 => exact HC0_0.out); (case side3 => repeat (first | exact (Kd.C_below HR0_5.out HB.out) | (with_reducible refine Kd.C_alloc ?_ _) | (with_reducible refine Kd.C_drewN ?_ _) | (with_reducible refine Kd.C_drew ?_))); (case side4 => exact HC0_5.out); rintro e w68 ⟨rfl, hb⟩; refine ⟨_, rfl, ?_⟩; have n0_ := Aside0.mk (Kd.N_below (by (with_reducible repeat (first | apply Kd.N_alloc | apply Kd.N_drewN | apply Kd.N_drew)); exact HO_9.out) hb); have n1_ := Aside0.mk (Kd.V_below (by (with_reducible repeat (first | apply Kd.V_alloc | apply Kd.V_drewN | apply Kd.V_drew)); exact HO_132001.out) hb); have n2_ := Aside0.mk (Kd.V_below (by (with_reducible repeat (first | apply Kd.V_alloc | apply Kd.V_drewN | apply Kd.V_drew)); exact HO_132002.out) hb); have n3_ := Aside0.mk (blk_below (g := gb130) (o := .cells #[.slice (some ad135) l0_0.length c0_0, .int .i64 a0_1, .int .i64 a0_2, .int .i64 a0_3, .int .i64 a0_4, .slice A0_5 l0_5.length c0_5, .int .i64 a0_6] 26 (0, 0)) (by (with_reducible repeat (first | refine blk_drewN ?_ _ | refine blk_drew ?_ | refine blk_alloc ?_ _)); exact BK130.out) hb); have n4_ := Aside0.mk (blk_below (g := gb131) (o := .cells #[.int .i64 a1_0, .slice A1_1 l1_1.length c1_1, .slice A1_2 l1_2.length c1_2] 92 (0, 0)) (by (with_reducible repeat (first | refine blk_drewN ?_ _ | refine blk_drew ?_ | refine blk_alloc ?_ _)); exact BK131.out) hb); have n5_ := Aside0.mk (blk_below (g := gb136) (o := .cells #[.int .i64 ((rd_T56 l0_0 (l1_2.length : Int)).f0), .int .i64 ((rd_T56 l0_0 (l1_2.length : Int)).f1.f0), .int .i64 ((rd_T56 l0_0 (l1_2.length : Int)).f1.f1), .int .i64 ((rd_T56 l0_0 (l1_2.length : Int)).f2.f0), .int .i64 ((rd_T56 l0_0 (l1_2.length : Int)).f2.f1), .int .i64 ((rd_T56 l0_0 (l1_2.length : Int)).f3.f0), .int .i64 ((rd_T56 l0_0 (l1_2.length : Int)).f3.f1)] 56 (0, 0)) (by (with_reducible repeat (first | refine blk_drewN ?_ _ | refine blk_drew ?_ | refine blk_alloc ?_ _)); exact BK136.out) hb); have n6_ := Aside0.mk (below_step (by repeat (first | (with_reducible first | exact HB.out | apply below_alloc | apply pw_below_drewN | apply below_drew1 | refine below_set ?_ GE130.out | refine below_set ?_ GE131.out | refine below_set ?_ GE136.out) | exact HB.out)) hb); clear HO_9; clear HO_132001; clear HO_132002; clear BK130; clear BK131; clear BK136; clear HB; have HO_9 := n0_; have HO_132001 := n1_; have HO_132002 := n2_; have BK130 := n3_; have BK131 := n4_; have BK136 := n5_; have HB := n6_; clear n0_ n1_ n2_ n3_ n4_ n5_ n6_; (try clear hb); (try clear hb2); (try clear hk); (try clear hi)))
                          go_roundg k2
                          case measure => have := HK1.out; have := HK2.out; omega
                          case rel => exact ⟨(x9_2), (wrap64 (x11_2 + 1)), (by first | rfl | (simp; done) | (simp [*]; done)), H', ⟨by have := HK1.out; have := HK2.out; omega⟩, ⟨by (with_reducible repeat (first | apply Kd.N_alloc | apply Kd.N_drewN | apply Kd.N_drew)); exact HO_9.out⟩, ⟨by (with_reducible repeat (first | apply Kd.V_alloc | apply Kd.V_drewN | apply Kd.V_drew)); exact HO_132001.out⟩, ⟨by (with_reducible repeat (first | apply Kd.V_alloc | apply Kd.V_drewN | apply Kd.V_drew)); exact HO_132002.out⟩, ⟨by (with_reducible repeat (first | refine blk_drewN ?_ _ | refine blk_drew ?_ | refine blk_alloc ?_ _)); exact BK130.out⟩, ⟨by (with_reducible repeat (first | refine blk_drewN ?_ _ | refine blk_drew ?_ | refine blk_alloc ?_ _)); exact BK131.out⟩, ⟨by (with_reducible repeat (first | refine blk_drewN ?_ _ | refine blk_drew ?_ | refine blk_alloc ?_ _)); exact BK136.out⟩, ⟨by repeat (first | (with_reducible first | exact HB.out | apply below_alloc | apply pw_below_drewN | apply below_drew1 | refine below_set ?_ GE130.out | refine below_set ?_ GE131.out | refine below_set ?_ GE136.out) | exact HB.out)⟩⟩
                      · rw [if_neg c29] at H
                        exact absurd H (by simp)
                    · rw [if_neg c28] at H
                      exact absurd H (by simp)
                  · rw [if_neg c27] at H
                    have c27b0 : decide (x11_2 ≤ ((rd_T56 l0_0 (l1_2.length : Int)).f2.f1)) = false := decide_eq_false c27
                    clear c27
                    have H' := Aside0.mk H
                    clear H
                    have hnb69 := NB136_130.out
                    have hnc69 := NB130_136.out
                    have hnb70 := NB136_131.out
                    have hnc70 := NB131_136.out
                    have hcz71_0 : wr.cell? ⟨gb136, 0, none⟩ = some (.int .i64 ((rd_T56 l0_0 (l1_2.length : Int)).f0)) := (blk_cell BK136.out 0).trans rfl
                    have hcz71_1 : wr.cell? ⟨gb136, 1, none⟩ = some (.int .i64 ((rd_T56 l0_0 (l1_2.length : Int)).f1.f0)) := (blk_cell BK136.out 1).trans rfl
                    have hcz71_2 : wr.cell? ⟨gb136, 2, none⟩ = some (.int .i64 ((rd_T56 l0_0 (l1_2.length : Int)).f1.f1)) := (blk_cell BK136.out 2).trans rfl
                    have hcz71_3 : wr.cell? ⟨gb136, 3, none⟩ = some (.int .i64 ((rd_T56 l0_0 (l1_2.length : Int)).f2.f0)) := (blk_cell BK136.out 3).trans rfl
                    have hcz71_4 : wr.cell? ⟨gb136, 4, none⟩ = some (.int .i64 ((rd_T56 l0_0 (l1_2.length : Int)).f2.f1)) := (blk_cell BK136.out 4).trans rfl
                    have hcz71_5 : wr.cell? ⟨gb136, 5, none⟩ = some (.int .i64 ((rd_T56 l0_0 (l1_2.length : Int)).f3.f0)) := (blk_cell BK136.out 5).trans rfl
                    have hcz71_6 : wr.cell? ⟨gb136, 6, none⟩ = some (.int .i64 ((rd_T56 l0_0 (l1_2.length : Int)).f3.f1)) := (blk_cell BK136.out 6).trans rfl
                    have hfz71_0 := blk_frozen BK136.out 0
                    have hfz71_1 := blk_frozen BK136.out 1
                    have hfz71_2 := blk_frozen BK136.out 2
                    have hfz71_3 := blk_frozen BK136.out 3
                    have hfz71_4 := blk_frozen BK136.out 4
                    have hfz71_5 := blk_frozen BK136.out 5
                    have hfz71_6 := blk_frozen BK136.out 6
                    go_wp2
                    go_roundg k2
                    case measure => have := HK1.out; have := HK2.out; omega
                    case rel => exact ⟨(x9_2), (wrap64 (x10_1 + 1)), (by first | rfl | (simp; done) | (simp [*]; done)), H', ⟨by have := HK1.out; have := HK2.out; omega⟩, ⟨by (with_reducible repeat (first | apply Kd.N_alloc | apply Kd.N_drewN | apply Kd.N_drew)); exact HO_9.out⟩, ⟨by (with_reducible repeat (first | apply Kd.V_alloc | apply Kd.V_drewN | apply Kd.V_drew)); exact HO_132001.out⟩, ⟨by (with_reducible repeat (first | apply Kd.V_alloc | apply Kd.V_drewN | apply Kd.V_drew)); exact HO_132002.out⟩, ⟨by (with_reducible repeat (first | refine blk_drewN ?_ _ | refine blk_drew ?_ | refine blk_alloc ?_ _)); exact BK130.out⟩, ⟨by (with_reducible repeat (first | refine blk_drewN ?_ _ | refine blk_drew ?_ | refine blk_alloc ?_ _)); exact BK131.out⟩, ⟨by (with_reducible repeat (first | refine blk_drewN ?_ _ | refine blk_drew ?_ | refine blk_alloc ?_ _)); exact BK136.out⟩, ⟨by repeat (first | (with_reducible first | exact HB.out | apply below_alloc | apply pw_below_drewN | apply below_drew1 | refine below_set ?_ GE130.out | refine below_set ?_ GE131.out | refine below_set ?_ GE136.out) | exact HB.out)⟩⟩
            · rw [if_neg c23] at H
              have c23b0 : decide (x10_1 ≤ ((rd_T56 l0_0 (l1_2.length : Int)).f1.f1)) = false := decide_eq_false c23
              clear c23
              obtain rfl := Option.some.inj H
              have hnb72 := NB136_130.out
              have hnc72 := NB130_136.out
              have hnb73 := NB136_131.out
              have hnc73 := NB131_136.out
              have hcz74_0 : wr.cell? ⟨gb136, 0, none⟩ = some (.int .i64 ((rd_T56 l0_0 (l1_2.length : Int)).f0)) := (blk_cell BK136.out 0).trans rfl
              have hcz74_1 : wr.cell? ⟨gb136, 1, none⟩ = some (.int .i64 ((rd_T56 l0_0 (l1_2.length : Int)).f1.f0)) := (blk_cell BK136.out 1).trans rfl
              have hcz74_2 : wr.cell? ⟨gb136, 2, none⟩ = some (.int .i64 ((rd_T56 l0_0 (l1_2.length : Int)).f1.f1)) := (blk_cell BK136.out 2).trans rfl
              have hcz74_3 : wr.cell? ⟨gb136, 3, none⟩ = some (.int .i64 ((rd_T56 l0_0 (l1_2.length : Int)).f2.f0)) := (blk_cell BK136.out 3).trans rfl
              have hcz74_4 : wr.cell? ⟨gb136, 4, none⟩ = some (.int .i64 ((rd_T56 l0_0 (l1_2.length : Int)).f2.f1)) := (blk_cell BK136.out 4).trans rfl
              have hcz74_5 : wr.cell? ⟨gb136, 5, none⟩ = some (.int .i64 ((rd_T56 l0_0 (l1_2.length : Int)).f3.f0)) := (blk_cell BK136.out 5).trans rfl
              have hcz74_6 : wr.cell? ⟨gb136, 6, none⟩ = some (.int .i64 ((rd_T56 l0_0 (l1_2.length : Int)).f3.f1)) := (blk_cell BK136.out 6).trans rfl
              have hfz74_0 := blk_frozen BK136.out 0
              have hfz74_1 := blk_frozen BK136.out 1
              have hfz74_2 := blk_frozen BK136.out 2
              have hfz74_3 := blk_frozen BK136.out 3
              have hfz74_4 := blk_frozen BK136.out 4
              have hfz74_5 := blk_frozen BK136.out 5
              have hfz74_6 := blk_frozen BK136.out 6
              go_wp2
              go_ret
              exact ⟨_, by first | rfl | (simp [errW_none, errW_some] <;> rfl) | (simp [*, errW_none, errW_some] <;> rfl), by (with_reducible repeat (first | apply Kd.N_alloc | apply Kd.N_drewN | apply Kd.N_drew)); exact Kd.N_mono HO_9.out (fun _ hk => hk.1), by repeat (first | (with_reducible first | exact HB.out | apply below_alloc | apply pw_below_drewN | apply below_drew1 | refine below_set ?_ GE130.out | refine below_set ?_ GE131.out | refine below_set ?_ GE136.out) | exact HB.out)⟩
      · rw [if_neg c13] at H
        exact absurd H (by simp)
    · rw [if_neg c12] at H
      exact absurd H (by simp)
end Go.Proofs.YtbhjfojbjpbdbaaDoorPX
namespace Go.Proofs.YtbhjfojbjpbdbaaDoorPX
open Go Go.RowKit Go.Proofs.YtbhjfojbjpbdbaaDoor Go.Proofs.YtbhjfojbjpbdbaaDoorW.PrintWords
theorem w64 {n : Int} (h1 : -9223372036854775808 ≤ n) (h2 : n ≤ 9223372036854775807) : wrap64 n = n := by unfold wrap64; omega
theorem amid_f (n lo hi : Int) : macadamref00_Amid.f n lo hi = some (within n lo hi) := by
  unfold macadamref00_Amid.f within
  by_cases h : lo ≤ n
  · rw [if_pos h]; simp [h]
  · rw [if_neg h]; simp [h]
theorem rd42 (ks : List S42) (i : Nat) {x : S42} (h : ks[i]? = some x) : rd_T42 ks (i : Int) = x := by
  unfold rd_T42
  simp [List.getD_eq_getElem?_getD, h]
theorem rd56 (ks : List S56) (i : Nat) {x : S56} (h : ks[i]? = some x) : rd_T56 ks (i : Int) = x := by
  unfold rd_T56
  simp [List.getD_eq_getElem?_getD, h]
def KOk (ks : List S42) : Prop := ks.length ≤ 1000 ∧ ∀ c ∈ ks, (0 ≤ c.f1 ∧ c.f1 ≤ 600) ∧ (0 ≤ c.f2 ∧ c.f2 ≤ 5)
def LOk (l : List S56) : Prop := l.length ≤ 3 ∧ ∀ x ∈ l, (1 ≤ x.f1.f0 ∧ x.f1.f0 ≤ x.f1.f1 ∧ x.f1.f1 ≤ 90 ∧ x.f1.f1 - x.f1.f0 ≤ 2) ∧ (0 ≤ x.f2.f0 ∧ x.f2.f0 ≤ x.f2.f1 ∧ x.f2.f1 ≤ 30 ∧ x.f2.f1 - x.f2.f0 ≤ 2) ∧ (0 ≤ x.f3.f0 ∧ x.f3.f0 ≤ x.f3.f1 ∧ x.f3.f1 ≤ 20 ∧ x.f3.f1 - x.f3.f0 ≤ 1)
section
variable {l : List S56} {a1 a2 a3 a4 : Int} {ks : List S42} {a6 : Int}
theorem right_ev (hk : KOk ks) (s m : Int) (hm : 0 ≤ m ∧ m ≤ 1000) : ∀ (d i : Nat), i + d = ks.length →
    Ev (fun k => macadamref06_right.l0 k s m (i : Int) l a1 a2 a3 a4 ks a6) (rightL ((ks.map ckOf).drop i) s m)
  | 0, i, h => by
    refine Ev.step (f := fun _ => some true) (fun k => by rw [macadamref06_right.l0, if_neg (by omega)]) ?_
    have e : (ks.map ckOf).drop i = [] := List.drop_eq_nil_of_le (by simp; omega)
    rw [e]
    exact Ev.now _
  | d + 1, i, h => by
    have hlt : i < ks.length := by omega
    obtain ⟨x, hx⟩ : ∃ x, ks[i]? = some x := ⟨_, List.getElem?_eq_getElem hlt⟩
    have hb := hk.2 x (List.mem_of_getElem? hx)
    have hn := hk.1
    have ed : (ks.map ckOf).drop i = ckOf x :: (ks.map ckOf).drop (i + 1) := by
      rw [List.drop_eq_getElem_cons (by simpa using hlt)]
      congr 1
      rw [List.getElem?_eq_getElem hlt] at hx
      injection hx with hx
      simp [hx]
    have er : rightL ((ks.map ckOf).drop i) s m = (clockOk s m (ckOf x) && rightL ((ks.map ckOf).drop (i + 1)) s m) := by rw [ed]; rfl
    have ih := right_ev hk s m hm d (i + 1) (by omega)
    have c1 : ((i : Nat) : Int) < (ks.length : Int) := by omega
    have e1 : wrap64 ((i : Int) + 1) = ((i + 1 : Nat) : Int) := by rw [w64 (by omega) (by omega)]; omega
    have ec : clockOk s m (ckOf x) = (decide (x.f0 ≠ s) || within (x.f1 - m) (-x.f2) x.f2) := rfl
    rw [er, ec]
    by_cases hs : x.f0 = s
    · cases hw : within (x.f1 - m) (-x.f2) x.f2
      · refine Ev.step (f := fun _ => some false) (fun k => ?_) ?_
        · rw [macadamref06_right.l0, if_pos c1, if_pos (by omega), rd42 ks i hx, if_pos hs, w64 (n := x.f1 - m) (by omega) (by omega), w64 (n := -x.f2) (by omega) (by omega), amid_f, hw]
          simp
        · simp [hs]; exact Ev.now _
      · refine Ev.step (f := fun k => macadamref06_right.l0 k s m ((i + 1 : Nat) : Int) l a1 a2 a3 a4 ks a6) (fun k => ?_) ?_
        · rw [macadamref06_right.l0, if_pos c1, if_pos (by omega), rd42 ks i hx, if_pos hs, w64 (n := x.f1 - m) (by omega) (by omega), w64 (n := -x.f2) (by omega) (by omega), amid_f, hw, e1]
          simp
        · simpa [hs] using ih
    · refine Ev.step (f := fun k => macadamref06_right.l0 k s m ((i + 1 : Nat) : Int) l a1 a2 a3 a4 ks a6) (fun k => ?_) ?_
      · rw [macadamref06_right.l0, if_pos c1, if_pos (by omega), rd42 ks i hx, if_neg hs, e1]
      · simpa [hs] using ih
theorem put_f (xs : List Int) (n : Int) (h : xs.length ≤ 1000) : macadamref00_Put.f xs n = some (xs ++ [n]) := by
  unfold macadamref00_Put.f
  simp only [Option.bind_some, List.nil_append, List.length_nil]
  rw [if_pos (by omega), if_pos (by omega)]
def trS (n : Nat) (t : Tr) : S92 := ⟨t.w, [t.b0, t.b1, t.b2].take n, [t.a0, t.a1, t.a2].take n⟩
theorem put_take {t : Tr} {j : Nat} (hj : j < 3) (m r : Int) : [(t.put j m r).a0, (t.put j m r).a1, (t.put j m r).a2].take (j + 1) = [t.a0, t.a1, t.a2].take j ++ [m] ∧
    [(t.put j m r).b0, (t.put j m r).b1, (t.put j m r).b2].take (j + 1) = [t.b0, t.b1, t.b2].take j ++ [r] ∧ (t.put j m r).w = t.w := by
  have : j = 0 ∨ j = 1 ∨ j = 2 := by omega
  rcases this with rfl | rfl | rfl <;> exact ⟨rfl, rfl, rfl⟩
theorem take3_len {a b c : Int} {j : Nat} (hj : j ≤ 3) : ([a, b, c].take j).length = j := by simp; omega
theorem goes_ev (hL : LOk l) (hk : KOk ks) {w : Int} (hw : 0 ≤ w ∧ w < 3) (hc : 0 ≤ ix3 a2 a3 a4 w ∧ ix3 a2 a3 a4 w ≤ 30) : ∀ (d j : Nat) (t : Tr) (fr : Int), j + d = l.length → t.w = w → (0 ≤ fr ∧ fr ≤ 170 * j) →
    Ev (fun k => macadamref06_goes.f k l a1 a2 a3 a4 ks a6 w ([t.b0, t.b1, t.b2].take j) ([t.a0, t.a1, t.a2].take j) fr) ((goes (ix3 a2 a3 a4 w) (ks.map ckOf) ((l.map stOf).drop j) j t fr).map (trS l.length))
  | 0, j, t, fr, h, htw, hf => by
    have hl3 := hL.1
    have e : (l.map stOf).drop j = [] := List.drop_eq_nil_of_le (by simp; omega)
    rw [e]
    refine Ev.step (f := fun _ => some [trS l.length t]) (fun k => ?_) (Ev.now _)
    rw [macadamref06_goes.f, take3_len (by omega), if_pos (by omega)]
    have : l.length = j := by omega
    unfold trS
    rw [this, htw]
  | d + 1, j, t, fr, h, htw, hf => by
    have hl3 := hL.1
    have hlt : j < l.length := by omega
    obtain ⟨x, hx⟩ : ∃ x, l[j]? = some x := ⟨_, List.getElem?_eq_getElem hlt⟩
    have hb := hL.2 x (List.mem_of_getElem? hx)
    have ed : (l.map stOf).drop j = stOf x :: (l.map stOf).drop (j + 1) := by
      rw [List.drop_eq_getElem_cons (by simpa using hlt)]
      congr 1
      rw [List.getElem?_eq_getElem hlt] at hx
      injection hx with hx
      simp [hx]
    have hlen : ∀ t fr, (goes (ix3 a2 a3 a4 w) (ks.map ckOf) ((l.map stOf).drop j) j t fr).length ≤ 6000 := fun t fr => by
      refine Nat.le_trans (goes_len _ _ _ _ _ _ (fun y hy => ?_)) (Nat.le_trans (Nat.pow_le_pow_right (by omega) (show _ ≤ 3 by simp; omega)) (by decide))
      obtain ⟨z, hz, rfl⟩ := List.mem_map.1 (List.mem_of_mem_drop hy)
      have := hL.2 z hz
      simp only [stOf]
      omega
    have ih := fun (t : Tr) (fr : Int) h1 h2 => goes_ev hL hk hw hc d (j + 1) t fr (by omega) h1 h2
    have st : ∀ (n : Nat) (dd r m s : Int) (out : List S92) (R : List S92), (x.f3.f1 - s + 1).toNat = n → (x.f3.f0 ≤ s) → (0 ≤ m ∧ m ≤ 170 * j + 150) → (0 ≤ r ∧ r ≤ 30) →
        out.length + (goStops (ix3 a2 a3 a4 w) (ks.map ckOf) ((l.map stOf).drop (j + 1)) j t m r (upto s x.f3.f1)).length ≤ 1000000 →
        Ev (fun k => macadamref06_goes.l1 k fr j (out ++ (goStops (ix3 a2 a3 a4 w) (ks.map ckOf) ((l.map stOf).drop (j + 1)) j t m r (upto s x.f3.f1)).map (trS l.length)) dd (r + 1) l a1 a2 a3 a4 ks a6 w ([t.b0, t.b1, t.b2].take j) ([t.a0, t.a1, t.a2].take j) x.f0 x.f1.f0 x.f1.f1 x.f2.f0 x.f2.f1 x.f3.f0 x.f3.f1) R →
        Ev (fun k => macadamref06_goes.l2 k fr j out dd r m s l a1 a2 a3 a4 ks a6 w ([t.b0, t.b1, t.b2].take j) ([t.a0, t.a1, t.a2].take j) x.f0 x.f1.f0 x.f1.f1 x.f2.f0 x.f2.f1 x.f3.f0 x.f3.f1) R := by
      intro n
      induction n with
      | zero =>
        intro dd r m s out R hn hs hm hr hlo hR
        rw [upto_nil (by omega)] at hR
        simp only [goStops, List.flatMap_nil, List.map_nil, List.append_nil] at hR
        refine Ev.step (fun k => ?_) hR
        rw [macadamref06_goes.l2, if_neg (by omega), w64 (n := r + 1) (by omega) (by omega)]
      | succ n ihn =>
        intro dd r m s out R hn hs hm hr hlo hR
        have hs2 : s ≤ x.f3.f1 := by omega
        rw [goStops_cons _ _ _ _ _ _ _ hs2] at hR hlo
        obtain ⟨p1, p2, p3⟩ := put_take (t := t) (show j < 3 by omega) m r
        have hg := ih (t.put j m r) (m + s) (by rw [p3]; exact htw) (by omega)
        rw [p1, p2] at hg
        rw [List.length_append] at hlo
        have hr2 := ihn dd r m (s + 1) (out ++ (goes (ix3 a2 a3 a4 w) (ks.map ckOf) ((l.map stOf).drop (j + 1)) (j + 1) (t.put j m r) (m + s)).map (trS l.length)) R (by omega) (by omega) hm hr (by rw [List.length_append, List.length_map]; omega) (by rw [List.append_assoc, ← List.map_append]; exact hR)
        refine Ev.step (fun k => by rw [macadamref06_goes.l2, if_pos hs2, put_f _ _ (by rw [take3_len (by omega)]; omega), Option.bind_some, put_f _ _ (by rw [take3_len (by omega)]; omega), Option.bind_some, w64 (n := m + s) (by omega) (by omega)]) ?_
        refine Ev.bind hg ?_
        refine Ev.congr (fun k => ?_) hr2
        rw [if_pos (by rw [List.length_map]; omega), w64 (n := s + 1) (by omega) (by omega)]
    have rt : ∀ (n : Nat) (dd r : Int) (out : List S92) (R : List S92), (x.f2.f1 - r + 1).toNat = n → (x.f2.f0 ≤ r) → (1 ≤ dd ∧ dd ≤ 90) →
        out.length + (goRoads (ix3 a2 a3 a4 w) (ks.map ckOf) (stOf x) ((l.map stOf).drop (j + 1)) j t fr dd (upto r x.f2.f1)).length ≤ 1000000 →
        Ev (fun k => macadamref06_goes.l0 k fr j (out ++ (goRoads (ix3 a2 a3 a4 w) (ks.map ckOf) (stOf x) ((l.map stOf).drop (j + 1)) j t fr dd (upto r x.f2.f1)).map (trS l.length)) (dd + 1) l a1 a2 a3 a4 ks a6 w ([t.b0, t.b1, t.b2].take j) ([t.a0, t.a1, t.a2].take j) x.f0 x.f1.f0 x.f1.f1 x.f2.f0 x.f2.f1 x.f3.f0 x.f3.f1) R →
        Ev (fun k => macadamref06_goes.l1 k fr j out dd r l a1 a2 a3 a4 ks a6 w ([t.b0, t.b1, t.b2].take j) ([t.a0, t.a1, t.a2].take j) x.f0 x.f1.f0 x.f1.f1 x.f2.f0 x.f2.f1 x.f3.f0 x.f3.f1) R := by
      intro n
      induction n with
      | zero =>
        intro dd r out R hn hr hdd hlo hR
        rw [upto_nil (by omega)] at hR
        simp only [goRoads, List.flatMap_nil, List.map_nil, List.append_nil] at hR
        refine Ev.step (fun k => ?_) hR
        rw [macadamref06_goes.l1, if_neg (by omega), w64 (n := dd + 1) (by omega) (by omega)]
      | succ n ihn =>
        intro dd r out R hn hr hdd hlo hR
        have hr2 : r ≤ x.f2.f1 := by omega
        have e1 : wrap64 (wrap64 (wrap64 (fr + dd) + r) + ix3 a2 a3 a4 w) = fr + dd + r + ix3 a2 a3 a4 w := by
          rw [w64 (n := fr + dd) (by omega) (by omega), w64 (n := fr + dd + r) (by omega) (by omega), w64 (by omega) (by omega)]
        have hg : Ev (fun k => macadamref06_right.f k l a1 a2 a3 a4 ks a6 (j : Int) (fr + dd + r + ix3 a2 a3 a4 w)) (rightL (ks.map ckOf) (j : Int) (fr + dd + r + ix3 a2 a3 a4 w)) := right_ev hk _ _ (by omega) ks.length 0 (by omega)
        rw [goRoads_cons _ _ _ _ _ _ _ _ hr2] at hR hlo
        rw [List.length_append] at hlo
        rw [List.map_append, ← List.append_assoc] at hR
        have hR2 := ihn dd (r + 1) (out ++ (if rightL (ks.map ckOf) (j : Int) (fr + dd + r + ix3 a2 a3 a4 w) = true then goStops (ix3 a2 a3 a4 w) (ks.map ckOf) ((l.map stOf).drop (j + 1)) j t (fr + dd + r + ix3 a2 a3 a4 w) r (upto (stOf x).sl (stOf x).sh) else []).map (trS l.length)) R (by omega) (by omega) hdd (by rw [List.length_append, List.length_map]; omega) hR
        refine Ev.step (fun k => by rw [macadamref06_goes.l1, if_pos hr2, if_pos hw.1, if_pos hw.2, e1]) ?_
        refine Ev.bind hg ?_
        cases hri : rightL (ks.map ckOf) (j : Int) (fr + dd + r + ix3 a2 a3 a4 w) with
        | false =>
          rw [hri] at hR2
          simp only [Bool.false_eq_true, if_false, List.map_nil, List.append_nil] at hR2 ⊢
          refine Ev.congr (fun k => ?_) hR2
          rw [w64 (n := r + 1) (by omega) (by omega)]
        | true =>
          rw [hri] at hR2 hlo
          simp only [if_true] at hR2 hlo ⊢
          exact st _ dd r _ x.f3.f0 out R rfl (Int.le_refl _) (by omega) (by omega) (Nat.le_trans (Nat.le_add_right _ _) (by rw [Nat.add_assoc]; exact hlo)) hR2
    have dt : ∀ (n : Nat) (dd : Int) (out : List S92), (x.f1.f1 - dd + 1).toNat = n → (x.f1.f0 ≤ dd) →
        out.length + (goDrives (ix3 a2 a3 a4 w) (ks.map ckOf) (stOf x) ((l.map stOf).drop (j + 1)) j t fr (upto dd x.f1.f1)).length ≤ 1000000 →
        Ev (fun k => macadamref06_goes.l0 k fr j out dd l a1 a2 a3 a4 ks a6 w ([t.b0, t.b1, t.b2].take j) ([t.a0, t.a1, t.a2].take j) x.f0 x.f1.f0 x.f1.f1 x.f2.f0 x.f2.f1 x.f3.f0 x.f3.f1)
          (out ++ (goDrives (ix3 a2 a3 a4 w) (ks.map ckOf) (stOf x) ((l.map stOf).drop (j + 1)) j t fr (upto dd x.f1.f1)).map (trS l.length)) := by
      intro n
      induction n with
      | zero =>
        intro dd out hn hd hlo
        rw [upto_nil (by omega)]
        simp only [goDrives, List.flatMap_nil, List.map_nil, List.append_nil]
        refine Ev.step (f := fun _ => some out) (fun k => ?_) (Ev.now _)
        rw [macadamref06_goes.l0, if_neg (by omega)]
      | succ n ihn =>
        intro dd out hn hd hlo
        have hd2 : dd ≤ x.f1.f1 := by omega
        rw [goDrives_cons _ _ _ _ _ _ _ hd2] at hlo ⊢
        rw [List.length_append] at hlo
        rw [List.map_append, ← List.append_assoc]
        have h2 := ihn (dd + 1) (out ++ (goRoads (ix3 a2 a3 a4 w) (ks.map ckOf) (stOf x) ((l.map stOf).drop (j + 1)) j t fr dd (upto (stOf x).rl (stOf x).rh)).map (trS l.length)) (by omega) (by omega) (by rw [List.length_append, List.length_map]; omega)
        refine Ev.step (fun k => ?_) (rt _ dd x.f2.f0 out _ rfl (Int.le_refl _) (by omega) (Nat.le_trans (Nat.le_add_right _ _) (by rw [Nat.add_assoc]; exact hlo)) h2)
        rw [macadamref06_goes.l0, if_pos hd2]
    rw [ed, goes_cons]
    have h6 := hlen t fr
    rw [ed, goes_cons] at h6
    have := dt _ x.f1.f0 [] rfl (Int.le_refl _) (by simp only [stOf] at h6; simp only [List.length_nil, stOf]; omega)
    rw [List.nil_append] at this
    refine Ev.step (fun k => ?_) this
    rw [macadamref06_goes.f, take3_len (by omega), if_neg (by omega), if_pos (by omega), if_pos (by omega), rd56 l j hx]
end
end Go.Proofs.YtbhjfojbjpbdbaaDoorPX
