/-
  Merged: B7, B8. Written by sessions of this seat.
-/
import Derived.Test.YtbhjfojbjpbdbaaDoorK6
import Derived.Test.YtbhjfojbjpbdbaaDoorK5
import Derived.Test.YtbhjfojbjpbdbaaDoorL12

-- B7: The contracts of Place, Rising, Sooner, Fewer, All (package macadamref00), for lists of small numbers. Written by a session.
namespace Go.Proofs.YtbhjfojbjpbdbaaDoor
open Go.RowKit

set_option maxRecDepth 100000 in
set_option maxHeartbeats 1000000 in
theorem place_any (W : World) (v : Value) (l : List Nat) (n k : Nat) (hs : SlOf W n 1 v (natCells l)) :
    Calls Tryd.prog 91 #[v, .int .i64 k] W fun e W' => (∃ r : Int, e = .returned (.int .i64 r) ∧ (0 ≤ r ↔ l.contains k = true)) ∧ W = W' := by
  obtain ⟨a, cap, rfl, h1, h2, h3, h4⟩ := hs
  simp only [natCells, List.length_map] at h1 h2
  unfold maxLen at h2
  have H4 := Lib.hid h4
  clear h3 h4
  simp only [natCells, List.length_map]
  obtain ⟨Post, hPost⟩ : ∃ Post : Ending → World → Prop, Post = fun e W' => (∃ r : Int, e = .returned (.int .i64 r) ∧ (0 ≤ r ↔ l.contains k = true)) ∧ W = W' := ⟨_, rfl⟩
  have HP := Lib.hid hPost
  rw [← hPost]
  clear hPost
  go_enter Tryd.func91, Tryd.ntmps91
  go_wp2_with fail
  go_loopg [5] l.length (fun n i wx => W = wx ∧ ∃ (q : Nat), q ≤ l.length ∧ n = l.length - q ∧ i = .int .i64 q ∧ (l.contains k = (l.drop q).contains k))
  case atStart => exact ⟨rfl, 0, by omega, rfl, rfl, by simp⟩
  case round =>
    obtain ⟨rfl, q1, hq1, hgk, rfl, hT⟩ := hrel
    have HG := Lib.hid hgk
    have HT := Lib.hid hT
    clear hgk hT
    by_cases hlt : q1 < l.length
    · obtain ⟨x, hx⟩ : ∃ x, l[q1]? = some x := ⟨_, List.getElem?_eq_getElem hlt⟩
      obtain ⟨g, p, e1, hg, hcs⟩ := sl_at H4.out (show (natCells l)[q1]? = some [.int .i64 (x : Int)] by simp [natCells, hx])
      subst e1
      have hdr : l.drop q1 = x :: l.drop (q1 + 1) := by
        rw [List.drop_eq_getElem_cons hlt]; rw [List.getElem?_eq_getElem hlt] at hx; cases hx; rfl
      have HD := Lib.hid hdr
      have r0 : W.cell? ⟨g, p + q1 * 1 + 0, none⟩ = some (.int .i64 (x : Int)) := hcs 0 _ rfl
      simp only [Nat.mul_one, Nat.add_zero] at r0
      clear hx hdr hcs
      by_cases hkx : k = x
      · subst hkx
        go_wp2_with fail
        rw [HP.out]
        exact ⟨⟨_, rfl, by rw [HT.out, HD.out]; simp⟩, rfl⟩
      · have hkx1 : ((x : Int) == (k : Int)) = false := by simp; omega
        have hkx2 : (k == x) = false := by simp [hkx]
        go_wp2_with fail
        go_roundg (l.length - (q1 + 1))
        case measure => rw [HG.out]; omega
        case rel => exact ⟨rfl, q1 + 1, hlt, rfl, by go_num, by rw [HT.out, HD.out, List.contains_cons, hkx2]; simp⟩
    · have hkl : q1 = l.length := by omega
      have hT1 : l.contains k = false := by rw [HT.out, hkl, List.drop_length]; rfl
      have HT1 := Lib.hid hT1
      clear hkl HT hT1
      go_wp2_with fail
      rw [HP.out]
      exact ⟨⟨_, rfl, by rw [HT1.out]; simp⟩, rfl⟩

set_option maxRecDepth 100000 in
set_option maxHeartbeats 1000000 in
theorem rising_any (W : World) (v : Value) (l : List Nat) (n k : Nat) (hs : SlOf W n 1 v (natCells l)) (hp : l.Pairwise (· < ·)) (hb : ∀ x ∈ l, x < k) :
    Calls Tryd.prog 55 #[v, .int .i64 k] W fun e W' => e = .returned (.bool true) ∧ Below W.heap.size W W' := by
  obtain ⟨a, cap, rfl, h1, h2, h3, h4⟩ := hs
  simp only [natCells, List.length_map] at h1 h2
  unfold maxLen at h2
  have H4 := Lib.hid h4
  have HP := Lib.hid hp
  have HB := Lib.hid hb
  clear h3 h4 hp hb
  simp only [natCells, List.length_map]
  go_enter Tryd.func55, Tryd.ntmps55
  go_wp2_with fail
  go_loopg [5, 6] l.length (fun n la i wx => ∃ (q : Nat) (y : Int), q ≤ l.length ∧ n = l.length - q ∧ la = .int .i64 y ∧ i = .int .i64 q ∧ (∀ x ∈ l.drop q, y < (x : Int)) ∧ W = wx)
  case atStart => exact ⟨0, -1, by omega, rfl, rfl, rfl, fun x _ => by omega, rfl⟩
  case round =>
    obtain ⟨q, y, hq, hgk, rfl, rfl, hT, rfl⟩ := hrel
    have HG := Lib.hid hgk
    have HT := Lib.hid hT
    clear hgk hT
    by_cases hlt : q < l.length
    · obtain ⟨x, hx⟩ : ∃ x, l[q]? = some x := ⟨_, List.getElem?_eq_getElem hlt⟩
      obtain ⟨g, p, e1, hg, hcs⟩ := sl_at H4.out (show (natCells l)[q]? = some [.int .i64 (x : Int)] by simp [natCells, hx])
      subst e1
      have hdr : l.drop q = x :: l.drop (q + 1) := by
        rw [List.drop_eq_getElem_cons hlt]; rw [List.getElem?_eq_getElem hlt] at hx; cases hx; rfl
      have hpw : ∀ z ∈ l.drop (q + 1), (x : Int) < (z : Int) := fun z hz => by
        have h := HP.out.drop (i := q)
        rw [hdr] at h
        have := List.rel_of_pairwise_cons h hz
        omega
      have HPW := Lib.hid hpw
      have r0 : W.cell? ⟨g, p + q * 1 + 0, none⟩ = some (.int .i64 (x : Int)) := hcs 0 _ rfl
      simp only [Nat.mul_one, Nat.add_zero] at r0
      have hyx : ¬ (x : Int) ≤ y := by have := HT.out x (by rw [hdr]; exact List.mem_cons_self); omega
      have hxk : ¬ (k : Int) ≤ (x : Int) := by have := HB.out x (List.mem_of_getElem? hx); omega
      clear hx hdr hcs hpw
      go_wp2_with fail
      go_roundg (l.length - (q + 1))
      case measure => rw [HG.out]; omega
      case rel => exact ⟨q + 1, x, by omega, rfl, rfl, by go_num, HPW.out, rfl⟩
    · go_wp2_with fail
      go_ret
      exact ⟨rfl, Below.refl _ _⟩

/-- does a list come before another one of its length? -/
def soonerL : List Nat → List Nat → Bool
  | x :: l, y :: m => if x = y then soonerL l m else decide (x < y)
  | _, _ => false
def fewerL (l m : List Nat) : Bool := if l.length = m.length then soonerL l m else decide (l.length < m.length)

set_option maxRecDepth 100000 in
set_option maxHeartbeats 2000000 in
theorem sooner_any (W : World) (v u : Value) (l m : List Nat) (n : Nat) (hv : SlOf W n 1 v (natCells l)) (hu : SlOf W n 1 u (natCells m)) (hn : n ≤ W.heap.size) (hlen : l.length = m.length) :
    Calls Tryd.prog 92 #[v, u] W fun e W' => e = .returned (.bool (soonerL l m)) ∧ Below W.heap.size W W' := by
  obtain ⟨va, vc, rfl, v1, v2, v3, v4⟩ := hv
  obtain ⟨ua, uc, rfl, u1, u2, u3, u4⟩ := hu
  have hvl : (natCells l).length = l.length := by simp [natCells]
  have hul : (natCells m).length = m.length := by simp [natCells]
  rw [hvl] at v1 v2 ⊢
  rw [hul, ← hlen] at u1
  rw [hul, ← hlen]
  have H4 := Lib.hid v4
  have H5 := Lib.hid u4
  have HL := Lib.hid hlen
  have HN := Lib.hid hn
  unfold maxLen at v2
  clear v3 v4 u2 u3 u4 hvl hul hlen hn
  go_enter Tryd.func92, Tryd.ntmps92
  go_wp2_with fail
  go_loopg [5] l.length (fun n0 i wx => ∃ (q : Nat), q ≤ l.length ∧ n0 = l.length - q ∧ i = .int .i64 q ∧ soonerL l m = soonerL (l.drop q) (m.drop q) ∧ Below W.heap.size W wx)
  case atStart => exact ⟨0, by omega, rfl, rfl, rfl, Below.refl _ _⟩
  case round =>
    obtain ⟨q, hq, hgk, rfl, hT, hbx⟩ := hrel
    have HG := Lib.hid hgk
    have HT := Lib.hid hT
    have HBX := Lib.hid hbx
    clear hgk hT
    by_cases hlt : q < l.length
    · obtain ⟨x, hx⟩ : ∃ x, l[q]? = some x := ⟨_, List.getElem?_eq_getElem hlt⟩
      obtain ⟨y, hy⟩ : ∃ y, m[q]? = some y := ⟨_, List.getElem?_eq_getElem (by have := HL.out; omega)⟩
      obtain ⟨g, p, e1, hg, hcs⟩ := sl_at H4.out (show (natCells l)[q]? = some [.int .i64 (x : Int)] by simp [natCells, hx])
      obtain ⟨g2, p2, e2, hg2, hcs2⟩ := sl_at H5.out (show (natCells m)[q]? = some [.int .i64 (y : Int)] by simp [natCells, hy])
      subst e1
      subst e2
      have hdr : l.drop q = x :: l.drop (q + 1) := by
        rw [List.drop_eq_getElem_cons hlt]; rw [List.getElem?_eq_getElem hlt] at hx; cases hx; rfl
      have hdm : m.drop q = y :: m.drop (q + 1) := by
        rw [List.drop_eq_getElem_cons (by have := HL.out; omega)]; rw [List.getElem?_eq_getElem (by have := HL.out; omega)] at hy; cases hy; rfl
      have hT2 := HT.out
      rw [hdr, hdm] at hT2
      have HT2 := Lib.hid hT2
      have r0 : wr.cell? ⟨g, p + q, none⟩ = some (.int .i64 (x : Int)) := by
        have h := hcs 0 _ rfl
        rw [Nat.mul_one, Nat.add_zero] at h
        exact (hbx.cell (p := ⟨g, p + q, none⟩) (Nat.lt_of_lt_of_le hg HN.out)).trans h
      have r1 : wr.cell? ⟨g2, p2 + q, none⟩ = some (.int .i64 (y : Int)) := by
        have h := hcs2 0 _ rfl
        rw [Nat.mul_one, Nat.add_zero] at h
        exact (hbx.cell (p := ⟨g2, p2 + q, none⟩) (Nat.lt_of_lt_of_le hg2 HN.out)).trans h
      have hqi : (q : Int) < (l.length : Int) := by omega
      clear hx hy hdr hdm hcs hcs2 hT2 hbx hg hg2
      by_cases hxy : x = y
      · subst hxy
        go_upto_region 4 with fail
        go_quiet (fail)
        go_wp2_with fail
        go_roundg (l.length - (q + 1))
        case measure => rw [HG.out]; omega
        case rel => exact ⟨q + 1, by omega, rfl, by go_num, by rw [HT2.out]; simp [soonerL], ⟨HBX.out.os, HBX.out.tape, HBX.out.output, HBX.out.size, HBX.out.block⟩⟩
      · have hne : ((x : Int) == (y : Int)) = false := by simp; omega
        have hne2 : ¬ (x : Int) = (y : Int) := by omega
        go_upto_region 4 with fail
        go_quiet (fail)
        go_upto_region 5 with fail
        go_quiet (fail)
        go_wp2_with fail
        go_ret
        exact ⟨ret_bool (by rw [HT2.out]; simp [soonerL, hxy]), ⟨HBX.out.os, HBX.out.tape, HBX.out.output, HBX.out.size, HBX.out.block⟩⟩
    · have hqi : ¬ (q : Int) < (l.length : Int) := by omega
      go_wp2_with fail
      go_ret
      exact ⟨ret_bool (by rw [HT.out, List.drop_eq_nil_of_le (by omega)]; simp [soonerL]), HBX.out⟩

set_option maxRecDepth 100000 in
set_option maxHeartbeats 2000000 in
theorem fewer_any (W : World) (v u : Value) (l m : List Nat) (n : Nat) (hv : SlOf W n 1 v (natCells l)) (hu : SlOf W n 1 u (natCells m)) (hn : n ≤ W.heap.size) :
    Calls Tryd.prog 58 #[v, u] W fun e W' => e = .returned (.bool (fewerL l m)) ∧ Below W.heap.size W W' := by
  have HV := Lib.hid hv
  have HU := Lib.hid hu
  have HN := Lib.hid hn
  obtain ⟨va, vc, rfl, v1, v2, v3, v4⟩ := hv
  obtain ⟨ua, uc, rfl, u1, u2, u3, u4⟩ := hu
  have hvl : (natCells l).length = l.length := by simp [natCells]
  have hul : (natCells m).length = m.length := by simp [natCells]
  rw [hvl] at HV v1 v2 ⊢
  rw [hul] at HU u1 u2 ⊢
  unfold maxLen at v2 u2
  clear v3 v4 u3 u4 hvl hul hn
  by_cases hlen : l.length = m.length
  · have HL := Lib.hid hlen
    have hl2 : (l.length : Int) = (m.length : Int) := by omega
    obtain ⟨k, hk⟩ : ∃ k, l.length = k := ⟨_, rfl⟩
    rw [← hlen] at HU ⊢
    have HF := Lib.hid (show fewerL l m = soonerL l m by unfold fewerL; rw [if_pos hlen])
    clear hl2 hlen
    rw [hk] at HU HV ⊢
    rw [hk] at v1
    clear hk u1 u2
    go_enter Tryd.func58, Tryd.ntmps58
    go_wp2_with (first
      | (go_at_call 92; refine (sooner_any _ _ _ l m n HV.out HU.out HN.out HL.out).mono ?_; rintro e w1 ⟨rfl, hb⟩; rw [← HF.out]; have HB := Lib.hid hb; clear hb)
      | fail)
    go_ret
    exact ⟨rfl, HB.out⟩
  · have hl2 : ((l.length : Int) == (m.length : Int)) = false := by simp; omega
    have hl3 : ¬ (l.length : Int) = (m.length : Int) := by omega
    have HF := Lib.hid (show fewerL l m = decide (l.length < m.length) by unfold fewerL; rw [if_neg hlen])
    clear hlen
    go_enter Tryd.func58, Tryd.ntmps58
    go_wp2_with fail
    go_ret
    exact ⟨ret_bool (by rw [HF.out]), Below.refl _ _⟩
end Go.Proofs.YtbhjfojbjpbdbaaDoor

-- B8: The contract of All (package macadamref00), for sets of at most four small numbers. Written by a session.
namespace Go.Proofs.YtbhjfojbjpbdbaaDoor
open Go.RowKit

theorem in16_any (s : Int) (q : Nat) (hs : 0 ≤ s ∧ s ≤ 15) (hq : q < 4) (w : World) : Calls Tryd.prog 44 #[.int .i64 s, .int .i64 (q : Int)] w fun e w' => e = .returned (.bool (bitOf s q)) ∧ w = w' := by
  have hb : (bits BinOp.and IntKind.i64 (s / 2 ^ q) 1 == 1) = bitOf s q := by
    have h1 : s = 0 ∨ s = 1 ∨ s = 2 ∨ s = 3 ∨ s = 4 ∨ s = 5 ∨ s = 6 ∨ s = 7 ∨ s = 8 ∨ s = 9 ∨ s = 10 ∨ s = 11 ∨ s = 12 ∨ s = 13 ∨ s = 14 ∨ s = 15 := by omega
    have h2 : q = 0 ∨ q = 1 ∨ q = 2 ∨ q = 3 := by omega
    rcases h1 with rfl | rfl | rfl | rfl | rfl | rfl | rfl | rfl | rfl | rfl | rfl | rfl | rfl | rfl | rfl | rfl <;> rcases h2 with rfl | rfl | rfl | rfl <;> decide
  go_enter Tryd.func44, Tryd.ntmps44
  go_wp2
  go_ret
  exact ⟨by first | exact congrArg (fun x => Ending.returned (Value.bool x)) hb | rfl, rfl⟩

theorem own_ge {w : World} {base size n : Nat} {e : TypeId} {v : Value} {xs : List Value} (h : w.ownsRow base e size v n xs) : ∀ g, v.ownBlock = some g → base ≤ g := by
  intro g hg
  rcases h.2 with ⟨rfl, _⟩ | ⟨g', cap, cur, rfl, hb, _⟩
  · cases hg
  · simp [Value.ownBlock] at hg
    omega

theorem grown_base {W w w' : World} {B : Nat} {row : Option Nat} (hb : Below B W w) (hg : w.grownBy w' row) (hB : B ≤ w.heap.size) (hr : ∀ g, row = some g → B ≤ g) : Below B W w' :=
  hb.trans ⟨hg.os, hg.tape, hg.output, hg.size, fun k hk => hg.block k (by omega) (fun e => by have := hr k e.symm; omega)⟩

def bitsL (s : Int) (n : Nat) : List Nat := (List.range n).filter fun q => bitOf s q

set_option maxRecDepth 100000 in
set_option maxHeartbeats 4000000 in
theorem all_any (W : World) (s : Int) (n : Nat) (hs : 0 ≤ s ∧ s ≤ 15) (hn : n ≤ 4) :
    Calls Tryd.prog 56 #[.int .i64 s, .int .i64 (n : Int)] W fun e W' => ∃ (a : Option Addr) (c : Nat), e = .returned (.slice a (bitsL s n).length c) ∧ Below W.heap.size W W' ∧ SlOf W' W'.heap.size 1 (.slice a (bitsL s n).length c) (natCells (bitsL s n)) := by
  obtain ⟨i3, i3a, i3b, i3c, i3d⟩ := info_parts info3z
  go_enter Tryd.func56, Tryd.ntmps56
  go_wp2_with fail
  go_loopg [5, 6] n (fun n0 v i wx => ∃ (q : Nat), q ≤ n ∧ n0 = n - q ∧ i = .int .i64 (q : Int) ∧ Below W.heap.size W wx ∧ wx.ownsRow W.heap.size 3 1 v (bitsL s q).length (natCells (bitsL s q)).flatten)
  case atStart => exact ⟨0, by omega, rfl, rfl, (Below.refl _ _).alloc (Nat.le_refl _) _, empty_row W 3 1⟩
  case round =>
    obtain ⟨q, hq, hgk, rfl, hbx, hown⟩ := hrel
    have HG := Lib.hid hgk
    have HBX := Lib.hid hbx
    have HOW := Lib.hid hown
    clear hgk hbx hown
    by_cases hlt : q < n
    · have hqi : (q : Int) < (n : Int) := by omega
      by_cases hbit : bitOf s q = true
      · have hst : bitsL s (q + 1) = bitsL s q ++ [q] := by
          unfold bitsL
          rw [List.range_succ, List.filter_append]
          simp [hbit]
        have HST := Lib.hid hst
        have HBI := Lib.hid hbit
        have hql : (bitsL s q).length ≤ 4 := by
          have := List.length_filter_le (fun q => bitOf s q) (List.range q)
          unfold bitsL
          simp at this ⊢
          omega
        clear hst hbit
        go_wp2_with (first
          | (go_at_call 44; refine (in16_any s q hs (by omega) _).mono ?_; rintro e w1 ⟨rfl, rfl⟩; rw [HBI.out])
          | (at_builtin; refine wpList_append_own _ rfl (.tmp 16) (.tmp 18) 44 rfl W.heap.size 3 i3 _ 1 8 Tryd.underlying44 i3a i3b i3c i3d rfl (by decide) u5 _ _ rfl (HOW.out.alloc _) ⟨wr.heap.size, 0, none⟩ 1 1 [.int .i64 (q : Int)] rfl rfl ?c1 ?c2 ?c3 ?c4 ?c5 ?_)
          | fail)
        case c1 =>
          intro j u hj
          rw [addr_add]
          exact cell_new.trans (by simpa using hj)
        case c2 => intro u hu; simp at hu; rcases hu with rfl; rfl
        case c3 => unfold maxLen; omega
        case c4 => omega
        case c5 => have := HBX.out.size; simp; omega
        intro v' w' hown' hgr _
        have hrow : natCells (bitsL s (q + 1)) = natCells (bitsL s q) ++ [[.int .i64 (q : Int)]] := by rw [HST.out, natCells_append]
        have hlen : (bitsL s (q + 1)).length = (bitsL s q).length + 1 := by rw [HST.out]; simp
        have hnew : w'.ownsRow W.heap.size 3 1 v' (bitsL s (q + 1)).length (natCells (bitsL s (q + 1))).flatten := by
          rw [hrow, hlen]
          simpa using hown'
        have hbn := grown_base (HBX.out.alloc HBX.out.size (.cells #[.int .i64 (q : Int)] 3)) hgr (by have := HBX.out.size; simp; omega) (own_ge HOW.out)
        have HN1 := Lib.hid hnew
        have HB1 := Lib.hid hbn
        clear hown' hgr hrow hlen hnew hbn
        go_wp2_with fail
        go_roundg (n - (q + 1))
        case measure => rw [HG.out]; omega
        case rel => exact ⟨q + 1, by omega, rfl, by go_num, HB1.out, HN1.out⟩
      · have hbf : bitOf s q = false := by simpa using hbit
        have hst : bitsL s (q + 1) = bitsL s q := by
          unfold bitsL
          rw [List.range_succ, List.filter_append]
          simp [hbf]
        have HST := Lib.hid hst
        have HBI := Lib.hid hbf
        clear hst hbit hbf
        go_wp2_with (first
          | (go_at_call 44; refine (in16_any s q hs (by omega) _).mono ?_; rintro e w1 ⟨rfl, rfl⟩; rw [HBI.out])
          | fail)
        go_roundg (n - (q + 1))
        case measure => rw [HG.out]; omega
        case rel => exact ⟨q + 1, by omega, rfl, by go_num, HBX.out, by rw [HST.out]; exact HOW.out⟩
    · have hqi : ¬ (q : Int) < (n : Int) := by omega
      have hqn : q = n := by omega
      subst hqn
      have hsl := SlOf.own (rows := natCells (bitsL s q)) (sz := 1) (by have h := HOW.out; rwa [show (bitsL s q).length = (natCells (bitsL s q)).length by simp [natCells]] at h) (fun r hr => by obtain ⟨z, _, rfl⟩ := List.mem_map.1 hr; rfl)
      obtain ⟨a, c, e1⟩ := hsl.slice
      have hl : (natCells (bitsL s q)).length = (bitsL s q).length := by simp [natCells]
      rw [hl] at e1
      subst e1
      have HSL := Lib.hid hsl
      clear hsl hl
      go_wp2_with fail
      exact bodyPost_ret (results_tmp rfl _ _ _) rfl ⟨a, c, rfl, HBX.out, HSL.out⟩
end Go.Proofs.YtbhjfojbjpbdbaaDoor
