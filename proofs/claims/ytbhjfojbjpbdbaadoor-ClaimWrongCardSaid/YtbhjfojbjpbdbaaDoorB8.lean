/-
  The contract of All (package macadamref00), for sets of at most four small numbers. Written by this session.
-/
import Derived.Test.YtbhjfojbjpbdbaaDoorB7
import Derived.Test.YtbhjfojbjpbdbaaDoorL12
namespace Go.Proofs.YtbhjfojbjpbdbaaDoor
open Go.RowKit

theorem in16_any (s : Int) (q : Nat) (hs : 0 ≤ s ∧ s ≤ 15) (hq : q < 4) (w : World) : Calls Tryd.prog 44 #[.int .i64 s, .int .i64 (q : Int)] w fun e w' => e = .returned (.bool (bitOf s q)) ∧ w = w' := by
  have hb : (bits BinOp.and IntKind.i64 (s / 2 ^ q) 1 == 1) = bitOf s q := by
    have h1 : s = 0 ∨ s = 1 ∨ s = 2 ∨ s = 3 ∨ s = 4 ∨ s = 5 ∨ s = 6 ∨ s = 7 ∨ s = 8 ∨ s = 9 ∨ s = 10 ∨ s = 11 ∨ s = 12 ∨ s = 13 ∨ s = 14 ∨ s = 15 := by omega
    have h2 : q = 0 ∨ q = 1 ∨ q = 2 ∨ q = 3 := by omega
    rcases h1 with rfl | rfl | rfl | rfl | rfl | rfl | rfl | rfl | rfl | rfl | rfl | rfl | rfl | rfl | rfl | rfl <;> rcases h2 with rfl | rfl | rfl | rfl <;> decide
  go_enter Tryd.func44, Tryd.ntmps44
  go_wp2
  go_ret
  exact ⟨by first | exact congrArg (fun x => Ending.returned (Value.bool x)) hb | rfl, rfl⟩

theorem own_ge {w : World} {base size n : Nat} {e : TypeId} {v : Value} {xs : List Value} (h : w.ownsRow base e size v n xs) : ∀ g, v.ownBlock = some g → base ≤ g := by
  intro g hg
  rcases h.2 with ⟨rfl, _⟩ | ⟨g', cap, cur, rfl, hb, _⟩
  · cases hg
  · simp [Value.ownBlock] at hg
    omega

theorem grown_base {W w w' : World} {B : Nat} {row : Option Nat} (hb : Below B W w) (hg : w.grownBy w' row) (hB : B ≤ w.heap.size) (hr : ∀ g, row = some g → B ≤ g) : Below B W w' :=
  hb.trans ⟨hg.os, hg.tape, hg.output, hg.size, fun k hk => hg.block k (by omega) (fun e => by have := hr k e.symm; omega)⟩

def bitsL (s : Int) (n : Nat) : List Nat := (List.range n).filter fun q => bitOf s q

set_option maxRecDepth 100000 in
set_option maxHeartbeats 4000000 in
theorem all_any (W : World) (s : Int) (n : Nat) (hs : 0 ≤ s ∧ s ≤ 15) (hn : n ≤ 4) :
    Calls Tryd.prog 56 #[.int .i64 s, .int .i64 (n : Int)] W fun e W' => ∃ (a : Option Addr) (c : Nat), e = .returned (.slice a (bitsL s n).length c) ∧ Below W.heap.size W W' ∧ SlOf W' W'.heap.size 1 (.slice a (bitsL s n).length c) (natCells (bitsL s n)) := by
  obtain ⟨i3, i3a, i3b, i3c, i3d⟩ := info_parts info3z
  go_enter Tryd.func56, Tryd.ntmps56
  go_wp2_with fail
  go_loopg [5, 6] n (fun n0 v i wx => ∃ (q : Nat), q ≤ n ∧ n0 = n - q ∧ i = .int .i64 (q : Int) ∧ Below W.heap.size W wx ∧ wx.ownsRow W.heap.size 3 1 v (bitsL s q).length (natCells (bitsL s q)).flatten)
  case atStart => exact ⟨0, by omega, rfl, rfl, (Below.refl _ _).alloc (Nat.le_refl _) _, empty_row W 3 1⟩
  case round =>
    obtain ⟨q, hq, hgk, rfl, hbx, hown⟩ := hrel
    have HG := Lib.hid hgk
    have HBX := Lib.hid hbx
    have HOW := Lib.hid hown
    clear hgk hbx hown
    by_cases hlt : q < n
    · have hqi : (q : Int) < (n : Int) := by omega
      by_cases hbit : bitOf s q = true
      · have hst : bitsL s (q + 1) = bitsL s q ++ [q] := by
          unfold bitsL
          rw [List.range_succ, List.filter_append]
          simp [hbit]
        have HST := Lib.hid hst
        have HBI := Lib.hid hbit
        have hql : (bitsL s q).length ≤ 4 := by
          have := List.length_filter_le (fun q => bitOf s q) (List.range q)
          unfold bitsL
          simp at this ⊢
          omega
        clear hst hbit
        go_wp2_with (first
          | (go_at_call 44; refine (in16_any s q hs (by omega) _).mono ?_; rintro e w1 ⟨rfl, rfl⟩; rw [HBI.out])
          | (at_builtin; refine wpList_append_own _ rfl (.tmp 16) (.tmp 18) 44 rfl W.heap.size 3 i3 _ 1 8 Tryd.underlying44 i3a i3b i3c i3d rfl (by decide) u5 _ _ rfl (HOW.out.alloc _) ⟨wr.heap.size, 0, none⟩ 1 1 [.int .i64 (q : Int)] rfl rfl ?c1 ?c2 ?c3 ?c4 ?c5 ?_)
          | fail)
        case c1 =>
          intro j u hj
          rw [addr_add]
          exact cell_new.trans (by simpa using hj)
        case c2 => intro u hu; simp at hu; rcases hu with rfl; rfl
        case c3 => unfold maxLen; omega
        case c4 => omega
        case c5 => have := HBX.out.size; simp; omega
        intro v' w' hown' hgr _
        have hrow : natCells (bitsL s (q + 1)) = natCells (bitsL s q) ++ [[.int .i64 (q : Int)]] := by rw [HST.out, natCells_append]
        have hlen : (bitsL s (q + 1)).length = (bitsL s q).length + 1 := by rw [HST.out]; simp
        have hnew : w'.ownsRow W.heap.size 3 1 v' (bitsL s (q + 1)).length (natCells (bitsL s (q + 1))).flatten := by
          rw [hrow, hlen]
          simpa using hown'
        have hbn := grown_base (HBX.out.alloc HBX.out.size (.cells #[.int .i64 (q : Int)] 3)) hgr (by have := HBX.out.size; simp; omega) (own_ge HOW.out)
        have HN1 := Lib.hid hnew
        have HB1 := Lib.hid hbn
        clear hown' hgr hrow hlen hnew hbn
        go_wp2_with fail
        go_roundg (n - (q + 1))
        case measure => rw [HG.out]; omega
        case rel => exact ⟨q + 1, by omega, rfl, by go_num, HB1.out, HN1.out⟩
      · have hbf : bitOf s q = false := by simpa using hbit
        have hst : bitsL s (q + 1) = bitsL s q := by
          unfold bitsL
          rw [List.range_succ, List.filter_append]
          simp [hbf]
        have HST := Lib.hid hst
        have HBI := Lib.hid hbf
        clear hst hbit hbf
        go_wp2_with (first
          | (go_at_call 44; refine (in16_any s q hs (by omega) _).mono ?_; rintro e w1 ⟨rfl, rfl⟩; rw [HBI.out])
          | fail)
        go_roundg (n - (q + 1))
        case measure => rw [HG.out]; omega
        case rel => exact ⟨q + 1, by omega, rfl, by go_num, HBX.out, by rw [HST.out]; exact HOW.out⟩
    · have hqi : ¬ (q : Int) < (n : Int) := by omega
      have hqn : q = n := by omega
      subst hqn
      have hsl := SlOf.own (rows := natCells (bitsL s q)) (sz := 1) (by have h := HOW.out; rwa [show (bitsL s q).length = (natCells (bitsL s q)).length by simp [natCells]] at h) (fun r hr => by obtain ⟨z, _, rfl⟩ := List.mem_map.1 hr; rfl)
      obtain ⟨a, c, e1⟩ := hsl.slice
      have hl : (natCells (bitsL s q)).length = (bitsL s q).length := by simp [natCells]
      rw [hl] at e1
      subst e1
      have HSL := Lib.hid hsl
      clear hsl hl
      go_wp2_with fail
      exact bodyPost_ret (results_tmp rfl _ _ _) rfl ⟨a, c, rfl, HBX.out, HSL.out⟩
end Go.Proofs.YtbhjfojbjpbdbaaDoor
