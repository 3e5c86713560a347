/-
  The contract of Like (package macadamref00): have two lists the same elements? Written by this session.
-/
import Derived.Test.YtbhjfojbjpbdbaaDoorB1
namespace Go.Proofs.YtbhjfojbjpbdbaaDoor
open Go.RowKit

set_option maxHeartbeats 1000000 in
theorem like_any (W : World) (v u : Value) (l m : List Int) (n : Nat) (hv : SlOf W n 1 v (intCells l)) (hu : SlOf W n 1 u (intCells m)) (hn : n ≤ W.heap.size) :
    Calls Tryd.prog 40 #[v, u] W fun e W' => e = .returned (.bool (decide (l = m))) ∧ Below W.heap.size W W' := by
  obtain ⟨va, vc, rfl, v1, v2, v3, v4⟩ := hv
  obtain ⟨ua, uc, rfl, u1, u2, u3, u4⟩ := hu
  have hvl : (intCells l).length = l.length := by simp [intCells]
  have hul : (intCells m).length = m.length := by simp [intCells]
  rw [hvl] at v1 v4 ⊢
  rw [hul] at u1 u4 ⊢
  have hb : l.length ≤ 9223372036854775807 := by unfold maxLen at v2; omega
  have H4 := Lib.hid v4
  have H5 := Lib.hid u4
  clear v1 v2 v3 v4 u1 u2 u3 u4 hvl hul
  by_cases hlen : l.length = m.length
  · obtain ⟨k, hk⟩ : ∃ k, l.length = k := ⟨_, rfl⟩
    have HK := Lib.hid hk
    have HM := Lib.hid (show m.length = k by rw [← hlen]; exact hk)
    rw [← hlen, hk]
    rw [hk] at hb
    clear hlen hk
    go_enter Tryd.func40, Tryd.ntmps40
    go_wp2_with fail
    go_loopg [5, 6] k (fun n sm i wx => ∃ (q : Nat) (o : Bool), Below W.heap.size W wx ∧ q ≤ k ∧ n = k - q ∧ sm = .bool o ∧ i = .int .i64 (q : Int) ∧ (o && decide (l.drop q = m.drop q)) = decide (l = m))
    case atStart => exact ⟨0, true, Below.refl _ _, by omega, rfl, rfl, rfl, by simp⟩
    case round =>
      obtain ⟨q, o, hbx, hq, hgk, rfl, rfl, hT⟩ := hrel
      have HG := Lib.hid hgk
      have HT := Lib.hid hT
      clear hgk hT
      cases o with
      | false =>
        go_wp2_with fail
        go_ret
        exact ⟨by rw [← HT.out]; rfl, hbx⟩
      | true =>
        by_cases hlt : q < k
        · obtain ⟨x, hx⟩ : ∃ x, l[q]? = some x := ⟨_, List.getElem?_eq_getElem (by rw [HK.out]; exact hlt)⟩
          obtain ⟨y, hy⟩ : ∃ y, m[q]? = some y := ⟨_, List.getElem?_eq_getElem (by rw [HM.out]; exact hlt)⟩
          obtain ⟨g, p, hva, hg, hcs⟩ := sl_at (fun h0 => H4.out (by simpa [intCells] using h0)) (show (intCells l)[q]? = some [.int .i64 x] by simp [intCells, hx])
          obtain ⟨g2, p2, hua, hg2, hcs2⟩ := sl_at (fun h0 => H5.out (by simpa [intCells] using h0)) (show (intCells m)[q]? = some [.int .i64 y] by simp [intCells, hy])
          subst hva
          subst hua
          have r0 : wr.cell? ⟨g, p + q, none⟩ = some (.int .i64 x) := (hbx.cell (p := ⟨g, p + q, none⟩) (by show g < _; omega)).trans (by have := hcs 0 _ rfl; simpa using this)
          have r1 : wr.cell? ⟨g2, p2 + q, none⟩ = some (.int .i64 y) := (hbx.cell (p := ⟨g2, p2 + q, none⟩) (by show g2 < _; omega)).trans (by have := hcs2 0 _ rfl; simpa using this)
          have hd : (decide (l.drop q = m.drop q)) = ((x == y) && decide (l.drop (q + 1) = m.drop (q + 1))) := by
            have h1 : q < l.length := by rw [HK.out]; exact hlt
            have h2 : q < m.length := by rw [HM.out]; exact hlt
            rw [List.drop_eq_getElem_cons h1, List.drop_eq_getElem_cons h2]
            rw [List.getElem?_eq_getElem h1] at hx
            rw [List.getElem?_eq_getElem h2] at hy
            injection hx with hx
            injection hy with hy
            rw [hx, hy, Bool.eq_iff_iff]
            simp
          have HD := Lib.hid hd
          clear hcs hcs2 hx hy hd
          go_wp2_with fail
          go_region
          all_goals (
            go_wp2_with fail
            go_roundg (k - (q + 1))
            case measure => rw [HG.out]; omega
            case rel => exact ⟨q + 1, x == y, hbx.drew, by omega, rfl, rfl, by go_num, by rw [← HT.out, HD.out]; rfl⟩)
        · have hf : decide (l = m) = true := by rw [← HT.out, List.drop_eq_nil_of_le (by rw [HK.out]; omega), List.drop_eq_nil_of_le (by rw [HM.out]; omega)]; rfl
          have HF := Lib.hid hf
          clear hf
          go_wp2_with fail
          go_ret
          exact ⟨by rw [HF.out]; rfl, hbx⟩
  · have hne : decide (l = m) = false := by simp; intro e; exact hlen (by rw [e])
    have HNE := Lib.hid hne
    have hi : ((l.length : Int) == (m.length : Int)) = false := by simp; omega
    clear hne
    go_enter Tryd.func40, Tryd.ntmps40
    go_wp2_with fail
    go_loopg [5, 6] 0 (fun n sm i wx => W = wx ∧ sm = .bool false ∧ i = .int .i64 0)
    case atStart => exact ⟨rfl, rfl, rfl⟩
    case round =>
      obtain ⟨rfl, rfl, rfl⟩ := hrel
      go_wp2_with fail
      go_ret
      exact ⟨by rw [HNE.out]; rfl, Below.refl _ _⟩
end Go.Proofs.YtbhjfojbjpbdbaaDoor
