/-
  The contract of the closure that goes on stage by stage: one stage (package claim, whole). Written by this session.
-/
import Derived.Test.YtbhjfojbjpbdbaaDoorA7
namespace Go.Proofs.YtbhjfojbjpbdbaaDoor
open Go.RowKit

section
variable {b : Bk} {s k tv : Value} {n M l Bt Bb By Br Bd N : Nat} {Acc : List Tr → World → Prop}

/-- where one stage's walk stands: the truths gathered, the truth and the stage in their boxes; W: the world in which the call began. -/
structure Loc (b : Bk) (M l Bt : Nat) (Acc : List Tr → World → Prop) (Tb Xb : Nat) (x : St) (W : World) (t' : Tr) (cur : List Tr) (wx : World) : Prop where
  acc : Acc cur wx
  eff : Eff M l Bt W wx
  cache : CacheOk wx M b.cks
  tb : wx.heap[Tb]? = some (.cells t'.cells.toArray 87)
  xb : wx.heap[Xb]? = some (.cells x.cells.toArray 56)
  st : Safe l Bt wx Tb
  sx : Safe l Bt wx Xb

variable {Tb Xb : Nat} {x : St} {W : World} {t' : Tr} {cur : List Tr}

theorem nM_of_cells {W : World} {B : Nat} {c : Array Value} {T : TypeId} {cks : List Ck} (hC : CacheOk W M cks) (h : W.heap[B]? = some (.cells c T)) : B ≠ M := by
  obtain ⟨es, c', hm, _⟩ := hC
  intro e
  rw [e, hm] at h
  cases h

theorem Loc.env {wx : World} (h : Loc b M l Bt Acc Tb Xb x W t' cur wx) (hA : AccLaw l Bt Acc) (hE : Env b s k tv n M l Bt Bb By Br Bd W) : Env b s k tv n M l Bt Bb By Br Bd wx :=
  hE.eff h.eff h.cache (fun k hk => hA.lt _ _ k h.acc hk)

theorem Loc.step {wx wy : World} (h : Loc b M l Bt Acc Tb Xb x W t' cur wx) {cur' : List Tr} (he : Eff M l Bt wx wy) (ha : Acc cur' wy) (hC : CacheOk wy M b.cks) : Loc b M l Bt Acc Tb Xb x W t' cur' wy := by
  have lt : ∀ {B : Nat} {o : Obj}, wx.heap[B]? = some o → B < wx.heap.size := fun h1 => (Array.getElem?_eq_some_iff.1 h1).1
  exact ⟨ha, h.eff.trans he, hC, (h.st.block (lt h.tb) (nM_of_cells h.cache h.tb) he).trans h.tb, (h.sx.block (lt h.xb) (nM_of_cells h.cache h.xb) he).trans h.xb,
    h.st.eff (lt h.tb) he, h.sx.eff (lt h.xb) he⟩

theorem Loc.below {wx wy : World} (h : Loc b M l Bt Acc Tb Xb x W t' cur wx) (hA : AccLaw l Bt Acc) (hE : Env b s k tv n M l Bt Bb By Br Bd W) (hb : Below wx.heap.size wx wy) : Loc b M l Bt Acc Tb Xb x W t' cur wy :=
  have hx := h.env hA hE
  h.step (Eff.of_below hx.lB hb) (acc_below hA h.acc hx.ll hx.lB hb) (h.cache.of_block (hb.block M h.cache.lt))

theorem Loc.right {wx wy : World} (h : Loc b M l Bt Acc Tb Xb x W t' cur wx) (hA : AccLaw l Bt Acc) (hE : Env b s k tv n M l Bt Bb By Br Bd W) (hu : Upd (· = M) wx wy) (hC : CacheOk wy M b.cks) : Loc b M l Bt Acc Tb Xb x W t' cur wy := by
  have hx := h.env hA hE
  have hM := hx.sM
  have he : Eff M l Bt wx wy := Eff.of_updM hx.lB hM.nb hu
  refine h.step he (hA.keep _ _ _ h.acc hu.size fun k hk => hu.block k ?_ ?_) hC
  · rcases hk with rfl | rfl | hk
    · exact hx.ll
    · exact hx.lB
    · exact hx.la k hk
  · rintro rfl
    rcases hk with e | e | e
    · exact hM.nl e
    · exact hM.nb e
    · exact hM.na e

theorem put_cells (t : Tr) {j : Nat} (hj : j < 3) (m r : Int) : (t.cells.toArray.setIfInBounds (1 + j) (.int .i64 m)).setIfInBounds (4 + j) (.int .i64 r) = (t.put j m r).cells.toArray := by
  have hkk : j = 0 ∨ j = 1 ∨ j = 2 := by omega
  rcases hkk with rfl | rfl | rfl <;> rfl

theorem tr_cell_b {W : World} {B : Nat} (t : Tr) (h : W.heap[B]? = some (.cells t.cells.toArray 87)) {k : Nat} (hk : k < 3) : W.cell? ⟨B, 4 + k, none⟩ = some (.int .i64 (t.rough k)) := by
  rw [blk_cell h]
  have hkk : k = 0 ∨ k = 1 ∨ k = 2 := by omega
  rcases hkk with rfl | rfl | rfl <;> rfl

/-- the two stores into the truth's box. -/
theorem Loc.put {wx : World} (h : Loc b M l Bt Acc Tb Xb x W t' cur wx) (hA : AccLaw l Bt Acc) {j : Nat} (hj : j < 3) (m r : Int) (hne : Tb ≠ Xb) (hV : W.heap.size ≤ Tb) :
    Loc b M l Bt Acc Tb Xb x W (t'.put j m r) cur ((wx.setCell ⟨Tb, 1 + j, none⟩ (.int .i64 m)).setCell ⟨Tb, 4 + j, none⟩ (.int .i64 r)) := by
  have hsame : ∀ k, k ≠ Tb → ((wx.setCell ⟨Tb, 1 + j, none⟩ (.int .i64 m)).setCell ⟨Tb, 4 + j, none⟩ (.int .i64 r)).heap[k]? = wx.heap[k]? := fun k hk =>
    (Below.heap_setCell _ _ _ _ hk).trans (Below.heap_setCell _ _ _ _ hk)
  have hsz : ((wx.setCell ⟨Tb, 1 + j, none⟩ (.int .i64 m)).setCell ⟨Tb, 4 + j, none⟩ (.int .i64 r)).heap.size = wx.heap.size := by simp [World.setCell]
  have hacc := accBlk_same (hsame Bt (fun e => h.st.nb e.symm))
  refine ⟨hA.keep _ _ _ h.acc (by omega) (fun k hk => hsame k ?_), (h.eff.setCell hV h.st.nb _).setCell hV h.st.nb _, h.cache.of_block (hsame M (fun e => nM_of_cells h.cache h.tb e.symm)), ?_, (hsame Xb hne.symm).trans h.xb,
    ⟨h.st.nl, h.st.nb, by rw [hacc]; exact h.st.na⟩, ⟨h.sx.nl, h.sx.nb, by rw [hacc]; exact h.sx.na⟩⟩
  · rintro rfl
    rcases hk with e | e | e
    · exact h.st.nl e
    · exact h.st.nb e
    · exact h.st.na e
  · rw [← put_cells t' hj]
    exact blk_set (blk_set h.tb)

theorem put_put (t : Tr) (j : Nat) (m r m' r' : Int) : (t.put j m r).put j m' r' = t.put j m' r' := by
  rcases j with _ | _ | j <;> rfl
theorem put_w (t : Tr) (j : Nat) (m r : Int) : (t.put j m r).w = t.w := by
  unfold Tr.put
  split <;> rfl
theorem put_ok {t : Tr} (h : TrOk t) {j : Nat} {m r : Int} (hm : 0 ≤ m ∧ m ≤ 1000) (hr : 0 ≤ r ∧ r ≤ 30) : TrOk (t.put j m r) := by
  obtain ⟨h0, h1, h2, h3, h4, h5, h6⟩ := h
  unfold Tr.put
  split
  · exact ⟨h0, hm, h2, h3, hr, h5, h6⟩
  · exact ⟨h0, h1, hm, h3, h4, hr, h6⟩
  · exact ⟨h0, h1, h2, hm, h4, h5, hr⟩
theorem put_a0 {t : Tr} {j : Nat} {m r : Int} (hm : 1 ≤ m) (h : 0 < j → 1 ≤ t.a0) : 1 ≤ (t.put j m r).a0 := by
  unfold Tr.put
  split
  · exact hm
  · exact h (by omega)
  · rename_i h1 h2; exact h (by rcases Nat.eq_zero_or_pos j with e | e; exact absurd e h1; exact e)

theorem idx_bd {x : St} {b : Bk} (hb : Big b) {j : Nat} (h : b.sts[j]? = some x) : (1 ≤ x.dl ∧ x.dl ≤ x.dh ∧ x.dh ≤ 90) ∧ (0 ≤ x.rl ∧ x.rl ≤ x.rh ∧ x.rh ≤ 30) ∧ (0 ≤ x.sl ∧ x.sl ≤ x.sh ∧ x.sh ≤ 20) :=
  hb.st x (List.mem_of_getElem? h)

/-- the parts of what is gathered in one stage. -/
def goStops (cost : Int) (cks : List Ck) (l : List St) (j : Nat) (t : Tr) (minute r : Int) (ss : List Int) : List Tr := ss.flatMap fun s => goes cost cks l (j + 1) (t.put j minute r) (minute + s)
def goRoads (cost : Int) (cks : List Ck) (x : St) (l : List St) (j : Nat) (t : Tr) (fr d : Int) (rs : List Int) : List Tr := rs.flatMap fun r =>
  if rightL cks j (fr + d + r + cost) then goStops cost cks l j t (fr + d + r + cost) r (upto x.sl x.sh) else []
def goDrives (cost : Int) (cks : List Ck) (x : St) (l : List St) (j : Nat) (t : Tr) (fr : Int) (ds : List Int) : List Tr := ds.flatMap fun d => goRoads cost cks x l j t fr d (upto x.rl x.rh)
theorem goes_cons (cost : Int) (cks : List Ck) (x : St) (l : List St) (j : Nat) (t : Tr) (fr : Int) : goes cost cks (x :: l) j t fr = goDrives cost cks x l j t fr (upto x.dl x.dh) := rfl

theorem goRoads_cons (cost : Int) (cks : List Ck) (x : St) (l : List St) (j : Nat) (t : Tr) (fr d : Int) {r rh : Int} (h : r ≤ rh) : goRoads cost cks x l j t fr d (upto r rh) =
    (if rightL cks j (fr + d + r + cost) then goStops cost cks l j t (fr + d + r + cost) r (upto x.sl x.sh) else []) ++ goRoads cost cks x l j t fr d (upto (r + 1) rh) := by rw [upto_cons h]; rfl
theorem goStops_cons (cost : Int) (cks : List Ck) (l : List St) (j : Nat) (t : Tr) (m r : Int) {s sh : Int} (h : s ≤ sh) : goStops cost cks l j t m r (upto s sh) =
    goes cost cks l (j + 1) (t.put j m r) (m + s) ++ goStops cost cks l j t m r (upto (s + 1) sh) := by rw [upto_cons h]; rfl
theorem goDrives_cons (cost : Int) (cks : List Ck) (x : St) (l : List St) (j : Nat) (t : Tr) (fr : Int) {d dh : Int} (h : d ≤ dh) : goDrives cost cks x l j t fr (upto d dh) =
    goRoads cost cks x l j t fr d (upto x.rl x.rh) ++ goDrives cost cks x l j t fr (upto (d + 1) dh) := by rw [upto_cons h]; rfl

theorem Safe.new' {W W' : World} {K : Nat} (hE : Env b s k tv n M l Bt Bb By Br Bd W) (hb : Below W.heap.size W W') (hK : W.heap.size ≤ K) : Safe l Bt W' K :=
  ⟨by have := hE.ll; omega, by have := hE.lB; omega, fun e => by rw [accBlk_same (hb.block Bt hE.lB)] at e; have := hE.la K e; omega⟩

theorem five_slice (wr : World) (a b c d e : Int) : SlOf (wr.alloc (.cells #[.int .i64 a, .int .i64 b, .int .i64 c, .int .i64 d, .int .i64 e] 3)).drew (wr.heap.size + 1) 1 (.slice (some ⟨wr.heap.size, 0, none⟩) 5 5) (intCells [a, b, c, d, e]) := by
  refine ⟨_, 5, rfl, by simp [intCells], by simp [maxLen], by simp [intCells], fun _ => ⟨wr.heap.size, 0, rfl, by omega, fun i j r v hi hj => ?_⟩⟩
  have hi5 : i < 5 := by
    rcases Nat.lt_or_ge i 5 with h | h
    · exact h
    · rw [List.getElem?_eq_none (by simp [intCells]; omega)] at hi; cases hi
  have h1 := cell_new (w := wr) (c := #[.int .i64 a, .int .i64 b, .int .i64 c, .int .i64 d, .int .i64 e]) (T := 3) (j := 0 + i * 1 + j)
  refine Eq.trans (show _ = (wr.alloc (.cells #[.int .i64 a, .int .i64 b, .int .i64 c, .int .i64 d, .int .i64 e] 3)).cell? ⟨wr.heap.size, 0 + i * 1 + j, none⟩ from rfl) ?_
  rw [h1]
  have hii : i = 0 ∨ i = 1 ∨ i = 2 ∨ i = 3 ∨ i = 4 := by omega
  rcases hii with rfl | rfl | rfl | rfl | rfl <;> simp [intCells] at hi <;> subst hi <;> (rcases j with _ | j <;> simp at hj <;> subst hj <;> rfl)
theorem five_sum (fr dl d r c : Int) : [fr, dl, d, r, c].sum = fr + (dl + d) + r + c := by simp; omega

/-- what is claimed of a call of the closure at stage j. -/
def DriveAt (b : Bk) (s k tv : Value) (n M l Bt Bb By Br Bd N wn : Nat) (Acc : List Tr → World → Prop) (rest : List St) : Prop :=
  ∀ (j : Nat) (t : Tr) (fr : Int) (pre : List Tr) (W : World), b.sts.drop j = rest → j ≤ b.sts.length → TrOk t → t.w = (wn : Int) → (0 < j → 1 ≤ t.a0) → (0 ≤ fr ∧ fr ≤ 170 * j) →
    Env b s k tv n M l Bt Bb By Br Bd W → Acc pre W → (pre ++ goes (b.cost wn) b.cks rest j t fr).length ≤ N →
    Calls Tryd.prog 104 #[.agg t.cells.toArray, .int .i64 j, .int .i64 fr, .pointer (some ⟨Bb, 0, none⟩), .pointer (some ⟨By, 0, none⟩), .pointer (some ⟨Br, 0, none⟩), .pointer (some ⟨Bd, 0, none⟩)] W fun e W' =>
      e = .returned (.bool true) ∧ Acc (pre ++ goes (b.cost wn) b.cks rest j t fr) W' ∧ Eff M l Bt W W' ∧ CacheOk W' M b.cks

end
end Go.Proofs.YtbhjfojbjpbdbaaDoor
