/- Ledger: the chapter's examples hold. -/
import Derived.Test.YtodbcjhghpiloaaLedPost
import Derived.Test.YtodbcjhghpiloaaLedSum
import Derived.Test.YtodbcjhghpiloaaLedIns
namespace Go.Proofs.Ytodbcjhghpiloaa
set_option linter.unusedSimpArgs false
set_option linter.unusedVariables false
open Go.RowKit
abbrev twoL : List PV := [⟨1, 1, 2, 50⟩, ⟨2, 2, 3, 20⟩]
theorem rd_lit {α : Type} {w : World} {enc : α → List Value} (size : Nat) (hsz : ∀ x, (enc x).length = size) {b t n : Nat} {cs : Array Value} {fr : Nat × Nat} (xs : List α) (hb : w.heap[b]? = some (.cells cs t fr)) (hc : cs.toList = xs.flatMap enc) (hn : n = xs.length) (hm : xs.length ≤ maxLen) :
    Rd w enc ⟨some ⟨b, 0, none⟩, n, n⟩ xs := by
  subst hn
  exact rd_block hsz hb (fun i u h => by rw [← hc] at h; simpa using h) hm
def TwoPost (w : World) (e : Ending) (w' : World) : Prop := e = .returned (.slice (some ⟨w.heap.size, 0, none⟩) 2 2) ∧ Below w.heap.size w w' ∧ Rd w' PV.enc ⟨some ⟨w.heap.size, 0, none⟩, 2, 2⟩ twoL
set_option maxRecDepth 100000 in
set_option maxHeartbeats 400000 in
theorem law09_two (w : World) : Calls Try.prog 25 #[] w (TwoPost w) := by
  (go_enter Try.func25, Try.ntmps25; try dsimp only [List.append])
  go_wp2_with fail
  go_ret
  exact ⟨rfl, by go_light; (repeat' (first | (with_reducible exact Below.refl _ _) | (with_reducible exact Nat.le_refl _) | (with_reducible assumption) | (with_reducible refine below_step ?_ ?_ hr) | (with_reducible refine below_over ?_ ?_ _) | (with_reducible refine Below.alloc ?_ ?_ _) | (with_reducible refine Below.setCell ?_ ?_ _) | (with_reducible refine below_put ?_ ?_ _) | (with_reducible refine Below.drew ?_) | (with_reducible refine below_drewN_ ?_ _) | (with_reducible refine le_drewN ?_ _) | (with_reducible refine over_le _ _ _ ?_) | (with_reducible refine le_alloc ?_ _) | (with_reducible refine le_setCell ?_ _ _) | (with_reducible refine le_put ?_ _ _) | (with_reducible refine le_drew ?_) | dsimp only | omega | ((try simp only [World.size_alloc, World.size_setCell, World.size_drew, size_put]); omega) | (simp; done))), by go_light; exact rd_new 4 (fun _ => rfl) twoL rfl rfl rfl (by simp [maxLen])⟩
theorem two_good : goodP twoL := by
  intro x hx
  simp only [List.mem_cons, List.not_mem_nil, or_false] at hx
  rcases hx with rfl | rfl <;> simp
theorem two_wf : wfAcc twoL := by
  intro x hx
  simp only [List.mem_cons, List.not_mem_nil, or_false] at hx
  rcases hx with rfl | rfl <;> exact ⟨by decide, by decide⟩
theorem two_right : rightP twoL = 0 := by decide
theorem two_err1 : errP twoL ⟨2, 2, 3, 20⟩ = 0 := by decide
theorem two_post1 : postF twoL ⟨2, 2, 3, 20⟩ = twoL := by decide
theorem two_err2 : errP twoL ⟨2, 9, 8, 1⟩ = 7 := by decide
theorem two_of : ofP 3 twoL = [⟨2, 2, 3, 20⟩] := by decide
theorem two_acc : accP twoL = [1, 2, 3] := by decide
theorem one_right : rightP [⟨1, 4, 4, 1⟩] = 1 := by decide
theorem rd_tail {w : World} {b : Nat} {x y : PV} (h : Rd w PV.enc ⟨some ⟨b, 0, none⟩, 2, 2⟩ [x, y]) : Rd w PV.enc ⟨some ⟨b, 4, none⟩, 1, 1⟩ [y] := by
  obtain ⟨b', off, he, hb, hc⟩ := h.cells (by show 0 < 2; omega)
  cases he
  refine ⟨rfl, Nat.le_refl _, by show 1 ≤ maxLen; simp [maxLen], fun _ => ⟨_, _, rfl, hb, fun k z hk j u hu => ?_⟩⟩
  cases k with
  | zero =>
    simp at hk
    subst hk
    have h1 := hc 1 y rfl j u hu
    simpa [PV.enc, Nat.add_assoc] using h1
  | succ k => simp at hk
theorem two_cells {w : World} {b : Nat} (h : Rd w PV.enc ⟨some ⟨b, 0, none⟩, 2, 2⟩ twoL) : w.cell? ⟨b, 4, none⟩ = some (.int .i64 2) ∧ w.cell? ⟨b, 5, none⟩ = some (.int .i64 2) ∧ w.cell? ⟨b, 6, none⟩ = some (.int .i64 3) ∧ w.cell? ⟨b, 7, none⟩ = some (.int .i64 20) := by
  obtain ⟨b', off, he, hb, hc⟩ := h.cells (by show 0 < 2; omega)
  cases he
  exact ⟨hc 1 _ rfl 0 _ rfl, hc 1 _ rfl 1 _ rfl, hc 1 _ rfl 2 _ rfl, hc 1 _ rfl 3 _ rfl⟩
theorem turn_two {s : Sl} {w : World} (h : Rd w PV.enc s twoL) : Calls Try.prog 16 #[s.val, .int .i64 2] w (Gives (.tuple #[.int .i64 50, .int .i64 20]) w) := ledger_Turnover s twoL 2 w h two_good (by have := h.len; simp at this; omega)
theorem bal_two {s : Sl} {w : World} (h : Rd w PV.enc s twoL) : Calls Try.prog 18 #[s.val, .int .i64 2] w (Gives (.int .i64 30) w) := ledger_Balance s twoL 2 w h two_good (by have := h.len; simp at this; omega)
theorem right_is {v : Int} {s : Sl} {xs : List PV} (hv : rightP xs = v) {w : World} (h : Rd w PV.enc s xs) : Calls Try.prog 11 #[s.val] w (Gives (.int .i64 v) w) := hv ▸ ledger_Right s xs w h
theorem post_is {v : Int} {s : Sl} {xs ys : List PV} {p : PV} (hv : errP xs p = v) (hy : postF xs p = ys) {w : World} (h : Rd w PV.enc s xs) (hn : s.n ≤ 3000) : Calls Try.prog 13 #[s.val, p.val] w (PostPost ys v w) := by
  have h2 := ledger_Post s xs p w h hn
  rw [hv, hy] at h2
  exact h2
theorem of_is {s : Sl} {xs ys : List PV} {a : Int} (hy : ofP a xs = ys) {w : World} (h : Rd w PV.enc s xs) (hn : s.n ≤ 4000) : Calls Try.prog 23 #[s.val, .int .i64 a] w (OwnPost ys w) := by
  have h2 := ledger_Of s xs a w h hn
  rw [hy] at h2
  exact h2
theorem acc_is {s : Sl} {xs : List PV} {ys : List Int} (hy : accP xs = ys) {w : World} (h : Rd w PV.enc s xs) (hw : wfAcc xs) (hn : s.n ≤ 4000) : Calls Try.prog 21 #[s.val] w (OwnIPost ys w) := by
  have h2 := ledger_Accounts s xs w h hw hn
  rw [hy] at h2
  exact h2
end Go.Proofs.Ytodbcjhghpiloaa
