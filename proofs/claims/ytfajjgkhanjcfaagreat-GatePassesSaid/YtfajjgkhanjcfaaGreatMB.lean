/- Several of my texts in one: RevX, RevY. -/
import Derived.Test.YtfajjgkhanjcfaaGreatRevS
import Derived.Test.YtfajjgkhanjcfaaGreatRevG
import Derived.Test.YtfajjgkhanjcfaaGreatMA
/- Revisions: Change, of the program and of the reference. -/
namespace Go.Proofs.YtfajjgkhanjcfaaGreat
set_option linter.unusedSimpArgs false
set_option linter.unusedVariables false
open Go.RowKit
def RevGives (t : R3) (w : World) (e : Ending) (w' : World) : Prop := ∃ s : Sl, e = .returned (.tuple #[.agg #[.int .i64 t.version, .slice s.a s.n s.c], .int .i64 t.err]) ∧ Below w.heap.size w w' ∧ Rd w' encI s t.list
theorem revGives_zero {w w' : World} {x : Int} (h : Below w.heap.size w w') : RevGives ⟨0, [], x⟩ w (.returned (.tuple #[.agg #[.int .i64 0, .slice none 0 0], .int .i64 x])) w' := ⟨⟨none, 0, 0⟩, rfl, h, Rd.nil_ _ _⟩
/-- As RevGives; the list lies in memory of the call's own. -/
def RevOwn (t : R3) (w : World) (e : Ending) (w' : World) : Prop := ∃ s : Sl, e = .returned (.tuple #[.agg #[.int .i64 t.version, .slice s.a s.n s.c], .int .i64 t.err]) ∧ Below w.heap.size w w' ∧ OwnI w' w.heap.size s t.list
theorem revOwn_zero {w w' : World} {x : Int} (h : Below w.heap.size w w') : RevOwn ⟨0, [], x⟩ w (.returned (.tuple #[.agg #[.int .i64 0, .slice none 0 0], .int .i64 x])) w' := ⟨⟨none, 0, 0⟩, rfl, h, Own.nil_ _ _ _ _ _⟩
theorem RevOwn.gives {t : R3} {w w' : World} {e : Ending} (h : RevOwn t w e w') : RevGives t w e w' := by
  obtain ⟨s, h1, h2, h3⟩ := h
  exact ⟨s, h1, h2, h3.rd (fun _ => rfl)⟩
theorem chF_bad {v : Int} {l add drop : List Int} (h : (serL add && serL drop) = false) : chF v l add drop = ⟨0, [], 2⟩ := by unfold chF; rw [if_pos h]
theorem chF_same {v : Int} {l add drop : List Int} (h : (serL add && serL drop) = true) (h2 : (chL l add drop == l) = true) : chF v l add drop = ⟨v, l, 0⟩ := by unfold chF; rw [if_neg (by rw [h]; simp), if_pos h2]
theorem chF_over {v : Int} {l add drop : List Int} (h : (serL add && serL drop) = true) (h2 : (chL l add drop == l) = false) (h3 : 1000000 ≤ v) : chF v l add drop = ⟨0, [], 12⟩ := by unfold chF; rw [if_neg (by rw [h]; simp), if_neg (by rw [h2]; simp), if_pos h3]
theorem chF_full {v : Int} {l add drop : List Int} (h : (serL add && serL drop) = true) (h2 : (chL l add drop == l) = false) (h3 : ¬ 1000000 ≤ v) (h4 : 200 < (chL l add drop).length) : chF v l add drop = ⟨0, [], 9⟩ := by unfold chF; rw [if_neg (by rw [h]; simp), if_neg (by rw [h2]; simp), if_neg h3, if_pos h4]
theorem chF_new {v : Int} {l add drop : List Int} (h : (serL add && serL drop) = true) (h2 : (chL l add drop == l) = false) (h3 : ¬ 1000000 ≤ v) (h4 : ¬ 200 < (chL l add drop).length) : chF v l add drop = ⟨v + 1, chL l add drop, 0⟩ := by unfold chF; rw [if_neg (by rw [h]; simp), if_neg (by rw [h2]; simp), if_neg h3, if_neg h4]
end Go.Proofs.YtfajjgkhanjcfaaGreat

/- Revisions: Change, of the reference. -/
namespace Go.Proofs.YtfajjgkhanjcfaaGreat
set_option linter.unusedSimpArgs false
set_option linter.unusedVariables false
open Go.RowKit
end Go.Proofs.YtfajjgkhanjcfaaGreat
