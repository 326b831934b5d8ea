/- The statements' helpers: fresh, two, defined. -/
import Derived.Test.YtmokmndlkalplaaValid2
import Derived.Test.YtmokmndlkalplaaRight22
import Derived.Deep.RegionHeld3
import Derived.Test.YtmokmndlkalplaaFresh
namespace Go.Proofs.Ytmokmndlkalplaa
set_option linter.unusedSimpArgs false
set_option linter.unusedVariables false
open Go.RowKit

abbrev twoP (so : Sl) : PD := ⟨5, 1, 2, 0, 99, so, ⟨none, 0, 0⟩, 0, 864000, 0, [1], []⟩
abbrev freshM (p : PD) : MV := ⟨1, 0, p.id, -1, if p.kind = 0 then 0 else p.units, -1, 0, -1, 0⟩
set_option maxRecDepth 100000 in
set_option maxHeartbeats 400000 in
theorem law26_fresh (p : PD) (w : World) : Calls Try.prog 21 #[p.val] w (Gives (freshM p).val w) := by
  (go_enter Try.func21, Try.ntmps21; try dsimp only [List.append])
  go_wp2
  all_goals go_returns
  all_goals (refine gives_of (congrArg Ending.returned ?_) (by go_light; (repeat' (first | (with_reducible exact Below.refl _ _) | (with_reducible exact Nat.le_refl _) | (with_reducible assumption) | (with_reducible refine below_step ?_ ?_ hr) | (with_reducible refine below_over ?_ ?_ _) | (with_reducible refine Below.alloc ?_ ?_ _) | (with_reducible refine Below.setCell ?_ ?_ _) | (with_reducible refine below_put ?_ ?_ _) | (with_reducible refine Below.drew ?_) | (with_reducible refine below_drewN_ ?_ _) | (with_reducible refine le_drewN ?_ _) | (with_reducible refine over_le _ _ _ ?_) | (with_reducible refine le_alloc ?_ _) | (with_reducible refine le_setCell ?_ _ _) | (with_reducible refine le_put ?_ _ _) | (with_reducible refine le_drew ?_) | dsimp only | omega | ((try simp only [World.size_alloc, World.size_setCell, World.size_drew, size_put]); omega) | (simp; done)))); go_light; (try simp only [beq_iff_eq, beq_eq_false_iff_ne, bne_iff_ne, bne_eq_false_iff_eq, ne_eq, Bool.not_eq_true', Bool.not_eq_false'] at *); simp_all)
def TwoPost (w : World) (e : Ending) (w' : World) : Prop := ∃ so x, e = .returned (twoP so).val ∧ w' = Over w x ∧ (twoP so).at_ (Over w x)
theorem two_post (w : World) (c : Array Value) (t : TypeId) : TwoPost w (.returned (.agg #[.int .i64 5, .int .i64 1, .int .i64 2, .int .i64 0, .int .i64 99, .slice (some ⟨w.heap.size + 1, 0, none⟩) 1 1, .slice none 0 0, .int .i64 0, .int .i64 864000, .int .i64 0])) ((w.alloc (.cells c t)).alloc (.cells #[.int .i64 1] 3)) := by
  have hb : Below w.heap.size w ((w.alloc (.cells c t)).alloc (.cells #[.int .i64 1] 3)) := by (repeat' (first | (with_reducible exact Below.refl _ _) | (with_reducible exact Nat.le_refl _) | (with_reducible assumption) | (with_reducible refine below_step ?_ ?_ hr) | (with_reducible refine below_over ?_ ?_ _) | (with_reducible refine Below.alloc ?_ ?_ _) | (with_reducible refine Below.setCell ?_ ?_ _) | (with_reducible refine below_put ?_ ?_ _) | (with_reducible refine Below.drew ?_) | (with_reducible refine below_drewN_ ?_ _) | (with_reducible refine le_drewN ?_ _) | (with_reducible refine over_le _ _ _ ?_) | (with_reducible refine le_alloc ?_ _) | (with_reducible refine le_setCell ?_ _ _) | (with_reducible refine le_put ?_ _ _) | (with_reducible refine le_drew ?_) | dsimp only | omega | ((try simp only [World.size_alloc, World.size_setCell, World.size_drew, size_put]); omega) | (simp; done)))
  refine ⟨⟨some ⟨w.heap.size + 1, 0, none⟩, 1, 1⟩, _, rfl, over_of hb, ?_⟩
  rw [← over_of hb]
  have h := rd_fresh (w.alloc (.cells c t)) (enc := encI) 1 (fun _ => rfl) (t := 3) (cs := #[.int .i64 1]) [1] rfl (by decide)
  exact ⟨by simpa using h, Rd.nil_ _ _⟩
set_option maxRecDepth 100000 in
set_option maxHeartbeats 400000 in
theorem law26_two (w : World) : Calls Try.prog 23 #[] w (TwoPost w) := by
  (go_enter Try.func23, Try.ntmps23; try dsimp only [List.append])
  go_wp2
  go_returns
  exact two_post w _ _
def definedF (p : PD) (m : MV) : Bool := decide (right22 [p] = 0) && decide (mRight m = 0)
set_option maxRecDepth 100000 in
set_option maxHeartbeats 400000 in
theorem law26_defined (p : PD) (m : MV) (w : World) (hp : p.at_ w) : Calls Try.prog 11 #[p.val, m.val] w (Gives (.bool (definedF p m)) w) := by
  (go_enter Try.func11, Try.ntmps11; try dsimp only [List.append])
  have Hp := Lib.hid hp
  clear hp
  go_wp2_with fail
  refine (ref22_Right ⟨some ⟨w.heap.size + 1 + 1, 0, none⟩, 1, 1⟩ [p] _ ?h1 ?h2).mono ?_
  case h1 => exact rd_new 10 (fun _ => rfl) [p] (by simp) rfl rfl (by simp [maxLen])
  case h2 => intro q hq; rw [List.mem_singleton.1 hq]; exact Hp.out.toW (by go_light; (repeat' (first | (with_reducible exact Below.refl _ _) | (with_reducible exact Nat.le_refl _) | (with_reducible assumption) | (with_reducible refine below_step ?_ ?_ hr) | (with_reducible refine below_over ?_ ?_ _) | (with_reducible refine Below.alloc ?_ ?_ _) | (with_reducible refine Below.setCell ?_ ?_ _) | (with_reducible refine below_put ?_ ?_ _) | (with_reducible refine Below.drew ?_) | (with_reducible refine below_drewN_ ?_ _) | (with_reducible refine le_drewN ?_ _) | (with_reducible refine over_le _ _ _ ?_) | (with_reducible refine le_alloc ?_ _) | (with_reducible refine le_setCell ?_ _ _) | (with_reducible refine le_put ?_ _ _) | (with_reducible refine le_drew ?_) | dsimp only | omega | ((try simp only [World.size_alloc, World.size_setCell, World.size_drew, size_put]); omega) | (simp; done))))
  rintro e w' ⟨rfl, x, rfl⟩
  go_wp2_with (go_at_call 24; refine (ref25_Right m _).mono ?_; rintro e w' ⟨rfl, x, hw⟩; have hz := size_of hw; (try simp only [World.size_alloc, World.size_setCell, World.size_drew] at hz); subst hw)
  all_goals (go_ret; refine gives_of (ret_bool ?_) (by go_light; (repeat' (first | (with_reducible exact Below.refl _ _) | (with_reducible exact Nat.le_refl _) | (with_reducible assumption) | (with_reducible refine below_step ?_ ?_ hr) | (with_reducible refine below_over ?_ ?_ _) | (with_reducible refine Below.alloc ?_ ?_ _) | (with_reducible refine Below.setCell ?_ ?_ _) | (with_reducible refine below_put ?_ ?_ _) | (with_reducible refine Below.drew ?_) | (with_reducible refine below_drewN_ ?_ _) | (with_reducible refine le_drewN ?_ _) | (with_reducible refine over_le _ _ _ ?_) | (with_reducible refine le_alloc ?_ _) | (with_reducible refine le_setCell ?_ _ _) | (with_reducible refine le_put ?_ _ _) | (with_reducible refine le_drew ?_) | dsimp only | omega | ((try simp only [World.size_alloc, World.size_setCell, World.size_drew, size_put]); omega) | (simp; done)))); go_light; clear Hp; simp_all [definedF] <;> (rw [Bool.eq_iff_iff]; simp))
theorem def_of {p : PD} {m : MV} (h : definedF p m = true) : Def p m := by
  simp [definedF] at h
  obtain ⟨h1, h2⟩ := h
  have hm := mRight_facts h2
  have h3 : oneF p [] = 0 := by
    rw [right22] at h1
    simp only [List.length_cons, List.length_nil] at h1
    rw [if_neg (by omega)] at h1
    simp only [right22L] at h1
    split at h1
    · assumption
    · exact h1
  unfold oneF at h3
  split at h3
  · omega
  · rename_i hr
    have hr' : rangeBad p = false := by simpa using hr
    have hf := range_facts hr'
    split at h3
    · omega
    · split at h3
      · omega
      · split at h3
        · omega
        · rename_i ha
          simp [argBad] at ha
          have hu : p.units ≤ 604800 := by have := hf.2.2.2.2.1; unfold mostF at this; split at this <;> omega
          have hfew : p.kind ≠ 0 → p.units ≤ 100 := fun hk => by have := hf.2.2.2.2.1; unfold mostF at this; rw [if_neg hk] at this; exact this
          constructor <;> first | omega | exact hfew | exact hf.2.2.1
end Go.Proofs.Ytmokmndlkalplaa
