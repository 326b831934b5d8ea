/- The program's check of weekly hours. -/
import Derived.Test.YtfajjgkhanjcfaaClock
import Derived.Test.YtfajjgkhanjcfaaMA
namespace Go.Proofs.Ytfajjgkhanjcfaa
set_option linter.unusedSimpArgs false
set_option linter.unusedVariables false
open Go.RowKit
set_option maxRecDepth 100000 in
set_option maxHeartbeats 800000 in
theorem clock_Right (s : Sl) (hs : List Hrs) (w : World) (hr : Rd w Hrs.enc s hs) : Calls Try.prog 41 #[s.val] w (Gives (.bool (hoursF hs)) w) := by
  obtain ⟨A, n, c⟩ := s
  have hmax : n ≤ 9223372036854775807 := hr.bound
  have Hr := Lib.hid hr
  clear hr
  have Hn : Hid (hs.length = n) := Hr.out.len
  simp only [Sl.val]
  (go_enter Try.func41, Try.ntmps41; try dsimp only [List.append])
  go_wp2
  go_loopw [7] (fun i wr => ∃ k : Nat, k ≤ n ∧ i = .int .i64 k ∧ Hid (okL (hs.drop k) = okL hs) ∧ Below w.heap.size w wr) (fun i _ => n - (intOf i).toNat)
  case atStart => exact ⟨0, Nat.zero_le _, rfl, rfl, Below.refl _ _⟩
  case round =>
    obtain ⟨k, hk, rfl, Hl, hB⟩ := hrel
    have hz := hB.size
    by_cases hlt : k < n
    · obtain ⟨b, off, x, rfl, hbw, Hx, -, hc0, hc1, hc2⟩ := Hr.out.hrs hlt
      have e0 := (hB.cell (p := ⟨b, _, none⟩) hbw).trans hc0
      have e1 := (hB.cell (p := ⟨b, _, none⟩) hbw).trans hc1
      have e2 := (hB.cell (p := ⟨b, _, none⟩) hbw).trans hc2
      clear hc0 hc1 hc2
      cases hok : x.ok
      · have Hok := Lib.hid hok
        clear hok
        go_wp2
        all_goals first
          | (go_ret; exact gives_of (ret_bool (by go_light; rw [hoursF, ← Hl.out, Hx.out]; simp only [okL]; rw [if_neg (by rw [Hok.out]; simp)]; rfl)) (by go_light; (repeat' (first | (with_reducible exact Below.refl _ _) | (with_reducible exact Nat.le_refl _) | (with_reducible assumption) | (with_reducible refine below_step ?_ ?_ hr) | (with_reducible refine below_over ?_ ?_ _) | (with_reducible refine Below.alloc ?_ ?_ _) | (with_reducible refine Below.setCell ?_ ?_ _) | (with_reducible refine below_put ?_ ?_ _) | (with_reducible refine Below.drew ?_) | (with_reducible refine below_drewN_ ?_ _) | (with_reducible refine le_drewN ?_ _) | (with_reducible refine over_le _ _ _ ?_) | (with_reducible refine le_alloc ?_ _) | (with_reducible refine le_setCell ?_ _ _) | (with_reducible refine le_put ?_ _ _) | (with_reducible refine le_drew ?_) | dsimp only | omega | ((try simp only [World.size_alloc, World.size_setCell, World.size_drew, size_put]); omega) | (simp; done)))))
          | (exfalso; go_light; have h := Hok.out; simp [Hrs.ok] at h; omega)
      · obtain ⟨h1, h2, h3, h4, h5⟩ : ¬ x.days < 1 ∧ ¬ 127 < x.days ∧ ¬ x.from_ < 0 ∧ ¬ x.till ≤ x.from_ ∧ ¬ 86400 < x.till := by simp [Hrs.ok] at hok; omega
        have Hok := Lib.hid hok
        clear hok
        go_wp2
        go_roundw
        case rel => exact ⟨k + 1, by omega, by go_num, Lib.hid (by go_light; rw [← Hl.out, Hx.out]; simp only [okL]; rw [if_pos Hok.out]), by go_light; (repeat' (first | (with_reducible exact Below.refl _ _) | (with_reducible exact Nat.le_refl _) | (with_reducible assumption) | (with_reducible refine below_step ?_ ?_ hr) | (with_reducible refine below_over ?_ ?_ _) | (with_reducible refine Below.alloc ?_ ?_ _) | (with_reducible refine Below.setCell ?_ ?_ _) | (with_reducible refine below_put ?_ ?_ _) | (with_reducible refine Below.drew ?_) | (with_reducible refine below_drewN_ ?_ _) | (with_reducible refine le_drewN ?_ _) | (with_reducible refine over_le _ _ _ ?_) | (with_reducible refine le_alloc ?_ _) | (with_reducible refine le_setCell ?_ _ _) | (with_reducible refine le_put ?_ _ _) | (with_reducible refine le_drew ?_) | dsimp only | omega | ((try simp only [World.size_alloc, World.size_setCell, World.size_drew, size_put]); omega) | (simp; done)))⟩
        case measure => simp [intOf]; omega
    · have Ht : Hid (okL hs = true) := by show okL hs = true; rw [← Hl.out, Hr.out.done_ hlt]; rfl
      go_wp2
      go_ret
      exact gives_of (ret_bool (by rw [hoursF, Ht.out, Hn.out]; simp <;> omega)) (by go_light; (repeat' (first | (with_reducible exact Below.refl _ _) | (with_reducible exact Nat.le_refl _) | (with_reducible assumption) | (with_reducible refine below_step ?_ ?_ hr) | (with_reducible refine below_over ?_ ?_ _) | (with_reducible refine Below.alloc ?_ ?_ _) | (with_reducible refine Below.setCell ?_ ?_ _) | (with_reducible refine below_put ?_ ?_ _) | (with_reducible refine Below.drew ?_) | (with_reducible refine below_drewN_ ?_ _) | (with_reducible refine le_drewN ?_ _) | (with_reducible refine over_le _ _ _ ?_) | (with_reducible refine le_alloc ?_ _) | (with_reducible refine le_setCell ?_ _ _) | (with_reducible refine le_put ?_ _ _) | (with_reducible refine le_drew ?_) | dsimp only | omega | ((try simp only [World.size_alloc, World.size_setCell, World.size_drew, size_put]); omega) | (simp; done))))
end Go.Proofs.Ytfajjgkhanjcfaa
