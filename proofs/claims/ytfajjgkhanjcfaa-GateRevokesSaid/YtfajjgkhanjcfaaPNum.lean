/- Products: the program's checks of one product; ages. -/
import Derived.Test.YtfajjgkhanjcfaaRight22
import Derived.Test.YtfajjgkhanjcfaaClockR
namespace Go.Proofs.Ytfajjgkhanjcfaa
set_option linter.unusedSimpArgs false
set_option linter.unusedVariables false
open Go.RowKit
def ageF (p : PD) (a : Int) : Bool := decide (p.least ≤ a) && decide (a ≤ p.most)
set_option maxRecDepth 100000 in
set_option maxHeartbeats 4000000 in
theorem product_inRange_bad (p : PD) (w : World) (hbad : rangeBad p = true) : Calls Try.prog 39 #[p.val] w (Gives (.bool false) w) := by
  obtain ⟨pid, kind, units, least, most, ⟨A, n, c⟩, ⟨hA, hn, hc⟩, sf, st, price, xs, hours⟩ := p
  have HB := Lib.hid hbad
  clear hbad
  simp only [PD.val]
  rcases kind4 kind with rfl | rfl | rfl | ⟨h0, h1, h2⟩
  · cases hd1 : decide (1 ≤ units) <;> cases hd2 : decide (units ≤ 604800)
    all_goals (go_enter Try.func39, Try.ntmps39; try dsimp only [List.append])
    all_goals go_wp2
    all_goals first
      | (go_ret; exact gives_of rfl (by go_light; (repeat' (first | (with_reducible exact Below.refl _ _) | (with_reducible exact Nat.le_refl _) | (with_reducible assumption) | (with_reducible refine below_step ?_ ?_ hr) | (with_reducible refine below_over ?_ ?_ _) | (with_reducible refine Below.alloc ?_ ?_ _) | (with_reducible refine Below.setCell ?_ ?_ _) | (with_reducible refine below_put ?_ ?_ _) | (with_reducible refine Below.drew ?_) | (with_reducible refine below_drewN_ ?_ _) | (with_reducible refine le_drewN ?_ _) | (with_reducible refine over_le _ _ _ ?_) | (with_reducible refine le_alloc ?_ _) | (with_reducible refine le_setCell ?_ _ _) | (with_reducible refine le_put ?_ _ _) | (with_reducible refine le_drew ?_) | dsimp only | omega | ((try simp only [World.size_alloc, World.size_setCell, World.size_drew, size_put]); omega) | (simp; done)))))
      | (exfalso; go_light; have h := HB.out; clear HB; simp [rangeBad, mostF] at h; simp at hd1 hd2; omega)
  · cases hd1 : decide (1 ≤ units) <;> cases hd2 : decide (units ≤ 100)
    all_goals (go_enter Try.func39, Try.ntmps39; try dsimp only [List.append])
    all_goals go_wp2
    all_goals first
      | (go_ret; exact gives_of rfl (by go_light; (repeat' (first | (with_reducible exact Below.refl _ _) | (with_reducible exact Nat.le_refl _) | (with_reducible assumption) | (with_reducible refine below_step ?_ ?_ hr) | (with_reducible refine below_over ?_ ?_ _) | (with_reducible refine Below.alloc ?_ ?_ _) | (with_reducible refine Below.setCell ?_ ?_ _) | (with_reducible refine below_put ?_ ?_ _) | (with_reducible refine Below.drew ?_) | (with_reducible refine below_drewN_ ?_ _) | (with_reducible refine le_drewN ?_ _) | (with_reducible refine over_le _ _ _ ?_) | (with_reducible refine le_alloc ?_ _) | (with_reducible refine le_setCell ?_ _ _) | (with_reducible refine le_put ?_ _ _) | (with_reducible refine le_drew ?_) | dsimp only | omega | ((try simp only [World.size_alloc, World.size_setCell, World.size_drew, size_put]); omega) | (simp; done)))))
      | (exfalso; go_light; have h := HB.out; clear HB; simp [rangeBad, mostF] at h; simp at hd1 hd2; omega)
  · cases hd1 : decide (1 ≤ units) <;> cases hd2 : decide (units ≤ 100)
    all_goals (go_enter Try.func39, Try.ntmps39; try dsimp only [List.append])
    all_goals go_wp2
    all_goals first
      | (go_ret; exact gives_of rfl (by go_light; (repeat' (first | (with_reducible exact Below.refl _ _) | (with_reducible exact Nat.le_refl _) | (with_reducible assumption) | (with_reducible refine below_step ?_ ?_ hr) | (with_reducible refine below_over ?_ ?_ _) | (with_reducible refine Below.alloc ?_ ?_ _) | (with_reducible refine Below.setCell ?_ ?_ _) | (with_reducible refine below_put ?_ ?_ _) | (with_reducible refine Below.drew ?_) | (with_reducible refine below_drewN_ ?_ _) | (with_reducible refine le_drewN ?_ _) | (with_reducible refine over_le _ _ _ ?_) | (with_reducible refine le_alloc ?_ _) | (with_reducible refine le_setCell ?_ _ _) | (with_reducible refine le_put ?_ _ _) | (with_reducible refine le_drew ?_) | dsimp only | omega | ((try simp only [World.size_alloc, World.size_setCell, World.size_drew, size_put]); omega) | (simp; done)))))
      | (exfalso; go_light; have h := HB.out; clear HB; simp [rangeBad, mostF] at h; simp at hd1 hd2; omega)
  · have h3 : (kind == 0) = false := by simpa using h0
    have h4 : (kind == 1) = false := by simpa using h1
    have h5 : (kind == 2) = false := by simpa using h2
    (go_enter Try.func39, Try.ntmps39; try dsimp only [List.append])
    go_wp2
    all_goals (go_ret; exact gives_of rfl (by go_light; (repeat' (first | (with_reducible exact Below.refl _ _) | (with_reducible exact Nat.le_refl _) | (with_reducible assumption) | (with_reducible refine below_step ?_ ?_ hr) | (with_reducible refine below_over ?_ ?_ _) | (with_reducible refine Below.alloc ?_ ?_ _) | (with_reducible refine Below.setCell ?_ ?_ _) | (with_reducible refine below_put ?_ ?_ _) | (with_reducible refine Below.drew ?_) | (with_reducible refine below_drewN_ ?_ _) | (with_reducible refine le_drewN ?_ _) | (with_reducible refine over_le _ _ _ ?_) | (with_reducible refine le_alloc ?_ _) | (with_reducible refine le_setCell ?_ _ _) | (with_reducible refine le_put ?_ _ _) | (with_reducible refine le_drew ?_) | dsimp only | omega | ((try simp only [World.size_alloc, World.size_setCell, World.size_drew, size_put]); omega) | (simp; done)))))
set_option maxRecDepth 100000 in
set_option maxHeartbeats 4000000 in
theorem product_inRange_good (p : PD) (w : World) (hgood : rangeBad p = false) : Calls Try.prog 39 #[p.val] w (Gives (.bool true) w) := by
  obtain ⟨f1, f2, f3, f4, f5, f6, f7, f8, f9, f10, f11⟩ := range_facts hgood
  clear hgood
  obtain ⟨pid, kind, units, least, most, ⟨A, n, c⟩, ⟨hA, hn, hc⟩, sf, st, price, xs, hours⟩ := p
  dsimp only at f1 f2 f3 f4 f5 f6 f7 f8 f9 f10 f11
  simp only [PD.val]
  have f12 : decide (1 ≤ units) = true := by simpa using f4
  have g1 : decide (pid < 1) = false := by simp; omega
  have g2 : decide (9999 < pid) = false := by simp; omega
  have g3 : decide (price < 0) = false := by simp; omega
  have g4 : decide (100000000 < price) = false := by simp; omega
  have g5 : decide (least < 0) = false := by simp; omega
  have g6 : decide (120 < least) = false := by simp; omega
  have g7 : decide (most < 0) = false := by simp; omega
  have g8 : decide (120 < most) = false := by simp; omega
  clear f1 f2 f4 f6 f7 f8 f9 f10 f11
  rcases f3 with rfl | rfl | rfl
  all_goals simp [mostF] at f5
  all_goals have f13 := decide_eq_true f5
  all_goals clear f5
  all_goals (go_enter Try.func39, Try.ntmps39; try dsimp only [List.append])
  all_goals go_wp2
  all_goals (go_ret; exact gives_of rfl (by go_light; (repeat' (first | (with_reducible exact Below.refl _ _) | (with_reducible exact Nat.le_refl _) | (with_reducible assumption) | (with_reducible refine below_step ?_ ?_ hr) | (with_reducible refine below_over ?_ ?_ _) | (with_reducible refine Below.alloc ?_ ?_ _) | (with_reducible refine Below.setCell ?_ ?_ _) | (with_reducible refine below_put ?_ ?_ _) | (with_reducible refine Below.drew ?_) | (with_reducible refine below_drewN_ ?_ _) | (with_reducible refine le_drewN ?_ _) | (with_reducible refine over_le _ _ _ ?_) | (with_reducible refine le_alloc ?_ _) | (with_reducible refine le_setCell ?_ _ _) | (with_reducible refine le_put ?_ _ _) | (with_reducible refine le_drew ?_) | dsimp only | omega | ((try simp only [World.size_alloc, World.size_setCell, World.size_drew, size_put]); omega) | (simp; done)))))
theorem product_inRange (p : PD) (w : World) : Calls Try.prog 39 #[p.val] w (Gives (.bool (!rangeBad p)) w) := by
  cases h : rangeBad p
  · exact product_inRange_good p w h
  · exact product_inRange_bad p w h
set_option maxRecDepth 100000 in
set_option maxHeartbeats 1600000 in
theorem product_operators (s : Sl) (xs : List Int) (w : World) (hr : Rd w encI s xs) : Calls Try.prog 40 #[s.val] w (Gives (.bool (!xs.isEmpty && incL none xs)) w) := by
  obtain ⟨A, n, c⟩ := s
  have hmax : n ≤ 9223372036854775807 := hr.bound
  have Hr := Lib.hid hr
  clear hr
  have Hn : Hid (xs.length = n) := Hr.out.len
  simp only [Sl.val]
  (go_enter Try.func40, Try.ntmps40; try dsimp only [List.append])
  go_wp2
  go_loopw [7] (fun i wr => ∃ k : Nat, k ≤ n ∧ i = .int .i64 k ∧ Hid (incL (prevAt xs k) (xs.drop k) = incL none xs) ∧ Below w.heap.size w wr) (fun i _ => n - (intOf i).toNat)
  case atStart => exact ⟨0, Nat.zero_le _, rfl, rfl, Below.refl _ _⟩
  case round =>
    obtain ⟨k, hk, rfl, Hl, hB⟩ := hrel
    by_cases hlt : k < n
    · by_cases hk0 : k = 0
      · subst hk0
        obtain ⟨b, off, x, rfl, hbw, Hx, Hx0, hc⟩ := Hr.out.int hlt
        have e0 := (hB.cell (p := ⟨b, _, none⟩) hbw).trans hc
        have e1 : wr.cell? ⟨b, off, none⟩ = some (.int .i64 x) := by simpa using e0
        clear hc
        cases h1 : decide (x < 1)
        · cases h8 : decide (8 < x)
          · have ha : ¬ (x < 1 ∨ 8 < x) := by simp at h1 h8; omega
            have HS := Lib.hid (incL_step0 Hx.out Hx0.out Hl.out ha)
            clear ha
            go_wp2
            go_roundw
            case rel => exact ⟨1, by omega, by go_num, HS, by go_light; (repeat' (first | (with_reducible exact Below.refl _ _) | (with_reducible exact Nat.le_refl _) | (with_reducible assumption) | (with_reducible refine below_step ?_ ?_ hr) | (with_reducible refine below_over ?_ ?_ _) | (with_reducible refine Below.alloc ?_ ?_ _) | (with_reducible refine Below.setCell ?_ ?_ _) | (with_reducible refine below_put ?_ ?_ _) | (with_reducible refine Below.drew ?_) | (with_reducible refine below_drewN_ ?_ _) | (with_reducible refine le_drewN ?_ _) | (with_reducible refine over_le _ _ _ ?_) | (with_reducible refine le_alloc ?_ _) | (with_reducible refine le_setCell ?_ _ _) | (with_reducible refine le_put ?_ _ _) | (with_reducible refine le_drew ?_) | dsimp only | omega | ((try simp only [World.size_alloc, World.size_setCell, World.size_drew, size_put]); omega) | (simp; done)))⟩
            case measure => (simp [intOf] <;> omega)
          · have HE : Hid (incL none xs = false) := by
              have h := Hl.out; rw [Hx.out] at h; show _ = false; rw [← h]; show (if x < 1 ∨ 8 < x then false else _) = false; rw [if_pos (by simp at h8; omega)]
            go_wp2
            go_ret
            exact gives_of (ret_bool (by go_light; rw [HE.out]; simp)) (by go_light; (repeat' (first | (with_reducible exact Below.refl _ _) | (with_reducible exact Nat.le_refl _) | (with_reducible assumption) | (with_reducible refine below_step ?_ ?_ hr) | (with_reducible refine below_over ?_ ?_ _) | (with_reducible refine Below.alloc ?_ ?_ _) | (with_reducible refine Below.setCell ?_ ?_ _) | (with_reducible refine below_put ?_ ?_ _) | (with_reducible refine Below.drew ?_) | (with_reducible refine below_drewN_ ?_ _) | (with_reducible refine le_drewN ?_ _) | (with_reducible refine over_le _ _ _ ?_) | (with_reducible refine le_alloc ?_ _) | (with_reducible refine le_setCell ?_ _ _) | (with_reducible refine le_put ?_ _ _) | (with_reducible refine le_drew ?_) | dsimp only | omega | ((try simp only [World.size_alloc, World.size_setCell, World.size_drew, size_put]); omega) | (simp; done))))
        · have HE : Hid (incL none xs = false) := by
            have h := Hl.out; rw [Hx.out] at h; show _ = false; rw [← h]; show (if x < 1 ∨ 8 < x then false else _) = false; rw [if_pos (by simp at h1; omega)]
          go_wp2
          go_ret
          exact gives_of (ret_bool (by go_light; rw [HE.out]; simp)) (by go_light; (repeat' (first | (with_reducible exact Below.refl _ _) | (with_reducible exact Nat.le_refl _) | (with_reducible assumption) | (with_reducible refine below_step ?_ ?_ hr) | (with_reducible refine below_over ?_ ?_ _) | (with_reducible refine Below.alloc ?_ ?_ _) | (with_reducible refine Below.setCell ?_ ?_ _) | (with_reducible refine below_put ?_ ?_ _) | (with_reducible refine Below.drew ?_) | (with_reducible refine below_drewN_ ?_ _) | (with_reducible refine le_drewN ?_ _) | (with_reducible refine over_le _ _ _ ?_) | (with_reducible refine le_alloc ?_ _) | (with_reducible refine le_setCell ?_ _ _) | (with_reducible refine le_put ?_ _ _) | (with_reducible refine le_drew ?_) | dsimp only | omega | ((try simp only [World.size_alloc, World.size_setCell, World.size_drew, size_put]); omega) | (simp; done))))
      · obtain ⟨b, off, x, rfl, hbw, Hx, Hx0, hc⟩ := Hr.out.int hlt
        obtain ⟨b', off', y, hy', hbw', -, Hy0, hcy⟩ := Hr.out.int (show k - 1 < n by omega)
        cases hy'
        have e0 := (hB.cell (p := ⟨b, _, none⟩) hbw).trans hc
        have e1 := (hB.cell (p := ⟨b, _, none⟩) hbw).trans hcy
        have hkp : 0 < k := by omega
        have hk1 : (0 : Int) < (k : Int) := by omega
        have hk2 : (k : Int) - 1 = ((k - 1 : Nat) : Int) := by omega
        have hk3 : (k : Int) - 1 < (n : Int) := by omega
        have hk4 : (0 : Int) ≤ (k : Int) - 1 := by omega
        have hk5 : ((k : Int) - 1).toNat = k - 1 := by omega
        have e2 : wr.cell? ⟨b, off + ((k : Int) - 1).toNat * 1, none⟩ = some (.int .i64 y) := by rw [hk5]; simpa using e1
        clear hc hcy
        cases h1 : decide (x < 1)
        · cases h8 : decide (8 < x)
          · cases hxy : decide (x ≤ y)
            · have ha : ¬ ((x < 1 ∨ 8 < x) ∨ x ≤ y) := by simp at h1 h8 hxy; omega
              have HS := Lib.hid (incL_step Hx.out Hx0.out hkp Hy0.out Hl.out ha)
              clear ha
              go_wp2
              go_roundw
              case rel => exact ⟨k + 1, by omega, by go_num, HS, by go_light; (repeat' (first | (with_reducible exact Below.refl _ _) | (with_reducible exact Nat.le_refl _) | (with_reducible assumption) | (with_reducible refine below_step ?_ ?_ hr) | (with_reducible refine below_over ?_ ?_ _) | (with_reducible refine Below.alloc ?_ ?_ _) | (with_reducible refine Below.setCell ?_ ?_ _) | (with_reducible refine below_put ?_ ?_ _) | (with_reducible refine Below.drew ?_) | (with_reducible refine below_drewN_ ?_ _) | (with_reducible refine le_drewN ?_ _) | (with_reducible refine over_le _ _ _ ?_) | (with_reducible refine le_alloc ?_ _) | (with_reducible refine le_setCell ?_ _ _) | (with_reducible refine le_put ?_ _ _) | (with_reducible refine le_drew ?_) | dsimp only | omega | ((try simp only [World.size_alloc, World.size_setCell, World.size_drew, size_put]); omega) | (simp; done)))⟩
              case measure => (simp [intOf] <;> omega)
            · have HE : Hid (incL none xs = false) := by
                have h := Hl.out; rw [Hx.out] at h; show _ = false; rw [← h]; rw [prevAt, if_neg hk0, Hy0.out]; show (if (x < 1 ∨ 8 < x) ∨ x ≤ y then false else _) = false; rw [if_pos (by simp at hxy; omega)]
              go_wp2
              go_ret
              exact gives_of (ret_bool (by go_light; rw [HE.out]; simp)) (by go_light; (repeat' (first | (with_reducible exact Below.refl _ _) | (with_reducible exact Nat.le_refl _) | (with_reducible assumption) | (with_reducible refine below_step ?_ ?_ hr) | (with_reducible refine below_over ?_ ?_ _) | (with_reducible refine Below.alloc ?_ ?_ _) | (with_reducible refine Below.setCell ?_ ?_ _) | (with_reducible refine below_put ?_ ?_ _) | (with_reducible refine Below.drew ?_) | (with_reducible refine below_drewN_ ?_ _) | (with_reducible refine le_drewN ?_ _) | (with_reducible refine over_le _ _ _ ?_) | (with_reducible refine le_alloc ?_ _) | (with_reducible refine le_setCell ?_ _ _) | (with_reducible refine le_put ?_ _ _) | (with_reducible refine le_drew ?_) | dsimp only | omega | ((try simp only [World.size_alloc, World.size_setCell, World.size_drew, size_put]); omega) | (simp; done))))
          · have HE : Hid (incL none xs = false) := by
              have h := Hl.out; rw [Hx.out] at h; show _ = false; rw [← h]; rw [prevAt, if_neg hk0, Hy0.out]; show (if (x < 1 ∨ 8 < x) ∨ x ≤ y then false else _) = false; rw [if_pos (by simp at h8; omega)]
            go_wp2
            go_ret
            exact gives_of (ret_bool (by go_light; rw [HE.out]; simp)) (by go_light; (repeat' (first | (with_reducible exact Below.refl _ _) | (with_reducible exact Nat.le_refl _) | (with_reducible assumption) | (with_reducible refine below_step ?_ ?_ hr) | (with_reducible refine below_over ?_ ?_ _) | (with_reducible refine Below.alloc ?_ ?_ _) | (with_reducible refine Below.setCell ?_ ?_ _) | (with_reducible refine below_put ?_ ?_ _) | (with_reducible refine Below.drew ?_) | (with_reducible refine below_drewN_ ?_ _) | (with_reducible refine le_drewN ?_ _) | (with_reducible refine over_le _ _ _ ?_) | (with_reducible refine le_alloc ?_ _) | (with_reducible refine le_setCell ?_ _ _) | (with_reducible refine le_put ?_ _ _) | (with_reducible refine le_drew ?_) | dsimp only | omega | ((try simp only [World.size_alloc, World.size_setCell, World.size_drew, size_put]); omega) | (simp; done))))
        · have HE : Hid (incL none xs = false) := by
            have h := Hl.out; rw [Hx.out] at h; show _ = false; rw [← h]; rw [prevAt, if_neg hk0, Hy0.out]; show (if (x < 1 ∨ 8 < x) ∨ x ≤ y then false else _) = false; rw [if_pos (by simp at h1; omega)]
          go_wp2
          go_ret
          exact gives_of (ret_bool (by go_light; rw [HE.out]; simp)) (by go_light; (repeat' (first | (with_reducible exact Below.refl _ _) | (with_reducible exact Nat.le_refl _) | (with_reducible assumption) | (with_reducible refine below_step ?_ ?_ hr) | (with_reducible refine below_over ?_ ?_ _) | (with_reducible refine Below.alloc ?_ ?_ _) | (with_reducible refine Below.setCell ?_ ?_ _) | (with_reducible refine below_put ?_ ?_ _) | (with_reducible refine Below.drew ?_) | (with_reducible refine below_drewN_ ?_ _) | (with_reducible refine le_drewN ?_ _) | (with_reducible refine over_le _ _ _ ?_) | (with_reducible refine le_alloc ?_ _) | (with_reducible refine le_setCell ?_ _ _) | (with_reducible refine le_put ?_ _ _) | (with_reducible refine le_drew ?_) | dsimp only | omega | ((try simp only [World.size_alloc, World.size_setCell, World.size_drew, size_put]); omega) | (simp; done))))
    · have HI : Hid (incL none xs = true) := by show _ = _; rw [← Hl.out, Hr.out.done_ hlt]; cases prevAt xs k <;> rfl
      have HE : Hid (decide (0 < n) = !xs.isEmpty) := by
        have h := Hn.out
        show decide (0 < n) = !xs.isEmpty
        rw [← h]
        cases xs <;> simp
      go_wp2
      go_ret
      exact gives_of (ret_bool (by go_light; rw [HI.out, Bool.and_true]; exact HE.out)) (by go_light; (repeat' (first | (with_reducible exact Below.refl _ _) | (with_reducible exact Nat.le_refl _) | (with_reducible assumption) | (with_reducible refine below_step ?_ ?_ hr) | (with_reducible refine below_over ?_ ?_ _) | (with_reducible refine Below.alloc ?_ ?_ _) | (with_reducible refine Below.setCell ?_ ?_ _) | (with_reducible refine below_put ?_ ?_ _) | (with_reducible refine Below.drew ?_) | (with_reducible refine below_drewN_ ?_ _) | (with_reducible refine le_drewN ?_ _) | (with_reducible refine over_le _ _ _ ?_) | (with_reducible refine le_alloc ?_ _) | (with_reducible refine le_setCell ?_ _ _) | (with_reducible refine le_put ?_ _ _) | (with_reducible refine le_drew ?_) | dsimp only | omega | ((try simp only [World.size_alloc, World.size_setCell, World.size_drew, size_put]); omega) | (simp; done))))
end Go.Proofs.Ytfajjgkhanjcfaa
