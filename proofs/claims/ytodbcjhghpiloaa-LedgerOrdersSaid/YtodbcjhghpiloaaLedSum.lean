/- Ledger: Turnover and Balance, of the program and of the reference. -/
import Derived.Test.YtodbcjhghpiloaaLedEq
namespace Go.Proofs.Ytodbcjhghpiloaa
set_option linter.unusedSimpArgs false
set_option linter.unusedVariables false
open Go.RowKit
def inP (a : Int) : List PV → Int
  | [] => 0
  | x :: r => (if x.to_ = a then x.amount else 0) + inP a r
def outP (a : Int) : List PV → Int
  | [] => 0
  | x :: r => (if x.from_ = a then x.amount else 0) + outP a r
/-- The amounts are right. -/
def goodP (xs : List PV) : Prop := ∀ x ∈ xs, 1 ≤ x.amount ∧ x.amount ≤ 1099511627776
theorem inP_bd (a : Int) : ∀ {xs : List PV}, goodP xs → 0 ≤ inP a xs ∧ inP a xs ≤ xs.length * 1099511627776
  | [], _ => by simp [inP]
  | x :: r, h => by
    have ih := inP_bd a (xs := r) (fun y hy => h y (List.mem_cons_of_mem _ hy))
    have hx := h x (List.mem_cons_self ..)
    unfold inP
    simp only [List.length_cons]
    split <;> omega
theorem outP_bd (a : Int) : ∀ {xs : List PV}, goodP xs → 0 ≤ outP a xs ∧ outP a xs ≤ xs.length * 1099511627776
  | [], _ => by simp [outP]
  | x :: r, h => by
    have ih := outP_bd a (xs := r) (fun y hy => h y (List.mem_cons_of_mem _ hy))
    have hx := h x (List.mem_cons_self ..)
    unfold outP
    simp only [List.length_cons]
    split <;> omega
abbrev sumV (a : Int) (xs : List PV) : Value := .tuple #[.int .i64 (inP a xs), .int .i64 (outP a xs)]
theorem hid_step {u v s : Int} (h : u + (v + s) = v + u + s) : True := trivial
set_option maxRecDepth 100000 in
set_option maxHeartbeats 1600000 in
theorem ledger_Turnover (s : Sl) (xs : List PV) (a : Int) (w : World) (hs : Rd w PV.enc s xs) (hg : goodP xs) (hn : s.n ≤ 4000) : Calls Try.prog 16 #[s.val, .int .i64 a] w (Gives (sumV a xs) w) := by
  obtain ⟨A, n, c⟩ := s
  dsimp only at hn
  have Hs := Lib.hid hs
  have Hg := Lib.hid hg
  clear hs hg
  simp only [Sl.val, sumV]
  generalize hV : inP a xs = V
  generalize hW : outP a xs = W
  have HV := Lib.hid hV
  have HW := Lib.hid hW
  clear hV hW
  (go_enter Try.func16, Try.ntmps16; try dsimp only [List.append])
  go_wp2_with fail
  go_loopw [6, 7, 12] (fun u v i wr => ∃ (k : Nat) (U T : Int), k ≤ n ∧ u = .int .i64 U ∧ v = .int .i64 T ∧ i = .int .i64 k ∧ Hid (U + inP a (xs.drop k) = V) ∧ Hid (T + outP a (xs.drop k) = W) ∧ (0 ≤ U ∧ U ≤ (k : Int) * 1099511627776) ∧ (0 ≤ T ∧ T ≤ (k : Int) * 1099511627776) ∧ Below w.heap.size w wr) (fun _ _ i _ => n - (intOf i).toNat)
  case atStart => exact ⟨0, 0, 0, Nat.zero_le _, rfl, rfl, rfl, by show 0 + inP a xs = V; rw [HV.out]; omega, by show 0 + outP a xs = W; rw [HW.out]; omega, by omega, by omega, by (repeat' (first | (with_reducible exact Below.refl _ _) | (with_reducible exact Nat.le_refl _) | (with_reducible assumption) | (with_reducible refine below_step ?_ ?_ hr) | (with_reducible refine below_over ?_ ?_ _) | (with_reducible refine Below.alloc ?_ ?_ _) | (with_reducible refine Below.setCell ?_ ?_ _) | (with_reducible refine below_put ?_ ?_ _) | (with_reducible refine Below.drew ?_) | (with_reducible refine below_drewN_ ?_ _) | (with_reducible refine le_drewN ?_ _) | (with_reducible refine over_le _ _ _ ?_) | (with_reducible refine le_alloc ?_ _) | (with_reducible refine le_setCell ?_ _ _) | (with_reducible refine le_put ?_ _ _) | (with_reducible refine le_drew ?_) | dsimp only | omega | ((try simp only [World.size_alloc, World.size_setCell, World.size_drew, size_put]); omega) | (simp; done)))⟩
  case round =>
    obtain ⟨k, U, T, hk, rfl, rfl, rfl, HU, HT, ⟨hU0, hU1⟩, ⟨hT0, hT1⟩, hB⟩ := hrel
    have hz := hB.size
    by_cases hlt : k < n
    · obtain ⟨b, off, x, rfl, hbw, Hx, Hx0, hc0, hc1, hc2, hc3⟩ := Hs.out.pv hlt
      have e0 := (hB.cell (p := ⟨b, _, none⟩) hbw).trans hc0
      have e1 := (hB.cell (p := ⟨b, _, none⟩) hbw).trans hc1
      have e2 := (hB.cell (p := ⟨b, _, none⟩) hbw).trans hc2
      have e3 := (hB.cell (p := ⟨b, _, none⟩) hbw).trans hc3
      clear hc0 hc1 hc2 hc3
      obtain ⟨ha0, ha1⟩ := Hg.out x (List.mem_of_getElem? Hx0.out)
      rw [Hx.out] at HU HT
      have hu1 : U + x.amount ≤ 9223372036854775807 := by omega
      have ht1 : T + x.amount ≤ 9223372036854775807 := by omega
      by_cases h1 : x.to_ = a
      · have hb1 : (x.to_ == a) = true := by simpa using h1
        have HU2 : Hid (U + x.amount + inP a (xs.drop (k + 1)) = V) := by have h := HU.out; rw [inP, if_pos h1] at h; show _ = _; omega
        by_cases h2 : x.from_ = a
        · have hb2 : (x.from_ == a) = true := by simpa using h2
          have HT2 : Hid (T + x.amount + outP a (xs.drop (k + 1)) = W) := by have h := HT.out; rw [outP, if_pos h2] at h; show _ = _; omega
          clear h1 h2
          go_wp2_with fail
          go_roundw
          case rel => exact ⟨k + 1, U + x.amount, T + x.amount, by omega, rfl, rfl, by go_num, HU2, HT2, by omega, by omega, by go_light; (repeat' (first | (with_reducible exact Below.refl _ _) | (with_reducible exact Nat.le_refl _) | (with_reducible assumption) | (with_reducible refine below_step ?_ ?_ hr) | (with_reducible refine below_over ?_ ?_ _) | (with_reducible refine Below.alloc ?_ ?_ _) | (with_reducible refine Below.setCell ?_ ?_ _) | (with_reducible refine below_put ?_ ?_ _) | (with_reducible refine Below.drew ?_) | (with_reducible refine below_drewN_ ?_ _) | (with_reducible refine le_drewN ?_ _) | (with_reducible refine over_le _ _ _ ?_) | (with_reducible refine le_alloc ?_ _) | (with_reducible refine le_setCell ?_ _ _) | (with_reducible refine le_put ?_ _ _) | (with_reducible refine le_drew ?_) | dsimp only | omega | ((try simp only [World.size_alloc, World.size_setCell, World.size_drew, size_put]); omega) | (simp; done)))⟩
          case measure => (simp [intOf] <;> omega)
        · have hb2 : (x.from_ == a) = false := by simpa using h2
          have HT2 : Hid (T + outP a (xs.drop (k + 1)) = W) := by have h := HT.out; rw [outP, if_neg h2] at h; show _ = _; omega
          clear h1 h2
          go_wp2_with fail
          go_roundw
          case rel => exact ⟨k + 1, U + x.amount, T, by omega, rfl, rfl, by go_num, HU2, HT2, by omega, by omega, by go_light; (repeat' (first | (with_reducible exact Below.refl _ _) | (with_reducible exact Nat.le_refl _) | (with_reducible assumption) | (with_reducible refine below_step ?_ ?_ hr) | (with_reducible refine below_over ?_ ?_ _) | (with_reducible refine Below.alloc ?_ ?_ _) | (with_reducible refine Below.setCell ?_ ?_ _) | (with_reducible refine below_put ?_ ?_ _) | (with_reducible refine Below.drew ?_) | (with_reducible refine below_drewN_ ?_ _) | (with_reducible refine le_drewN ?_ _) | (with_reducible refine over_le _ _ _ ?_) | (with_reducible refine le_alloc ?_ _) | (with_reducible refine le_setCell ?_ _ _) | (with_reducible refine le_put ?_ _ _) | (with_reducible refine le_drew ?_) | dsimp only | omega | ((try simp only [World.size_alloc, World.size_setCell, World.size_drew, size_put]); omega) | (simp; done)))⟩
          case measure => (simp [intOf] <;> omega)
      · have hb1 : (x.to_ == a) = false := by simpa using h1
        have HU2 : Hid (U + inP a (xs.drop (k + 1)) = V) := by have h := HU.out; rw [inP, if_neg h1] at h; show _ = _; omega
        by_cases h2 : x.from_ = a
        · have hb2 : (x.from_ == a) = true := by simpa using h2
          have HT2 : Hid (T + x.amount + outP a (xs.drop (k + 1)) = W) := by have h := HT.out; rw [outP, if_pos h2] at h; show _ = _; omega
          clear h1 h2
          go_wp2_with fail
          go_roundw
          case rel => exact ⟨k + 1, U, T + x.amount, by omega, rfl, rfl, by go_num, HU2, HT2, by omega, by omega, by go_light; (repeat' (first | (with_reducible exact Below.refl _ _) | (with_reducible exact Nat.le_refl _) | (with_reducible assumption) | (with_reducible refine below_step ?_ ?_ hr) | (with_reducible refine below_over ?_ ?_ _) | (with_reducible refine Below.alloc ?_ ?_ _) | (with_reducible refine Below.setCell ?_ ?_ _) | (with_reducible refine below_put ?_ ?_ _) | (with_reducible refine Below.drew ?_) | (with_reducible refine below_drewN_ ?_ _) | (with_reducible refine le_drewN ?_ _) | (with_reducible refine over_le _ _ _ ?_) | (with_reducible refine le_alloc ?_ _) | (with_reducible refine le_setCell ?_ _ _) | (with_reducible refine le_put ?_ _ _) | (with_reducible refine le_drew ?_) | dsimp only | omega | ((try simp only [World.size_alloc, World.size_setCell, World.size_drew, size_put]); omega) | (simp; done)))⟩
          case measure => (simp [intOf] <;> omega)
        · have hb2 : (x.from_ == a) = false := by simpa using h2
          have HT2 : Hid (T + outP a (xs.drop (k + 1)) = W) := by have h := HT.out; rw [outP, if_neg h2] at h; show _ = _; omega
          clear h1 h2
          go_wp2_with fail
          go_roundw
          case rel => exact ⟨k + 1, U, T, by omega, rfl, rfl, by go_num, HU2, HT2, by omega, by omega, by go_light; (repeat' (first | (with_reducible exact Below.refl _ _) | (with_reducible exact Nat.le_refl _) | (with_reducible assumption) | (with_reducible refine below_step ?_ ?_ hr) | (with_reducible refine below_over ?_ ?_ _) | (with_reducible refine Below.alloc ?_ ?_ _) | (with_reducible refine Below.setCell ?_ ?_ _) | (with_reducible refine below_put ?_ ?_ _) | (with_reducible refine Below.drew ?_) | (with_reducible refine below_drewN_ ?_ _) | (with_reducible refine le_drewN ?_ _) | (with_reducible refine over_le _ _ _ ?_) | (with_reducible refine le_alloc ?_ _) | (with_reducible refine le_setCell ?_ _ _) | (with_reducible refine le_put ?_ _ _) | (with_reducible refine le_drew ?_) | dsimp only | omega | ((try simp only [World.size_alloc, World.size_setCell, World.size_drew, size_put]); omega) | (simp; done)))⟩
          case measure => (simp [intOf] <;> omega)
    · have HU2 : Hid (U = V) := by have h := HU.out; rw [Hs.out.done_ hlt, inP] at h; show _ = _; omega
      have HT2 : Hid (T = W) := by have h := HT.out; rw [Hs.out.done_ hlt, outP] at h; show _ = _; omega
      go_wp2_with fail
      go_ret2
      rw [HU2.out, HT2.out]
      exact gives_of rfl (by go_light; (repeat' (first | (with_reducible exact Below.refl _ _) | (with_reducible exact Nat.le_refl _) | (with_reducible assumption) | (with_reducible refine below_step ?_ ?_ hr) | (with_reducible refine below_over ?_ ?_ _) | (with_reducible refine Below.alloc ?_ ?_ _) | (with_reducible refine Below.setCell ?_ ?_ _) | (with_reducible refine below_put ?_ ?_ _) | (with_reducible refine Below.drew ?_) | (with_reducible refine below_drewN_ ?_ _) | (with_reducible refine le_drewN ?_ _) | (with_reducible refine over_le _ _ _ ?_) | (with_reducible refine le_alloc ?_ _) | (with_reducible refine le_setCell ?_ _ _) | (with_reducible refine le_put ?_ _ _) | (with_reducible refine le_drew ?_) | dsimp only | omega | ((try simp only [World.size_alloc, World.size_setCell, World.size_drew, size_put]); omega) | (simp; done))))
set_option maxRecDepth 100000 in
set_option maxHeartbeats 1600000 in
theorem ref09_Turnover (s : Sl) (xs : List PV) (a : Int) (w : World) (hs : Rd w PV.enc s xs) (hg : goodP xs) (hn : s.n ≤ 4000) : Calls Try.prog 17 #[s.val, .int .i64 a] w (Gives (sumV a xs) w) := by
  obtain ⟨A, n, c⟩ := s
  dsimp only at hn
  have Hs := Lib.hid hs
  have Hg := Lib.hid hg
  clear hs hg
  simp only [Sl.val, sumV]
  generalize hV : inP a xs = V
  generalize hW : outP a xs = W
  have HV := Lib.hid hV
  have HW := Lib.hid hW
  clear hV hW
  (go_enter Try.func17, Try.ntmps17; try dsimp only [List.append])
  go_wp2_with fail
  go_loopw [6, 7, 8] (fun u v i wr => ∃ (k : Nat) (U T : Int), k ≤ n ∧ u = .int .i64 U ∧ v = .int .i64 T ∧ i = .int .i64 k ∧ Hid (U + inP a (xs.drop k) = V) ∧ Hid (T + outP a (xs.drop k) = W) ∧ (0 ≤ U ∧ U ≤ (k : Int) * 1099511627776) ∧ (0 ≤ T ∧ T ≤ (k : Int) * 1099511627776) ∧ Below w.heap.size w wr) (fun _ _ i _ => n - (intOf i).toNat)
  case atStart => exact ⟨0, 0, 0, Nat.zero_le _, rfl, rfl, rfl, by show 0 + inP a xs = V; rw [HV.out]; omega, by show 0 + outP a xs = W; rw [HW.out]; omega, by omega, by omega, by (repeat' (first | (with_reducible exact Below.refl _ _) | (with_reducible exact Nat.le_refl _) | (with_reducible assumption) | (with_reducible refine below_step ?_ ?_ hr) | (with_reducible refine below_over ?_ ?_ _) | (with_reducible refine Below.alloc ?_ ?_ _) | (with_reducible refine Below.setCell ?_ ?_ _) | (with_reducible refine below_put ?_ ?_ _) | (with_reducible refine Below.drew ?_) | (with_reducible refine below_drewN_ ?_ _) | (with_reducible refine le_drewN ?_ _) | (with_reducible refine over_le _ _ _ ?_) | (with_reducible refine le_alloc ?_ _) | (with_reducible refine le_setCell ?_ _ _) | (with_reducible refine le_put ?_ _ _) | (with_reducible refine le_drew ?_) | dsimp only | omega | ((try simp only [World.size_alloc, World.size_setCell, World.size_drew, size_put]); omega) | (simp; done)))⟩
  case round =>
    obtain ⟨k, U, T, hk, rfl, rfl, rfl, HU, HT, ⟨hU0, hU1⟩, ⟨hT0, hT1⟩, hB⟩ := hrel
    have hz := hB.size
    by_cases hlt : k < n
    · obtain ⟨b, off, x, rfl, hbw, Hx, Hx0, hc0, hc1, hc2, hc3⟩ := Hs.out.pv hlt
      have e0 := (hB.cell (p := ⟨b, _, none⟩) hbw).trans hc0
      have e1 := (hB.cell (p := ⟨b, _, none⟩) hbw).trans hc1
      have e2 := (hB.cell (p := ⟨b, _, none⟩) hbw).trans hc2
      have e3 := (hB.cell (p := ⟨b, _, none⟩) hbw).trans hc3
      clear hc0 hc1 hc2 hc3
      obtain ⟨ha0, ha1⟩ := Hg.out x (List.mem_of_getElem? Hx0.out)
      rw [Hx.out] at HU HT
      have hu1 : U + x.amount ≤ 9223372036854775807 := by omega
      have ht1 : T + x.amount ≤ 9223372036854775807 := by omega
      by_cases h1 : x.to_ = a
      · have hb1 : (x.to_ == a) = true := by simpa using h1
        have HU2 : Hid (U + x.amount + inP a (xs.drop (k + 1)) = V) := by have h := HU.out; rw [inP, if_pos h1] at h; show _ = _; omega
        by_cases h2 : x.from_ = a
        · have hb2 : (x.from_ == a) = true := by simpa using h2
          have HT2 : Hid (T + x.amount + outP a (xs.drop (k + 1)) = W) := by have h := HT.out; rw [outP, if_pos h2] at h; show _ = _; omega
          clear h1 h2
          go_wp2_with fail
          go_roundw
          case rel => exact ⟨k + 1, U + x.amount, T + x.amount, by omega, rfl, rfl, by go_num, HU2, HT2, by omega, by omega, by go_light; (repeat' (first | (with_reducible exact Below.refl _ _) | (with_reducible exact Nat.le_refl _) | (with_reducible assumption) | (with_reducible refine below_step ?_ ?_ hr) | (with_reducible refine below_over ?_ ?_ _) | (with_reducible refine Below.alloc ?_ ?_ _) | (with_reducible refine Below.setCell ?_ ?_ _) | (with_reducible refine below_put ?_ ?_ _) | (with_reducible refine Below.drew ?_) | (with_reducible refine below_drewN_ ?_ _) | (with_reducible refine le_drewN ?_ _) | (with_reducible refine over_le _ _ _ ?_) | (with_reducible refine le_alloc ?_ _) | (with_reducible refine le_setCell ?_ _ _) | (with_reducible refine le_put ?_ _ _) | (with_reducible refine le_drew ?_) | dsimp only | omega | ((try simp only [World.size_alloc, World.size_setCell, World.size_drew, size_put]); omega) | (simp; done)))⟩
          case measure => (simp [intOf] <;> omega)
        · have hb2 : (x.from_ == a) = false := by simpa using h2
          have HT2 : Hid (T + outP a (xs.drop (k + 1)) = W) := by have h := HT.out; rw [outP, if_neg h2] at h; show _ = _; omega
          clear h1 h2
          go_wp2_with fail
          go_roundw
          case rel => exact ⟨k + 1, U + x.amount, T, by omega, rfl, rfl, by go_num, HU2, HT2, by omega, by omega, by go_light; (repeat' (first | (with_reducible exact Below.refl _ _) | (with_reducible exact Nat.le_refl _) | (with_reducible assumption) | (with_reducible refine below_step ?_ ?_ hr) | (with_reducible refine below_over ?_ ?_ _) | (with_reducible refine Below.alloc ?_ ?_ _) | (with_reducible refine Below.setCell ?_ ?_ _) | (with_reducible refine below_put ?_ ?_ _) | (with_reducible refine Below.drew ?_) | (with_reducible refine below_drewN_ ?_ _) | (with_reducible refine le_drewN ?_ _) | (with_reducible refine over_le _ _ _ ?_) | (with_reducible refine le_alloc ?_ _) | (with_reducible refine le_setCell ?_ _ _) | (with_reducible refine le_put ?_ _ _) | (with_reducible refine le_drew ?_) | dsimp only | omega | ((try simp only [World.size_alloc, World.size_setCell, World.size_drew, size_put]); omega) | (simp; done)))⟩
          case measure => (simp [intOf] <;> omega)
      · have hb1 : (x.to_ == a) = false := by simpa using h1
        have HU2 : Hid (U + inP a (xs.drop (k + 1)) = V) := by have h := HU.out; rw [inP, if_neg h1] at h; show _ = _; omega
        by_cases h2 : x.from_ = a
        · have hb2 : (x.from_ == a) = true := by simpa using h2
          have HT2 : Hid (T + x.amount + outP a (xs.drop (k + 1)) = W) := by have h := HT.out; rw [outP, if_pos h2] at h; show _ = _; omega
          clear h1 h2
          go_wp2_with fail
          go_roundw
          case rel => exact ⟨k + 1, U, T + x.amount, by omega, rfl, rfl, by go_num, HU2, HT2, by omega, by omega, by go_light; (repeat' (first | (with_reducible exact Below.refl _ _) | (with_reducible exact Nat.le_refl _) | (with_reducible assumption) | (with_reducible refine below_step ?_ ?_ hr) | (with_reducible refine below_over ?_ ?_ _) | (with_reducible refine Below.alloc ?_ ?_ _) | (with_reducible refine Below.setCell ?_ ?_ _) | (with_reducible refine below_put ?_ ?_ _) | (with_reducible refine Below.drew ?_) | (with_reducible refine below_drewN_ ?_ _) | (with_reducible refine le_drewN ?_ _) | (with_reducible refine over_le _ _ _ ?_) | (with_reducible refine le_alloc ?_ _) | (with_reducible refine le_setCell ?_ _ _) | (with_reducible refine le_put ?_ _ _) | (with_reducible refine le_drew ?_) | dsimp only | omega | ((try simp only [World.size_alloc, World.size_setCell, World.size_drew, size_put]); omega) | (simp; done)))⟩
          case measure => (simp [intOf] <;> omega)
        · have hb2 : (x.from_ == a) = false := by simpa using h2
          have HT2 : Hid (T + outP a (xs.drop (k + 1)) = W) := by have h := HT.out; rw [outP, if_neg h2] at h; show _ = _; omega
          clear h1 h2
          go_wp2_with fail
          go_roundw
          case rel => exact ⟨k + 1, U, T, by omega, rfl, rfl, by go_num, HU2, HT2, by omega, by omega, by go_light; (repeat' (first | (with_reducible exact Below.refl _ _) | (with_reducible exact Nat.le_refl _) | (with_reducible assumption) | (with_reducible refine below_step ?_ ?_ hr) | (with_reducible refine below_over ?_ ?_ _) | (with_reducible refine Below.alloc ?_ ?_ _) | (with_reducible refine Below.setCell ?_ ?_ _) | (with_reducible refine below_put ?_ ?_ _) | (with_reducible refine Below.drew ?_) | (with_reducible refine below_drewN_ ?_ _) | (with_reducible refine le_drewN ?_ _) | (with_reducible refine over_le _ _ _ ?_) | (with_reducible refine le_alloc ?_ _) | (with_reducible refine le_setCell ?_ _ _) | (with_reducible refine le_put ?_ _ _) | (with_reducible refine le_drew ?_) | dsimp only | omega | ((try simp only [World.size_alloc, World.size_setCell, World.size_drew, size_put]); omega) | (simp; done)))⟩
          case measure => (simp [intOf] <;> omega)
    · have HU2 : Hid (U = V) := by have h := HU.out; rw [Hs.out.done_ hlt, inP] at h; show _ = _; omega
      have HT2 : Hid (T = W) := by have h := HT.out; rw [Hs.out.done_ hlt, outP] at h; show _ = _; omega
      go_wp2_with fail
      go_ret2
      rw [HU2.out, HT2.out]
      exact gives_of rfl (by go_light; (repeat' (first | (with_reducible exact Below.refl _ _) | (with_reducible exact Nat.le_refl _) | (with_reducible assumption) | (with_reducible refine below_step ?_ ?_ hr) | (with_reducible refine below_over ?_ ?_ _) | (with_reducible refine Below.alloc ?_ ?_ _) | (with_reducible refine Below.setCell ?_ ?_ _) | (with_reducible refine below_put ?_ ?_ _) | (with_reducible refine Below.drew ?_) | (with_reducible refine below_drewN_ ?_ _) | (with_reducible refine le_drewN ?_ _) | (with_reducible refine over_le _ _ _ ?_) | (with_reducible refine le_alloc ?_ _) | (with_reducible refine le_setCell ?_ _ _) | (with_reducible refine le_put ?_ _ _) | (with_reducible refine le_drew ?_) | dsimp only | omega | ((try simp only [World.size_alloc, World.size_setCell, World.size_drew, size_put]); omega) | (simp; done))))
set_option maxRecDepth 100000 in
set_option maxHeartbeats 400000 in
theorem ledger_Balance (s : Sl) (xs : List PV) (a : Int) (w : World) (hs : Rd w PV.enc s xs) (hg : goodP xs) (hn : s.n ≤ 4000) : Calls Try.prog 18 #[s.val, .int .i64 a] w (Gives (.int .i64 (inP a xs - outP a xs)) w) := by
  have Hs := Lib.hid hs
  have Hc := Lib.hid (fun w' (h : Below w.heap.size w w') => ledger_Turnover s xs a w' (Hs.out.toW h) hg hn)
  have h1 := inP_bd a hg
  have h2 := outP_bd a hg
  have hl : xs.length ≤ 4000 := by rw [hs.len]; exact hn
  obtain ⟨h10, h11⟩ : 0 ≤ inP a xs ∧ inP a xs ≤ 4398046511104000 := by omega
  obtain ⟨h20, h21⟩ : 0 ≤ outP a xs ∧ outP a xs ≤ 4398046511104000 := by omega
  clear hs hg h1 h2
  simp only [sumV] at Hc
  generalize inP a xs = U at *
  generalize outP a xs = T at *
  (go_enter Try.func18, Try.ntmps18; try dsimp only [List.append])
  go_wp2_with fail
  refine (Hc.out _ (by (repeat' (first | (with_reducible exact Below.refl _ _) | (with_reducible exact Nat.le_refl _) | (with_reducible assumption) | (with_reducible refine below_step ?_ ?_ hr) | (with_reducible refine below_over ?_ ?_ _) | (with_reducible refine Below.alloc ?_ ?_ _) | (with_reducible refine Below.setCell ?_ ?_ _) | (with_reducible refine below_put ?_ ?_ _) | (with_reducible refine Below.drew ?_) | (with_reducible refine below_drewN_ ?_ _) | (with_reducible refine le_drewN ?_ _) | (with_reducible refine over_le _ _ _ ?_) | (with_reducible refine le_alloc ?_ _) | (with_reducible refine le_setCell ?_ _ _) | (with_reducible refine le_put ?_ _ _) | (with_reducible refine le_drew ?_) | dsimp only | omega | ((try simp only [World.size_alloc, World.size_setCell, World.size_drew, size_put]); omega) | (simp; done))))).mono ?_
  rintro e w1 hg
  obtain ⟨rfl, hb⟩ := hg.below
  clear hg
  have hz := hb.size
  (try simp only [World.size_alloc, World.size_setCell, World.size_drew, size_put] at hz)
  have hB : Below w.heap.size w w1 := below_step (by (repeat' (first | (with_reducible exact Below.refl _ _) | (with_reducible exact Nat.le_refl _) | (with_reducible assumption) | (with_reducible refine below_step ?_ ?_ hr) | (with_reducible refine below_over ?_ ?_ _) | (with_reducible refine Below.alloc ?_ ?_ _) | (with_reducible refine Below.setCell ?_ ?_ _) | (with_reducible refine below_put ?_ ?_ _) | (with_reducible refine Below.drew ?_) | (with_reducible refine below_drewN_ ?_ _) | (with_reducible refine le_drewN ?_ _) | (with_reducible refine over_le _ _ _ ?_) | (with_reducible refine le_alloc ?_ _) | (with_reducible refine le_setCell ?_ _ _) | (with_reducible refine le_put ?_ _ _) | (with_reducible refine le_drew ?_) | dsimp only | omega | ((try simp only [World.size_alloc, World.size_setCell, World.size_drew, size_put]); omega) | (simp; done)))) (by (first | omega | ((try simp only [World.size_alloc, World.size_setCell, World.size_drew, size_put]); omega))) hb
  clear hb
  go_wp2_with fail
  go_ret
  exact gives_of rfl (by go_light; (repeat' (first | (with_reducible exact Below.refl _ _) | (with_reducible exact Nat.le_refl _) | (with_reducible assumption) | (with_reducible refine below_step ?_ ?_ hr) | (with_reducible refine below_over ?_ ?_ _) | (with_reducible refine Below.alloc ?_ ?_ _) | (with_reducible refine Below.setCell ?_ ?_ _) | (with_reducible refine below_put ?_ ?_ _) | (with_reducible refine Below.drew ?_) | (with_reducible refine below_drewN_ ?_ _) | (with_reducible refine le_drewN ?_ _) | (with_reducible refine over_le _ _ _ ?_) | (with_reducible refine le_alloc ?_ _) | (with_reducible refine le_setCell ?_ _ _) | (with_reducible refine le_put ?_ _ _) | (with_reducible refine le_drew ?_) | dsimp only | omega | ((try simp only [World.size_alloc, World.size_setCell, World.size_drew, size_put]); omega) | (simp; done))))
set_option maxRecDepth 100000 in
set_option maxHeartbeats 400000 in
theorem ref09_Balance (s : Sl) (xs : List PV) (a : Int) (w : World) (hs : Rd w PV.enc s xs) (hg : goodP xs) (hn : s.n ≤ 4000) : Calls Try.prog 19 #[s.val, .int .i64 a] w (Gives (.int .i64 (inP a xs - outP a xs)) w) := by
  have Hs := Lib.hid hs
  have Hc := Lib.hid (fun w' (h : Below w.heap.size w w') => ref09_Turnover s xs a w' (Hs.out.toW h) hg hn)
  have h1 := inP_bd a hg
  have h2 := outP_bd a hg
  have hl : xs.length ≤ 4000 := by rw [hs.len]; exact hn
  obtain ⟨h10, h11⟩ : 0 ≤ inP a xs ∧ inP a xs ≤ 4398046511104000 := by omega
  obtain ⟨h20, h21⟩ : 0 ≤ outP a xs ∧ outP a xs ≤ 4398046511104000 := by omega
  clear hs hg h1 h2
  simp only [sumV] at Hc
  generalize inP a xs = U at *
  generalize outP a xs = T at *
  (go_enter Try.func19, Try.ntmps19; try dsimp only [List.append])
  go_wp2_with fail
  refine (Hc.out _ (by (repeat' (first | (with_reducible exact Below.refl _ _) | (with_reducible exact Nat.le_refl _) | (with_reducible assumption) | (with_reducible refine below_step ?_ ?_ hr) | (with_reducible refine below_over ?_ ?_ _) | (with_reducible refine Below.alloc ?_ ?_ _) | (with_reducible refine Below.setCell ?_ ?_ _) | (with_reducible refine below_put ?_ ?_ _) | (with_reducible refine Below.drew ?_) | (with_reducible refine below_drewN_ ?_ _) | (with_reducible refine le_drewN ?_ _) | (with_reducible refine over_le _ _ _ ?_) | (with_reducible refine le_alloc ?_ _) | (with_reducible refine le_setCell ?_ _ _) | (with_reducible refine le_put ?_ _ _) | (with_reducible refine le_drew ?_) | dsimp only | omega | ((try simp only [World.size_alloc, World.size_setCell, World.size_drew, size_put]); omega) | (simp; done))))).mono ?_
  rintro e w1 hg
  obtain ⟨rfl, hb⟩ := hg.below
  clear hg
  have hz := hb.size
  (try simp only [World.size_alloc, World.size_setCell, World.size_drew, size_put] at hz)
  have hB : Below w.heap.size w w1 := below_step (by (repeat' (first | (with_reducible exact Below.refl _ _) | (with_reducible exact Nat.le_refl _) | (with_reducible assumption) | (with_reducible refine below_step ?_ ?_ hr) | (with_reducible refine below_over ?_ ?_ _) | (with_reducible refine Below.alloc ?_ ?_ _) | (with_reducible refine Below.setCell ?_ ?_ _) | (with_reducible refine below_put ?_ ?_ _) | (with_reducible refine Below.drew ?_) | (with_reducible refine below_drewN_ ?_ _) | (with_reducible refine le_drewN ?_ _) | (with_reducible refine over_le _ _ _ ?_) | (with_reducible refine le_alloc ?_ _) | (with_reducible refine le_setCell ?_ _ _) | (with_reducible refine le_put ?_ _ _) | (with_reducible refine le_drew ?_) | dsimp only | omega | ((try simp only [World.size_alloc, World.size_setCell, World.size_drew, size_put]); omega) | (simp; done)))) (by (first | omega | ((try simp only [World.size_alloc, World.size_setCell, World.size_drew, size_put]); omega))) hb
  clear hb
  go_wp2_with fail
  go_ret
  exact gives_of rfl (by go_light; (repeat' (first | (with_reducible exact Below.refl _ _) | (with_reducible exact Nat.le_refl _) | (with_reducible assumption) | (with_reducible refine below_step ?_ ?_ hr) | (with_reducible refine below_over ?_ ?_ _) | (with_reducible refine Below.alloc ?_ ?_ _) | (with_reducible refine Below.setCell ?_ ?_ _) | (with_reducible refine below_put ?_ ?_ _) | (with_reducible refine Below.drew ?_) | (with_reducible refine below_drewN_ ?_ _) | (with_reducible refine le_drewN ?_ _) | (with_reducible refine over_le _ _ _ ?_) | (with_reducible refine le_alloc ?_ _) | (with_reducible refine le_setCell ?_ _ _) | (with_reducible refine le_put ?_ _ _) | (with_reducible refine le_drew ?_) | dsimp only | omega | ((try simp only [World.size_alloc, World.size_setCell, World.size_drew, size_put]); omega) | (simp; done))))
end Go.Proofs.Ytodbcjhghpiloaa
