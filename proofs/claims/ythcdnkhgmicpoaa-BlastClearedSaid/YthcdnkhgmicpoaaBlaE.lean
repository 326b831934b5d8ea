/- Missions: equal ones compare equal; Same and SameInts of the reference, at equal lists. -/
import Derived.Test.YthcdnkhgmicpoaaBlaV
import Derived.Test.YthcdnkhgmicpoaaBlaW
namespace Go.Proofs.Ythcdnkhgmicpoaa
set_option linter.unusedSimpArgs false
set_option linter.unusedVariables false
open Go.RowKit
theorem eqIn_win (fuel : Nat) (a b : Int) (w : World) : (Op.equalIn (fuel + 2) 28 (.agg #[.int .i64 a, .int .i64 b]) (.agg #[.int .i64 a, .int .i64 b])).run Try.prog w = .ok true w := by
  rw [run_equalIn_agg _ _ _ _ _ (by kernel_rfl) (by kernel_rfl)]
  simp [Program.fieldsOf, Try.underlying28, Op.eqFields, go_sem]
@[go_sem high] theorem eqIn_ms (a b c d e f g : Int) (w : World) : (Op.equalIn 10000 30 (.agg #[.int .i64 a, .int .i64 b, .int .i64 c, .int .i64 d, .int .i64 e, .int .i64 f, .int .i64 g]) (.agg #[.int .i64 a, .int .i64 b, .int .i64 c, .int .i64 d, .int .i64 e, .int .i64 f, .int .i64 g])).run Try.prog w = .ok true w := by
  rw [run_equalIn_agg _ _ _ _ _ (by kernel_rfl) (by kernel_rfl)]
  simp [Program.fieldsOf, Try.underlying30, Op.eqFields, go_sem]
@[go_sem high] theorem run_neqM (a b c d e f g : Int) (w : World) : (binOp .neq 30 (.agg #[.int .i64 a, .int .i64 b, .int .i64 c, .int .i64 d, .int .i64 e, .int .i64 f, .int .i64 g]) (.agg #[.int .i64 a, .int .i64 b, .int .i64 c, .int .i64 d, .int .i64 e, .int .i64 f, .int .i64 g])).run Try.prog w = .ok (.bool false) w := by
  rw [run_neq_struct, eqIn_ms]
  rfl
@[go_sem high] theorem guard_eqM (op : BinOp) (x y : Operand) (xs ys : Array Value) (w : World) : (eqGuard op 30 x y (.agg xs) (.agg ys)).run Try.prog w = .ok () w := run_eqGuard_agg w op _ x y xs ys (by kernel_rfl)
@[go_sem high] theorem run_neqW (a b : Int) (w : World) : (binOp .neq 28 (.agg #[.int .i64 a, .int .i64 b]) (.agg #[.int .i64 a, .int .i64 b])).run Try.prog w = .ok (.bool false) w := by
  rw [run_neq_struct, eqIn_win]
  rfl
@[go_sem high] theorem guard_eqW (op : BinOp) (x y : Operand) (xs ys : Array Value) (w : World) : (eqGuard op 28 x y (.agg xs) (.agg ys)).run Try.prog w = .ok () w := run_eqGuard_agg w op _ x y xs ys (by kernel_rfl)
set_option maxRecDepth 100000 in
set_option maxHeartbeats 3200000 in
theorem ref51_Same (s t : Sl) (l : List MS) (w : World) (hs : Rd w MS.enc s l) (ht : Rd w MS.enc t l) : Calls Try.prog 16 #[s.val, t.val] w (Gives (.bool true) w) := by
  obtain ⟨A, n, c⟩ := s
  obtain ⟨A2, m, d⟩ := t
  have hnm : m = n := by have h1 := hs.len; have h2 := ht.len; dsimp only at h1 h2; omega
  subst hnm
  have Hs := Lib.hid hs
  have Ht := Lib.hid ht
  have hmax : m ≤ 9223372036854775807 := hs.bound
  clear hs ht
  simp only [Sl.val]
  have hneb : ((m : Int) != (m : Int)) = false := by simp
  (go_enter Try.func16, Try.ntmps16; try dsimp only [List.append])
  go_wp2_with fail
  clear hneb
  go_loopw [5] (fun i wr => ∃ k : Nat, k ≤ m ∧ i = .int .i64 k ∧ Below w.heap.size w wr) (fun i _ => m - (intOf i).toNat)
  case atStart => exact ⟨0, Nat.zero_le _, rfl, Below.refl _ _⟩
  case round =>
    obtain ⟨k, hk, rfl, hBr⟩ := hrel
    have hzr := hBr.size
    by_cases hlt : k < m
    · obtain ⟨b, off, ⟨id, slide, by_, state, since, fr, till⟩, rfl, hbw, -, Hx, hc0, hc1, hc2, hc3, hc4, hc5, hc6⟩ := Hs.out.ms hlt
      obtain ⟨b2, off2, y, rfl, hbw2, -, Hy, hd0, hd1, hd2, hd3, hd4, hd5, hd6⟩ := Ht.out.ms hlt
      obtain rfl : y = ⟨id, slide, by_, state, since, fr, till⟩ := by have h1 := Hy.out; rw [Hx.out] at h1; exact (Option.some.inj h1).symm
      have e0 := (hBr.cell (p := ⟨b, _, none⟩) hbw).trans hc0
      have e1 := (hBr.cell (p := ⟨b, _, none⟩) hbw).trans hc1
      have e2 := (hBr.cell (p := ⟨b, _, none⟩) hbw).trans hc2
      have e3 := (hBr.cell (p := ⟨b, _, none⟩) hbw).trans hc3
      have e4 := (hBr.cell (p := ⟨b, _, none⟩) hbw).trans hc4
      have e5 := (hBr.cell (p := ⟨b, _, none⟩) hbw).trans hc5
      have e6 := (hBr.cell (p := ⟨b, _, none⟩) hbw).trans hc6
      have f0 := (hBr.cell (p := ⟨b2, _, none⟩) hbw2).trans hd0
      have f1 := (hBr.cell (p := ⟨b2, _, none⟩) hbw2).trans hd1
      have f2 := (hBr.cell (p := ⟨b2, _, none⟩) hbw2).trans hd2
      have f3 := (hBr.cell (p := ⟨b2, _, none⟩) hbw2).trans hd3
      have f4 := (hBr.cell (p := ⟨b2, _, none⟩) hbw2).trans hd4
      have f5 := (hBr.cell (p := ⟨b2, _, none⟩) hbw2).trans hd5
      have f6 := (hBr.cell (p := ⟨b2, _, none⟩) hbw2).trans hd6
      clear hc0 hc1 hc2 hc3 hc4 hc5 hc6 hd0 hd1 hd2 hd3 hd4 hd5 hd6
      go_wp2_with fail
      all_goals refine wp_region_over (by kernel_rfl) (by kernel_rfl) ?_
      repeat (any_goals (first | go_big_quiet_step ((fail)) | (refine wpQuiet_step (fun K hK => ?_); go_simp; split <;> (refine hK _ ?_; clear hK K)) | quiet_step ((fail))))
      all_goals (refine wpQuiet_nil ?_; intro w5 hw'; have hb := below_of_ex hw'; clear hw'; have hz := hb.size; (try simp only [World.size_alloc, World.size_setCell, World.size_drew, size_put] at hz); have hB : Below wr.heap.size wr w5 := below_step (by (repeat' (first | (with_reducible exact Below.refl _ _) | (with_reducible exact Nat.le_refl _) | (with_reducible assumption) | (with_reducible refine below_step ?_ ?_ hr) | (with_reducible refine below_over ?_ ?_ _) | (with_reducible refine Below.alloc ?_ ?_ _) | (with_reducible refine Below.setCell ?_ ?_ _) | (with_reducible refine below_put ?_ ?_ _) | (with_reducible refine Below.drew ?_) | (with_reducible refine below_drewN_ ?_ _) | (with_reducible refine le_drewN ?_ _) | (with_reducible refine over_le _ _ _ ?_) | (with_reducible refine le_alloc ?_ _) | (with_reducible refine le_setCell ?_ _ _) | (with_reducible refine le_put ?_ _ _) | (with_reducible refine le_drew ?_) | dsimp only | omega | ((try simp only [World.size_alloc, World.size_setCell, World.size_drew, size_put]); omega) | (simp; done)))) (by (first | omega | ((try simp only [World.size_alloc, World.size_setCell, World.size_drew, size_put]); omega))) hb; clear hb)
      have hBr5 : Below w.heap.size w w5 := hBr.trans (hB.mono hzr)
      go_wp2_with fail
      go_roundw
      case rel => exact ⟨k + 1, by omega, by go_num, by go_light; (repeat' (first | (with_reducible exact Below.refl _ _) | (with_reducible exact Nat.le_refl _) | (with_reducible assumption) | (with_reducible refine below_step ?_ ?_ hr) | (with_reducible refine below_over ?_ ?_ _) | (with_reducible refine Below.alloc ?_ ?_ _) | (with_reducible refine Below.setCell ?_ ?_ _) | (with_reducible refine below_put ?_ ?_ _) | (with_reducible refine Below.drew ?_) | (with_reducible refine below_drewN_ ?_ _) | (with_reducible refine le_drewN ?_ _) | (with_reducible refine over_le _ _ _ ?_) | (with_reducible refine le_alloc ?_ _) | (with_reducible refine le_setCell ?_ _ _) | (with_reducible refine le_put ?_ _ _) | (with_reducible refine le_drew ?_) | dsimp only | omega | ((try simp only [World.size_alloc, World.size_setCell, World.size_drew, size_put]); omega) | (simp; done)))⟩
      case measure => (simp [intOf] <;> omega)
    · go_wp2_with fail
      go_ret
      exact gives_of rfl (by go_light; (repeat' (first | (with_reducible exact Below.refl _ _) | (with_reducible exact Nat.le_refl _) | (with_reducible assumption) | (with_reducible refine below_step ?_ ?_ hr) | (with_reducible refine below_over ?_ ?_ _) | (with_reducible refine Below.alloc ?_ ?_ _) | (with_reducible refine Below.setCell ?_ ?_ _) | (with_reducible refine below_put ?_ ?_ _) | (with_reducible refine Below.drew ?_) | (with_reducible refine below_drewN_ ?_ _) | (with_reducible refine le_drewN ?_ _) | (with_reducible refine over_le _ _ _ ?_) | (with_reducible refine le_alloc ?_ _) | (with_reducible refine le_setCell ?_ _ _) | (with_reducible refine le_put ?_ _ _) | (with_reducible refine le_drew ?_) | dsimp only | omega | ((try simp only [World.size_alloc, World.size_setCell, World.size_drew, size_put]); omega) | (simp; done))))
set_option maxRecDepth 100000 in
set_option maxHeartbeats 3200000 in
theorem ref51_SameInts (s t : Sl) (l : List Int) (w : World) (hs : Rd w encI s l) (ht : Rd w encI t l) : Calls Try.prog 21 #[s.val, t.val] w (Gives (.bool true) w) := by
  obtain ⟨A, n, c⟩ := s
  obtain ⟨A2, m, d⟩ := t
  have hnm : m = n := by have h1 := hs.len; have h2 := ht.len; dsimp only at h1 h2; omega
  subst hnm
  have Hs := Lib.hid hs
  have Ht := Lib.hid ht
  have hmax : m ≤ 9223372036854775807 := hs.bound
  clear hs ht
  simp only [Sl.val]
  have hneb : ((m : Int) != (m : Int)) = false := by simp
  (go_enter Try.func21, Try.ntmps21; try dsimp only [List.append])
  go_wp2_with fail
  clear hneb
  go_loopw [5] (fun i wr => ∃ k : Nat, k ≤ m ∧ i = .int .i64 k ∧ Below w.heap.size w wr) (fun i _ => m - (intOf i).toNat)
  case atStart => exact ⟨0, Nat.zero_le _, rfl, Below.refl _ _⟩
  case round =>
    obtain ⟨k, hk, rfl, hBr⟩ := hrel
    have hzr := hBr.size
    by_cases hlt : k < m
    · obtain ⟨b, off, x, rfl, hbw, -, Hx, hc0⟩ := Hs.out.int hlt
      obtain ⟨b2, off2, y, rfl, hbw2, -, Hy, hd0⟩ := Ht.out.int hlt
      obtain rfl : y = x := by have h1 := Hy.out; rw [Hx.out] at h1; exact (Option.some.inj h1).symm
      have e0 := (hBr.cell (p := ⟨b, _, none⟩) hbw).trans hc0
      have f0 := (hBr.cell (p := ⟨b2, _, none⟩) hbw2).trans hd0
      have hyy : (y != y) = false := by simp
      clear hc0 hd0
      go_wp2_with fail
      all_goals refine wp_region_over (by kernel_rfl) (by kernel_rfl) ?_
      repeat (any_goals (first | go_big_quiet_step ((fail)) | (refine wpQuiet_step (fun K hK => ?_); go_simp; split <;> (refine hK _ ?_; clear hK K)) | quiet_step ((fail))))
      all_goals (refine wpQuiet_nil ?_; intro w5 hw'; have hb := below_of_ex hw'; clear hw'; have hz := hb.size; (try simp only [World.size_alloc, World.size_setCell, World.size_drew, size_put] at hz); have hB : Below wr.heap.size wr w5 := below_step (by (repeat' (first | (with_reducible exact Below.refl _ _) | (with_reducible exact Nat.le_refl _) | (with_reducible assumption) | (with_reducible refine below_step ?_ ?_ hr) | (with_reducible refine below_over ?_ ?_ _) | (with_reducible refine Below.alloc ?_ ?_ _) | (with_reducible refine Below.setCell ?_ ?_ _) | (with_reducible refine below_put ?_ ?_ _) | (with_reducible refine Below.drew ?_) | (with_reducible refine below_drewN_ ?_ _) | (with_reducible refine le_drewN ?_ _) | (with_reducible refine over_le _ _ _ ?_) | (with_reducible refine le_alloc ?_ _) | (with_reducible refine le_setCell ?_ _ _) | (with_reducible refine le_put ?_ _ _) | (with_reducible refine le_drew ?_) | dsimp only | omega | ((try simp only [World.size_alloc, World.size_setCell, World.size_drew, size_put]); omega) | (simp; done)))) (by (first | omega | ((try simp only [World.size_alloc, World.size_setCell, World.size_drew, size_put]); omega))) hb; clear hb)
      have hBr5 : Below w.heap.size w w5 := hBr.trans (hB.mono hzr)
      go_wp2_with fail
      go_roundw
      case rel => exact ⟨k + 1, by omega, by go_num, by go_light; (repeat' (first | (with_reducible exact Below.refl _ _) | (with_reducible exact Nat.le_refl _) | (with_reducible assumption) | (with_reducible refine below_step ?_ ?_ hr) | (with_reducible refine below_over ?_ ?_ _) | (with_reducible refine Below.alloc ?_ ?_ _) | (with_reducible refine Below.setCell ?_ ?_ _) | (with_reducible refine below_put ?_ ?_ _) | (with_reducible refine Below.drew ?_) | (with_reducible refine below_drewN_ ?_ _) | (with_reducible refine le_drewN ?_ _) | (with_reducible refine over_le _ _ _ ?_) | (with_reducible refine le_alloc ?_ _) | (with_reducible refine le_setCell ?_ _ _) | (with_reducible refine le_put ?_ _ _) | (with_reducible refine le_drew ?_) | dsimp only | omega | ((try simp only [World.size_alloc, World.size_setCell, World.size_drew, size_put]); omega) | (simp; done)))⟩
      case measure => (simp [intOf] <;> omega)
    · go_wp2_with fail
      go_ret
      exact gives_of rfl (by go_light; (repeat' (first | (with_reducible exact Below.refl _ _) | (with_reducible exact Nat.le_refl _) | (with_reducible assumption) | (with_reducible refine below_step ?_ ?_ hr) | (with_reducible refine below_over ?_ ?_ _) | (with_reducible refine Below.alloc ?_ ?_ _) | (with_reducible refine Below.setCell ?_ ?_ _) | (with_reducible refine below_put ?_ ?_ _) | (with_reducible refine Below.drew ?_) | (with_reducible refine below_drewN_ ?_ _) | (with_reducible refine le_drewN ?_ _) | (with_reducible refine over_le _ _ _ ?_) | (with_reducible refine le_alloc ?_ _) | (with_reducible refine le_setCell ?_ _ _) | (with_reducible refine le_put ?_ _ _) | (with_reducible refine le_drew ?_) | dsimp only | omega | ((try simp only [World.size_alloc, World.size_setCell, World.size_drew, size_put]); omega) | (simp; done))))
end Go.Proofs.Ythcdnkhgmicpoaa
