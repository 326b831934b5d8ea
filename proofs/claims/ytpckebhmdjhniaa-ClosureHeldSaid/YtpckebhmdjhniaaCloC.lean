/- Closures: equality at equal lists; lists of the call's own; slices.Clone. -/
import Derived.Test.YtpckebhmdjhniaaCloR
namespace Go.Proofs.Ytpckebhmdjhniaa
set_option linter.unusedSimpArgs false
set_option linter.unusedVariables false
open Go.RowKit
theorem info_clo : (Try.prog.info? 28).map (fun i => (i.zero, i.size, i.bytes)) = some (some (.agg #[.int .i64 0, .int .i64 0, .int .i64 0, .int .i64 0]), 4, 32) := by kernel_rfl
theorem one_cv (h : CV) : ∀ u ∈ h.enc, u.oneCell' = true := by intro u hu; simp [CV.enc] at hu; rcases hu with rfl | rfl | rfl | rfl <;> rfl
abbrev OwnC (w : World) (base : Nat) (s : Sl) (xs : List CV) : Prop := Own w base 28 4 CV.enc s xs
def OwnCPost (xs : List CV) (w : World) (e : Ending) (w' : World) : Prop := ∃ v : Sl, e = .returned v.val ∧ Below w.heap.size w w' ∧ OwnC w' w.heap.size v xs
set_option maxRecDepth 100000 in
set_option maxHeartbeats 800000 in
theorem ref52_SameInts (s t : Sl) (xs : List Int) (w : World) (hs : Rd w encI s xs) (ht : Rd w encI t xs) : Calls Try.prog 19 #[s.val, t.val] w (Gives (.bool true) w) := by
  obtain ⟨A, n, c⟩ := s
  obtain ⟨B, m, d⟩ := t
  have Hx := Lib.hid hs
  have Hy := Lib.hid ht
  have hmn : m = n := by have h1 := Hx.out.len; have h2 := Hy.out.len; dsimp only at h1 h2; omega
  subst hmn
  have hmax : m ≤ 9223372036854775807 := Hx.out.bound
  clear hs ht
  simp only [Sl.val]
  (go_enter Try.func19, Try.ntmps19; try dsimp only [List.append])
  go_wp2_with fail
  go_loopw [5] (fun i wr => ∃ k : Nat, k ≤ m ∧ i = .int .i64 k ∧ Below w.heap.size w wr) (fun i _ => m - (intOf i).toNat)
  case atStart => exact ⟨0, Nat.zero_le _, rfl, Below.refl _ _⟩
  case round =>
    obtain ⟨k, hk, rfl, hBw⟩ := hrel
    have hzr := hBw.size
    by_cases hlt : k < m
    · obtain ⟨b, off, u, rfl, hbw, -, Hu, hc0⟩ := Hx.out.int hlt
      obtain ⟨b', off', u', rfl, hbw', -, Hu', hd0⟩ := Hy.out.int hlt
      obtain rfl : u = u' := by have h1 := Hu.out; have h2 := Hu'.out; rw [h1] at h2; cases h2; rfl
      have e0 := (hBw.cell (p := ⟨b, _, none⟩) hbw).trans hc0
      have e3 := (hBw.cell (p := ⟨b', _, none⟩) hbw').trans hd0
      clear hc0 hd0
      go_wp2_with fail
      all_goals refine wp_region_over (by kernel_rfl) (by kernel_rfl) ?_
      repeat (any_goals (first | go_big_quiet_step ((fail)) | (refine wpQuiet_step (fun K hK => ?_); go_simp; split <;> (refine hK _ ?_; clear hK K)) | quiet_step ((fail))))
      all_goals (refine wpQuiet_nil ?_; intro _ hw'; obtain ⟨xq, hw''⟩ := hw'; have hz := size_of hw''; (try simp only [World.size_alloc, World.size_setCell, World.size_drew] at hz); subst hw'')
      go_wp2_with fail
      go_roundw
      case rel => exact ⟨k + 1, by omega, by go_num, by go_light; (repeat' (first | (with_reducible exact Below.refl _ _) | (with_reducible exact Nat.le_refl _) | (with_reducible assumption) | (with_reducible refine below_step ?_ ?_ hr) | (with_reducible refine below_over ?_ ?_ _) | (with_reducible refine Below.alloc ?_ ?_ _) | (with_reducible refine Below.setCell ?_ ?_ _) | (with_reducible refine below_put ?_ ?_ _) | (with_reducible refine Below.drew ?_) | (with_reducible refine below_drewN_ ?_ _) | (with_reducible refine le_drewN ?_ _) | (with_reducible refine over_le _ _ _ ?_) | (with_reducible refine le_alloc ?_ _) | (with_reducible refine le_setCell ?_ _ _) | (with_reducible refine le_put ?_ _ _) | (with_reducible refine le_drew ?_) | dsimp only | omega | ((try simp only [World.size_alloc, World.size_setCell, World.size_drew, size_put]); omega) | (simp; done)))⟩
      case measure => (simp [intOf] <;> omega)
    · go_wp2_with fail
      go_ret
      exact gives_of rfl (by go_light; (repeat' (first | (with_reducible exact Below.refl _ _) | (with_reducible exact Nat.le_refl _) | (with_reducible assumption) | (with_reducible refine below_step ?_ ?_ hr) | (with_reducible refine below_over ?_ ?_ _) | (with_reducible refine Below.alloc ?_ ?_ _) | (with_reducible refine Below.setCell ?_ ?_ _) | (with_reducible refine below_put ?_ ?_ _) | (with_reducible refine Below.drew ?_) | (with_reducible refine below_drewN_ ?_ _) | (with_reducible refine le_drewN ?_ _) | (with_reducible refine over_le _ _ _ ?_) | (with_reducible refine le_alloc ?_ _) | (with_reducible refine le_setCell ?_ _ _) | (with_reducible refine le_put ?_ _ _) | (with_reducible refine le_drew ?_) | dsimp only | omega | ((try simp only [World.size_alloc, World.size_setCell, World.size_drew, size_put]); omega) | (simp; done))))
set_option maxRecDepth 100000 in
set_option maxHeartbeats 800000 in
theorem ref52_Same (s t : Sl) (xs : List CV) (w : World) (hs : Rd w CV.enc s xs) (ht : Rd w CV.enc t xs) : Calls Try.prog 17 #[s.val, t.val] w (Gives (.bool true) w) := by
  obtain ⟨A, n, c⟩ := s
  obtain ⟨B, m, d⟩ := t
  have Hx := Lib.hid hs
  have Hy := Lib.hid ht
  have hmn : m = n := by have h1 := Hx.out.len; have h2 := Hy.out.len; dsimp only at h1 h2; omega
  subst hmn
  have hmax : m ≤ 9223372036854775807 := Hx.out.bound
  clear hs ht
  simp only [Sl.val]
  (go_enter Try.func17, Try.ntmps17; try dsimp only [List.append])
  go_wp2_with fail
  go_loopw [5] (fun i wr => ∃ k : Nat, k ≤ m ∧ i = .int .i64 k ∧ Below w.heap.size w wr) (fun i _ => m - (intOf i).toNat)
  case atStart => exact ⟨0, Nat.zero_le _, rfl, Below.refl _ _⟩
  case round =>
    obtain ⟨k, hk, rfl, hBw⟩ := hrel
    have hzr := hBw.size
    by_cases hlt : k < m
    · obtain ⟨b, off, u, rfl, hbw, -, Hu, hc0, hc1, hc2, hc3⟩ := Hx.out.cv hlt
      obtain ⟨b', off', u', rfl, hbw', -, Hu', hd0, hd1, hd2, hd3⟩ := Hy.out.cv hlt
      obtain rfl : u = u' := by have h1 := Hu.out; have h2 := Hu'.out; rw [h1] at h2; cases h2; rfl
      have e0 := (hBw.cell (p := ⟨b, _, none⟩) hbw).trans hc0
      have e1 := (hBw.cell (p := ⟨b, _, none⟩) hbw).trans hc1
      have e2 := (hBw.cell (p := ⟨b, _, none⟩) hbw).trans hc2
      have e3 := (hBw.cell (p := ⟨b, _, none⟩) hbw).trans hc3
      have f0 := (hBw.cell (p := ⟨b', _, none⟩) hbw').trans hd0
      have f1 := (hBw.cell (p := ⟨b', _, none⟩) hbw').trans hd1
      have f2 := (hBw.cell (p := ⟨b', _, none⟩) hbw').trans hd2
      have f3 := (hBw.cell (p := ⟨b', _, none⟩) hbw').trans hd3
      clear hc0 hc1 hc2 hc3 hd0 hd1 hd2 hd3
      go_wp2_with fail
      all_goals refine wp_region_over (by kernel_rfl) (by kernel_rfl) ?_
      repeat (any_goals (first | go_big_quiet_step ((fail)) | (refine wpQuiet_step (fun K hK => ?_); go_simp; split <;> (refine hK _ ?_; clear hK K)) | quiet_step ((fail))))
      all_goals (refine wpQuiet_nil ?_; intro _ hw'; obtain ⟨xq, hw''⟩ := hw'; have hz := size_of hw''; (try simp only [World.size_alloc, World.size_setCell, World.size_drew] at hz); subst hw'')
      go_wp2_with fail
      go_roundw
      case rel => exact ⟨k + 1, by omega, by go_num, by go_light; (repeat' (first | (with_reducible exact Below.refl _ _) | (with_reducible exact Nat.le_refl _) | (with_reducible assumption) | (with_reducible refine below_step ?_ ?_ hr) | (with_reducible refine below_over ?_ ?_ _) | (with_reducible refine Below.alloc ?_ ?_ _) | (with_reducible refine Below.setCell ?_ ?_ _) | (with_reducible refine below_put ?_ ?_ _) | (with_reducible refine Below.drew ?_) | (with_reducible refine below_drewN_ ?_ _) | (with_reducible refine le_drewN ?_ _) | (with_reducible refine over_le _ _ _ ?_) | (with_reducible refine le_alloc ?_ _) | (with_reducible refine le_setCell ?_ _ _) | (with_reducible refine le_put ?_ _ _) | (with_reducible refine le_drew ?_) | dsimp only | omega | ((try simp only [World.size_alloc, World.size_setCell, World.size_drew, size_put]); omega) | (simp; done)))⟩
      case measure => (simp [intOf] <;> omega)
    · go_wp2_with fail
      go_ret
      exact gives_of rfl (by go_light; (repeat' (first | (with_reducible exact Below.refl _ _) | (with_reducible exact Nat.le_refl _) | (with_reducible assumption) | (with_reducible refine below_step ?_ ?_ hr) | (with_reducible refine below_over ?_ ?_ _) | (with_reducible refine Below.alloc ?_ ?_ _) | (with_reducible refine Below.setCell ?_ ?_ _) | (with_reducible refine below_put ?_ ?_ _) | (with_reducible refine Below.drew ?_) | (with_reducible refine below_drewN_ ?_ _) | (with_reducible refine le_drewN ?_ _) | (with_reducible refine over_le _ _ _ ?_) | (with_reducible refine le_alloc ?_ _) | (with_reducible refine le_setCell ?_ _ _) | (with_reducible refine le_put ?_ _ _) | (with_reducible refine le_drew ?_) | dsimp only | omega | ((try simp only [World.size_alloc, World.size_setCell, World.size_drew, size_put]); omega) | (simp; done))))
set_option maxRecDepth 100000 in
set_option maxHeartbeats 1600000 in
theorem clone_closures (s : Sl) (xs : List CV) (w : World) (hr : Rd w CV.enc s xs) (hn : s.n ≤ 4000) : Calls Try.prog 33 #[s.val] w (OwnCPost xs w) := by
  obtain ⟨A, n, c⟩ := s
  have Hr := Lib.hid hr
  have Hn : Hid (xs.length = n) := hr.len
  dsimp only at hn
  clear hr
  simp only [Sl.val]
  have qN : ∀ (w : World) (a : Option Addr) (n c : Nat), (binOp .eql 22 (.slice a n c) (.slice none 0 0)).run Try.prog w = .ok (.bool a.isNone) w := fun w a n c => Lib.run_eql_slice_nil w _ _ a n c 0 0 Try.underlying22
  cases A with
  | none =>
    have hx : xs = [] := by
      have h0 : n = 0 := by
        rcases Nat.eq_zero_or_pos n with h | h
        · exact h
        · obtain ⟨b, off, e, _⟩ := Hr.out.cells h
          cases e
      exact List.eq_nil_of_length_eq_zero (by rw [Hn.out, h0])
    have Hx := Lib.hid hx
    clear hx
    (go_enter Try.func33, Try.ntmps33; try dsimp only [List.append])
    go_wp2_with fail
    go_ret
    exact ⟨⟨none, 0, 0⟩, rfl, by go_light; (repeat' (first | (with_reducible exact Below.refl _ _) | (with_reducible exact Nat.le_refl _) | (with_reducible assumption) | (with_reducible refine below_step ?_ ?_ hr) | (with_reducible refine below_over ?_ ?_ _) | (with_reducible refine Below.alloc ?_ ?_ _) | (with_reducible refine Below.setCell ?_ ?_ _) | (with_reducible refine below_put ?_ ?_ _) | (with_reducible refine Below.drew ?_) | (with_reducible refine below_drewN_ ?_ _) | (with_reducible refine le_drewN ?_ _) | (with_reducible refine over_le _ _ _ ?_) | (with_reducible refine le_alloc ?_ _) | (with_reducible refine le_setCell ?_ _ _) | (with_reducible refine le_put ?_ _ _) | (with_reducible refine le_drew ?_) | dsimp only | omega | ((try simp only [World.size_alloc, World.size_setCell, World.size_drew, size_put]); omega) | (simp; done))), by go_light; rw [Hx.out]; exact Own.nil_ _ _ _ _ _⟩
  | some a =>
    have qI : (some a : Option Addr).isNone = false := rfl
    (go_enter Try.func33, Try.ntmps33; try dsimp only [List.append])
    go_wp2_with (first
      | (at_builtin
         obtain ⟨i0, hi, hi0, hi1, hi2⟩ := info_parts info_clo
         have h0 : OwnC (w.alloc (.cells #[] 28)) w.heap.size ⟨some ⟨w.heap.size, 0, none⟩, 0, 0⟩ [] := own_empty _ _ _
         go_must (refine wpList_append_rd rfl _ _ _ rfl w.heap.size 28 i0 _ 4 32 Try.underlying22 hi hi0 hi1 hi2 rfl (by decide) (fun _ => rfl) one_cv (s := ⟨some ⟨w.heap.size, 0, none⟩, 0, 0⟩) (y := ⟨some a, n, c⟩) (xs := []) (ys := xs) rfl rfl h0 (Hr.out.toW (by (repeat' (first | (with_reducible exact Below.refl _ _) | (with_reducible exact Nat.le_refl _) | (with_reducible assumption) | (with_reducible refine below_step ?_ ?_ hr) | (with_reducible refine below_over ?_ ?_ _) | (with_reducible refine Below.alloc ?_ ?_ _) | (with_reducible refine Below.setCell ?_ ?_ _) | (with_reducible refine below_put ?_ ?_ _) | (with_reducible refine Below.drew ?_) | (with_reducible refine below_drewN_ ?_ _) | (with_reducible refine le_drewN ?_ _) | (with_reducible refine over_le _ _ _ ?_) | (with_reducible refine le_alloc ?_ _) | (with_reducible refine le_setCell ?_ _ _) | (with_reducible refine le_put ?_ _ _) | (with_reducible refine le_drew ?_) | dsimp only | omega | ((try simp only [World.size_alloc, World.size_setCell, World.size_drew, size_put]); omega) | (simp; done))))) (by simp only [maxLen]; omega) (by dsimp only; omega) (by simp) ?_)
         clear hi hi0 hi1 hi2 i0 h0
         intro v w2 hv hg hpos
         rw [List.nil_append] at hv
         have Hv := Lib.hid hv
         have hB : Below w.heap.size w w2 := Below.grown (by (repeat' (first | (with_reducible exact Below.refl _ _) | (with_reducible exact Nat.le_refl _) | (with_reducible assumption) | (with_reducible refine below_step ?_ ?_ hr) | (with_reducible refine below_over ?_ ?_ _) | (with_reducible refine Below.alloc ?_ ?_ _) | (with_reducible refine Below.setCell ?_ ?_ _) | (with_reducible refine below_put ?_ ?_ _) | (with_reducible refine Below.drew ?_) | (with_reducible refine below_drewN_ ?_ _) | (with_reducible refine le_drewN ?_ _) | (with_reducible refine over_le _ _ _ ?_) | (with_reducible refine le_alloc ?_ _) | (with_reducible refine le_setCell ?_ _ _) | (with_reducible refine le_put ?_ _ _) | (with_reducible refine le_drew ?_) | dsimp only | omega | ((try simp only [World.size_alloc, World.size_setCell, World.size_drew, size_put]); omega) | (simp; done)))) hg (by simp) (fun g hg2 => by cases hg2; exact Nat.le_refl _)
         clear hv hg hpos))
    go_ret
    exact ⟨v, rfl, by go_light; (repeat' (first | (with_reducible exact Below.refl _ _) | (with_reducible exact Nat.le_refl _) | (with_reducible assumption) | (with_reducible refine below_step ?_ ?_ hr) | (with_reducible refine below_over ?_ ?_ _) | (with_reducible refine Below.alloc ?_ ?_ _) | (with_reducible refine Below.setCell ?_ ?_ _) | (with_reducible refine below_put ?_ ?_ _) | (with_reducible refine Below.drew ?_) | (with_reducible refine below_drewN_ ?_ _) | (with_reducible refine le_drewN ?_ _) | (with_reducible refine over_le _ _ _ ?_) | (with_reducible refine le_alloc ?_ _) | (with_reducible refine le_setCell ?_ _ _) | (with_reducible refine le_put ?_ _ _) | (with_reducible refine le_drew ?_) | dsimp only | omega | ((try simp only [World.size_alloc, World.size_setCell, World.size_drew, size_put]); omega) | (simp; done))), Hv⟩
/-! Of. -/
def ofC (kind target : Int) (xs : List CV) : List Int := (xs.filter (fun c => c.kind == kind && c.target == target)).map CV.by_
theorem ofC_hit {kind target : Int} {xs : List CV} {k : Nat} {x : CV} (hx : xs[k]? = some x) (h1 : x.kind = kind) (h2 : x.target = target) : ofC kind target (xs.take (k + 1)) = ofC kind target (xs.take k) ++ [x.by_] := by
  rw [List.take_add_one, hx, ofC, List.filter_append]
  simp [ofC, h1, h2]
theorem ofC_not {kind target : Int} {xs : List CV} {k : Nat} {x : CV} (hx : xs[k]? = some x) (h : ¬ (x.kind = kind ∧ x.target = target)) : ofC kind target (xs.take (k + 1)) = ofC kind target (xs.take k) := by
  rw [List.take_add_one, hx, ofC, List.filter_append]
  have h2 : (x.kind == kind && x.target == target) = false := by simp; omega
  simp [ofC, h2]
theorem ofC_len (kind target : Int) (xs : List CV) : (ofC kind target xs).length ≤ xs.length := by rw [ofC, List.length_map]; exact List.length_filter_le _ _
set_option maxRecDepth 100000 in
set_option maxHeartbeats 1600000 in
theorem closure_Of (s : Sl) (xs : List CV) (kind target : Int) (w : World) (hs : Rd w CV.enc s xs) (hn : s.n ≤ 4000) : Calls Try.prog 20 #[s.val, .int .i64 kind, .int .i64 target] w (OwnIPost (sortI (ofC kind target xs)) w) := by
  obtain ⟨A, n, c⟩ := s
  dsimp only at hn
  have Hs := Lib.hid hs
  have Hn : Hid (xs.length = n) := hs.len
  clear hs
  simp only [Sl.val]
  generalize hV : sortI (ofC kind target xs) = V
  have HV := Lib.hid hV
  clear hV
  (go_enter Try.func20, Try.ntmps20; try dsimp only [List.append])
  go_wp2_with fail
  go_loopw [7, 12] (fun u i wr => ∃ (k : Nat) (v : Sl), k ≤ n ∧ u = v.val ∧ i = .int .i64 k ∧ Hid (OwnI wr w.heap.size v (ofC kind target (xs.take k))) ∧ Below w.heap.size w wr) (fun _ i _ => n - (intOf i).toNat)
  case atStart => exact ⟨0, ⟨none, 0, 0⟩, Nat.zero_le _, rfl, rfl, Own.nil_ _ _ _ _ _, by (repeat' (first | (with_reducible exact Below.refl _ _) | (with_reducible exact Nat.le_refl _) | (with_reducible assumption) | (with_reducible refine below_step ?_ ?_ hr) | (with_reducible refine below_over ?_ ?_ _) | (with_reducible refine Below.alloc ?_ ?_ _) | (with_reducible refine Below.setCell ?_ ?_ _) | (with_reducible refine below_put ?_ ?_ _) | (with_reducible refine Below.drew ?_) | (with_reducible refine below_drewN_ ?_ _) | (with_reducible refine le_drewN ?_ _) | (with_reducible refine over_le _ _ _ ?_) | (with_reducible refine le_alloc ?_ _) | (with_reducible refine le_setCell ?_ _ _) | (with_reducible refine le_put ?_ _ _) | (with_reducible refine le_drew ?_) | dsimp only | omega | ((try simp only [World.size_alloc, World.size_setCell, World.size_drew, size_put]); omega) | (simp; done)))⟩
  case round =>
    obtain ⟨k, v, hk, rfl, rfl, HO, hB⟩ := hrel
    have hz := hB.size
    have hvn : v.n ≤ k := by have h1 := HO.out.len; have h2 := ofC_len kind target (xs.take k); have h3 := List.length_take_le k xs; omega
    by_cases hlt : k < n
    · obtain ⟨b, off, x, rfl, hbw, -, Hx0, hc0, hc1, hc2, hc3⟩ := Hs.out.cv hlt
      have e0 := (hB.cell (p := ⟨b, _, none⟩) hbw).trans hc0
      have e1 := (hB.cell (p := ⟨b, _, none⟩) hbw).trans hc1
      have e2 := (hB.cell (p := ⟨b, _, none⟩) hbw).trans hc2
      have e3 := (hB.cell (p := ⟨b, _, none⟩) hbw).trans hc3
      clear hc0 hc1 hc2 hc3
      by_cases h1 : x.kind = kind
      · have hb1 : (x.kind == kind) = true := by simpa using h1
        by_cases h2 : x.target = target
        · have hb2 : (x.target == target) = true := by simpa using h2
          have HE := Lib.hid (ofC_hit Hx0.out h1 h2)
          clear h1 h2
          go_wp2_with (first
            | (at_builtin
               obtain ⟨i0, hi, hi0, hi1, hi2⟩ := info_parts info_int
               go_must (refine wpList_append_rd rfl _ _ _ rfl w.heap.size 3 i0 _ 1 8 Try.underlying39 hi hi0 hi1 hi2 rfl (by decide) (fun _ => rfl) one_int (s := v) (y := ⟨some ⟨wr.heap.size + 1, 0, none⟩, 1, 1⟩) (xs := ofC kind target (xs.take k)) (ys := [x.by_]) rfl rfl ((HO.out.alloc' _).alloc' _) (rd_new 1 (fun _ => rfl) [_] (by simp) rfl rfl (by simp [maxLen])) (by simp only [maxLen]; omega) (by dsimp only; omega) (by simp; omega) ?_)
               clear hi hi0 hi1 hi2 i0
               intro v2 w2 hv hg hpos
               rw [← HE.out] at hv
               have Hv := Lib.hid hv
               have hB2 : Below w.heap.size w w2 := Below.grown (by (repeat' (first | (with_reducible exact Below.refl _ _) | (with_reducible exact Nat.le_refl _) | (with_reducible assumption) | (with_reducible refine below_step ?_ ?_ hr) | (with_reducible refine below_over ?_ ?_ _) | (with_reducible refine Below.alloc ?_ ?_ _) | (with_reducible refine Below.setCell ?_ ?_ _) | (with_reducible refine below_put ?_ ?_ _) | (with_reducible refine Below.drew ?_) | (with_reducible refine below_drewN_ ?_ _) | (with_reducible refine le_drewN ?_ _) | (with_reducible refine over_le _ _ _ ?_) | (with_reducible refine le_alloc ?_ _) | (with_reducible refine le_setCell ?_ _ _) | (with_reducible refine le_put ?_ _ _) | (with_reducible refine le_drew ?_) | dsimp only | omega | ((try simp only [World.size_alloc, World.size_setCell, World.size_drew, size_put]); omega) | (simp; done)))) hg (by simp; omega) (fun g hg2 => (HO.out.block g hg2).1)
               clear hv hg hpos))
          go_roundw
          case rel => exact ⟨k + 1, v2, by omega, rfl, by go_num, Hv, hB2⟩
          case measure => (simp [intOf] <;> omega)
        · have hb2 : (x.target == target) = false := by simpa using h2
          have HE := Lib.hid (ofC_not (kind := kind) Hx0.out (fun e => h2 e.2))
          clear h1 h2
          go_wp2_with fail
          go_roundw
          case rel => exact ⟨k + 1, v, by omega, rfl, by go_num, Lib.hid (by go_light; rw [HE.out]; exact HO.out.alloc' _), by go_light; (repeat' (first | (with_reducible exact Below.refl _ _) | (with_reducible exact Nat.le_refl _) | (with_reducible assumption) | (with_reducible refine below_step ?_ ?_ hr) | (with_reducible refine below_over ?_ ?_ _) | (with_reducible refine Below.alloc ?_ ?_ _) | (with_reducible refine Below.setCell ?_ ?_ _) | (with_reducible refine below_put ?_ ?_ _) | (with_reducible refine Below.drew ?_) | (with_reducible refine below_drewN_ ?_ _) | (with_reducible refine le_drewN ?_ _) | (with_reducible refine over_le _ _ _ ?_) | (with_reducible refine le_alloc ?_ _) | (with_reducible refine le_setCell ?_ _ _) | (with_reducible refine le_put ?_ _ _) | (with_reducible refine le_drew ?_) | dsimp only | omega | ((try simp only [World.size_alloc, World.size_setCell, World.size_drew, size_put]); omega) | (simp; done)))⟩
          case measure => (simp [intOf] <;> omega)
      · have hb1 : (x.kind == kind) = false := by simpa using h1
        have HE := Lib.hid (ofC_not (target := target) Hx0.out (fun e => h1 e.1))
        clear h1
        go_wp2_with fail
        go_roundw
        case rel => exact ⟨k + 1, v, by omega, rfl, by go_num, Lib.hid (by go_light; rw [HE.out]; exact HO.out.alloc' _), by go_light; (repeat' (first | (with_reducible exact Below.refl _ _) | (with_reducible exact Nat.le_refl _) | (with_reducible assumption) | (with_reducible refine below_step ?_ ?_ hr) | (with_reducible refine below_over ?_ ?_ _) | (with_reducible refine Below.alloc ?_ ?_ _) | (with_reducible refine Below.setCell ?_ ?_ _) | (with_reducible refine below_put ?_ ?_ _) | (with_reducible refine Below.drew ?_) | (with_reducible refine below_drewN_ ?_ _) | (with_reducible refine le_drewN ?_ _) | (with_reducible refine over_le _ _ _ ?_) | (with_reducible refine le_alloc ?_ _) | (with_reducible refine le_setCell ?_ _ _) | (with_reducible refine le_put ?_ _ _) | (with_reducible refine le_drew ?_) | dsimp only | omega | ((try simp only [World.size_alloc, World.size_setCell, World.size_drew, size_put]); omega) | (simp; done)))⟩
        case measure => (simp [intOf] <;> omega)
    · have HE : Hid (xs.take k = xs) := List.take_of_length_le (by rw [Hn.out]; omega)
      rw [HE.out] at HO
      go_wp2_with (go_at_call 39; refine (sort_own _ _ v _ HO.out (by omega) (by omega)).mono ?_; rintro e w5 ⟨rfl, hb5, hv5⟩; have HV5 := Lib.hid hv5; have hB5 : Below w.heap.size w w5 := hB.trans (hb5.mono (by omega)); clear hv5 hb5)
      go_ret
      exact ⟨v, rfl, by go_light; (repeat' (first | (with_reducible exact Below.refl _ _) | (with_reducible exact Nat.le_refl _) | (with_reducible assumption) | (with_reducible refine below_step ?_ ?_ hr) | (with_reducible refine below_over ?_ ?_ _) | (with_reducible refine Below.alloc ?_ ?_ _) | (with_reducible refine Below.setCell ?_ ?_ _) | (with_reducible refine below_put ?_ ?_ _) | (with_reducible refine Below.drew ?_) | (with_reducible refine below_drewN_ ?_ _) | (with_reducible refine le_drewN ?_ _) | (with_reducible refine over_le _ _ _ ?_) | (with_reducible refine le_alloc ?_ _) | (with_reducible refine le_setCell ?_ _ _) | (with_reducible refine le_put ?_ _ _) | (with_reducible refine le_drew ?_) | dsimp only | omega | ((try simp only [World.size_alloc, World.size_setCell, World.size_drew, size_put]); omega) | (simp; done))), by go_light; rw [← HV.out]; exact HV5.out⟩
/-- The authorities from by on that closed, in increasing order. -/
def offC (kind target : Int) (xs : List CV) : Nat → Int → List Int
  | 0, _ => []
  | f + 1, b => if 0 ≤ placeF ⟨kind, target, b⟩ xs 0 then b :: offC kind target xs f (b + 1) else offC kind target xs f (b + 1)
set_option maxRecDepth 100000 in
set_option maxHeartbeats 1600000 in
theorem ref52_Of (s : Sl) (xs : List CV) (kind target : Int) (w : World) (hs : Rd w CV.enc s xs) : Calls Try.prog 21 #[s.val, .int .i64 kind, .int .i64 target] w (OwnIPost (offC kind target xs 6 1) w) := by
  obtain ⟨A, n, c⟩ := s
  have Hs := Lib.hid hs
  clear hs
  simp only [Sl.val]
  generalize hV : offC kind target xs 6 1 = V
  have HV : Hid ([] ++ offC kind target xs 6 (((7 : Nat) : Int) - (6 : Nat)) = V) := hV
  clear hV
  (go_enter Try.func21, Try.ntmps21; try dsimp only [List.append])
  go_wp2_with fail
  go_loopw [7, 8] (fun u i wr => ∃ (f : Nat) (v : Sl) (ss : List Int), f ≤ 6 ∧ u = v.val ∧ Hid (i = .int .i64 (7 - (f : Int))) ∧ Hid (ss ++ offC kind target xs f (7 - (f : Int)) = V) ∧ Hid (OwnI wr w.heap.size v ss) ∧ v.n + f ≤ 6 ∧ Below w.heap.size w wr) (fun _ i _ => (7 - intOf i).toNat)
  case atStart => exact ⟨6, ⟨none, 0, 0⟩, [], Nat.le_refl _, rfl, rfl, HV, Own.nil_ _ _ _ _ _, Nat.le_refl _, by (repeat' (first | (with_reducible exact Below.refl _ _) | (with_reducible exact Nat.le_refl _) | (with_reducible assumption) | (with_reducible refine below_step ?_ ?_ hr) | (with_reducible refine below_over ?_ ?_ _) | (with_reducible refine Below.alloc ?_ ?_ _) | (with_reducible refine Below.setCell ?_ ?_ _) | (with_reducible refine below_put ?_ ?_ _) | (with_reducible refine Below.drew ?_) | (with_reducible refine below_drewN_ ?_ _) | (with_reducible refine le_drewN ?_ _) | (with_reducible refine over_le _ _ _ ?_) | (with_reducible refine le_alloc ?_ _) | (with_reducible refine le_setCell ?_ _ _) | (with_reducible refine le_put ?_ _ _) | (with_reducible refine le_drew ?_) | dsimp only | omega | ((try simp only [World.size_alloc, World.size_setCell, World.size_drew, size_put]); omega) | (simp; done)))⟩
  case round =>
    obtain ⟨f, v, ss, hf, rfl, Hi, HR, HO, hvn, hB⟩ := hrel
    have hz := hB.size
    cases f with
    | zero =>
      obtain rfl := Hi.out.trans (show Value.int .i64 (7 - ((0 : Nat) : Int)) = Value.int .i64 7 by rfl)
      have HE : Hid (ss = V) := by have h := HR.out; show ss = V; simpa [offC] using h
      clear Hi
      go_wp2_with fail
      go_ret
      exact ⟨v, rfl, by go_light; (repeat' (first | (with_reducible exact Below.refl _ _) | (with_reducible exact Nat.le_refl _) | (with_reducible assumption) | (with_reducible refine below_step ?_ ?_ hr) | (with_reducible refine below_over ?_ ?_ _) | (with_reducible refine Below.alloc ?_ ?_ _) | (with_reducible refine Below.setCell ?_ ?_ _) | (with_reducible refine below_put ?_ ?_ _) | (with_reducible refine Below.drew ?_) | (with_reducible refine below_drewN_ ?_ _) | (with_reducible refine le_drewN ?_ _) | (with_reducible refine over_le _ _ _ ?_) | (with_reducible refine le_alloc ?_ _) | (with_reducible refine le_setCell ?_ _ _) | (with_reducible refine le_put ?_ _ _) | (with_reducible refine le_drew ?_) | dsimp only | omega | ((try simp only [World.size_alloc, World.size_setCell, World.size_drew, size_put]); omega) | (simp; done))), by go_light; rw [← HE.out]; exact HO.out⟩
    | succ f =>
      obtain ⟨b, hb⟩ : ∃ b : Int, 7 - ((f + 1 : Nat) : Int) = b := ⟨_, rfl⟩
      have hb1 : b + 1 = 7 - (f : Int) := by omega
      rw [hb] at Hi HR
      obtain rfl := Hi.out
      clear Hi
      have hb6 : b ≤ 6 := by omega
      have hb0 : 1 ≤ b := by omega
      have Hb1 := Lib.hid hb1
      clear hb1 hb
      have Hc := Lib.hid (fun w' (h : Below w.heap.size w w') => ref52_Place ⟨A, n, c⟩ xs ⟨kind, target, b⟩ w' (Hs.out.toW h))
      simp only at Hc
      by_cases hp : 0 ≤ placeF ⟨kind, target, b⟩ xs 0
      · have HE : Hid (ss ++ [b] ++ offC kind target xs f (7 - (f : Int)) = V) := by
          have h := HR.out
          rw [offC, if_pos hp] at h
          rw [← Hb1.out]
          show _ = _
          rw [← h]; simp
        generalize placeF ⟨kind, target, b⟩ xs 0 = P at Hc hp
        go_wp2_with fail
        refine (Hc.out _ (by (repeat' (first | (with_reducible exact Below.refl _ _) | (with_reducible exact Nat.le_refl _) | (with_reducible assumption) | (with_reducible refine below_step ?_ ?_ hr) | (with_reducible refine below_over ?_ ?_ _) | (with_reducible refine Below.alloc ?_ ?_ _) | (with_reducible refine Below.setCell ?_ ?_ _) | (with_reducible refine below_put ?_ ?_ _) | (with_reducible refine Below.drew ?_) | (with_reducible refine below_drewN_ ?_ _) | (with_reducible refine le_drewN ?_ _) | (with_reducible refine over_le _ _ _ ?_) | (with_reducible refine le_alloc ?_ _) | (with_reducible refine le_setCell ?_ _ _) | (with_reducible refine le_put ?_ _ _) | (with_reducible refine le_drew ?_) | dsimp only | omega | ((try simp only [World.size_alloc, World.size_setCell, World.size_drew, size_put]); omega) | (simp; done))))).mono ?_
        rintro e w1 hg
        obtain ⟨rfl, hb⟩ := hg.below
        clear hg
        have hz := hb.size
        (try simp only [World.size_alloc, World.size_setCell, World.size_drew, size_put] at hz)
        have hB : Below wr.heap.size wr w1 := below_step (by (repeat' (first | (with_reducible exact Below.refl _ _) | (with_reducible exact Nat.le_refl _) | (with_reducible assumption) | (with_reducible refine below_step ?_ ?_ hr) | (with_reducible refine below_over ?_ ?_ _) | (with_reducible refine Below.alloc ?_ ?_ _) | (with_reducible refine Below.setCell ?_ ?_ _) | (with_reducible refine below_put ?_ ?_ _) | (with_reducible refine Below.drew ?_) | (with_reducible refine below_drewN_ ?_ _) | (with_reducible refine le_drewN ?_ _) | (with_reducible refine over_le _ _ _ ?_) | (with_reducible refine le_alloc ?_ _) | (with_reducible refine le_setCell ?_ _ _) | (with_reducible refine le_put ?_ _ _) | (with_reducible refine le_drew ?_) | dsimp only | omega | ((try simp only [World.size_alloc, World.size_setCell, World.size_drew, size_put]); omega) | (simp; done)))) (by (first | omega | ((try simp only [World.size_alloc, World.size_setCell, World.size_drew, size_put]); omega))) hb
        have HO := Lib.hid (HO.out.toW (below_step (by (repeat' (first | (with_reducible exact Below.refl _ _) | (with_reducible exact Nat.le_refl _) | (with_reducible assumption) | (with_reducible refine below_step ?_ ?_ hr) | (with_reducible refine below_over ?_ ?_ _) | (with_reducible refine Below.alloc ?_ ?_ _) | (with_reducible refine Below.setCell ?_ ?_ _) | (with_reducible refine below_put ?_ ?_ _) | (with_reducible refine Below.drew ?_) | (with_reducible refine below_drewN_ ?_ _) | (with_reducible refine le_drewN ?_ _) | (with_reducible refine over_le _ _ _ ?_) | (with_reducible refine le_alloc ?_ _) | (with_reducible refine le_setCell ?_ _ _) | (with_reducible refine le_put ?_ _ _) | (with_reducible refine le_drew ?_) | dsimp only | omega | ((try simp only [World.size_alloc, World.size_setCell, World.size_drew, size_put]); omega) | (simp; done)))) (by (first | omega | ((try simp only [World.size_alloc, World.size_setCell, World.size_drew, size_put]); omega))) hb))
        clear hb
        have hBw1 : Below w.heap.size w w1 := ‹Below w.heap.size w wr›.trans (hB.mono (by omega))
        go_wp2_with (first
          | (at_builtin
             obtain ⟨i0, hi, hi0, hi1, hi2⟩ := info_parts info_int
             go_must (refine wpList_append_rd rfl _ _ _ rfl w.heap.size 3 i0 _ 1 8 Try.underlying39 hi hi0 hi1 hi2 rfl (by decide) (fun _ => rfl) one_int (s := v) (y := ⟨some ⟨w1.heap.size, 0, none⟩, 1, 1⟩) (xs := ss) (ys := [b]) rfl rfl (HO.out.alloc' _) (rd_new 1 (fun _ => rfl) [_] rfl rfl rfl (by simp [maxLen])) (by simp only [maxLen]; omega) (by dsimp only; omega) (by simp; omega) ?_)
             clear hi hi0 hi1 hi2 i0
             intro v2 w2 hv hg hpos
             have Hv := Lib.hid hv
             have hvn2 : v2.n ≤ v.n + 1 := by have h1 := hv.len; have h2 := HO.out.len; simp at h1; omega
             have hB2 : Below w.heap.size w w2 := Below.grown (by (repeat' (first | (with_reducible exact Below.refl _ _) | (with_reducible exact Nat.le_refl _) | (with_reducible assumption) | (with_reducible refine below_step ?_ ?_ hr) | (with_reducible refine below_over ?_ ?_ _) | (with_reducible refine Below.alloc ?_ ?_ _) | (with_reducible refine Below.setCell ?_ ?_ _) | (with_reducible refine below_put ?_ ?_ _) | (with_reducible refine Below.drew ?_) | (with_reducible refine below_drewN_ ?_ _) | (with_reducible refine le_drewN ?_ _) | (with_reducible refine over_le _ _ _ ?_) | (with_reducible refine le_alloc ?_ _) | (with_reducible refine le_setCell ?_ _ _) | (with_reducible refine le_put ?_ _ _) | (with_reducible refine le_drew ?_) | dsimp only | omega | ((try simp only [World.size_alloc, World.size_setCell, World.size_drew, size_put]); omega) | (simp; done)))) hg (by simp; omega) (fun g hg2 => (HO.out.block g hg2).1)
             clear hv hg hpos))
        go_roundw
        case rel => exact ⟨f, v2, ss ++ [b], by omega, rfl, by show _ = _; rw [Hb1.out], HE, Hv, by omega, hB2⟩
        case measure => (simp [intOf] <;> omega)
      · have HE : Hid (ss ++ offC kind target xs f (7 - (f : Int)) = V) := by
          have h := HR.out
          rw [offC, if_neg hp] at h
          rw [← Hb1.out]
          exact h
        generalize placeF ⟨kind, target, b⟩ xs 0 = P at Hc hp
        have hp2 : decide (0 ≤ P) = false := by simpa using hp
        clear hp
        go_wp2_with fail
        refine (Hc.out _ (by (repeat' (first | (with_reducible exact Below.refl _ _) | (with_reducible exact Nat.le_refl _) | (with_reducible assumption) | (with_reducible refine below_step ?_ ?_ hr) | (with_reducible refine below_over ?_ ?_ _) | (with_reducible refine Below.alloc ?_ ?_ _) | (with_reducible refine Below.setCell ?_ ?_ _) | (with_reducible refine below_put ?_ ?_ _) | (with_reducible refine Below.drew ?_) | (with_reducible refine below_drewN_ ?_ _) | (with_reducible refine le_drewN ?_ _) | (with_reducible refine over_le _ _ _ ?_) | (with_reducible refine le_alloc ?_ _) | (with_reducible refine le_setCell ?_ _ _) | (with_reducible refine le_put ?_ _ _) | (with_reducible refine le_drew ?_) | dsimp only | omega | ((try simp only [World.size_alloc, World.size_setCell, World.size_drew, size_put]); omega) | (simp; done))))).mono ?_
        rintro e w1 hg
        obtain ⟨rfl, hb⟩ := hg.below
        clear hg
        have hz := hb.size
        (try simp only [World.size_alloc, World.size_setCell, World.size_drew, size_put] at hz)
        have hB : Below wr.heap.size wr w1 := below_step (by (repeat' (first | (with_reducible exact Below.refl _ _) | (with_reducible exact Nat.le_refl _) | (with_reducible assumption) | (with_reducible refine below_step ?_ ?_ hr) | (with_reducible refine below_over ?_ ?_ _) | (with_reducible refine Below.alloc ?_ ?_ _) | (with_reducible refine Below.setCell ?_ ?_ _) | (with_reducible refine below_put ?_ ?_ _) | (with_reducible refine Below.drew ?_) | (with_reducible refine below_drewN_ ?_ _) | (with_reducible refine le_drewN ?_ _) | (with_reducible refine over_le _ _ _ ?_) | (with_reducible refine le_alloc ?_ _) | (with_reducible refine le_setCell ?_ _ _) | (with_reducible refine le_put ?_ _ _) | (with_reducible refine le_drew ?_) | dsimp only | omega | ((try simp only [World.size_alloc, World.size_setCell, World.size_drew, size_put]); omega) | (simp; done)))) (by (first | omega | ((try simp only [World.size_alloc, World.size_setCell, World.size_drew, size_put]); omega))) hb
        have HO := Lib.hid (HO.out.toW (below_step (by (repeat' (first | (with_reducible exact Below.refl _ _) | (with_reducible exact Nat.le_refl _) | (with_reducible assumption) | (with_reducible refine below_step ?_ ?_ hr) | (with_reducible refine below_over ?_ ?_ _) | (with_reducible refine Below.alloc ?_ ?_ _) | (with_reducible refine Below.setCell ?_ ?_ _) | (with_reducible refine below_put ?_ ?_ _) | (with_reducible refine Below.drew ?_) | (with_reducible refine below_drewN_ ?_ _) | (with_reducible refine le_drewN ?_ _) | (with_reducible refine over_le _ _ _ ?_) | (with_reducible refine le_alloc ?_ _) | (with_reducible refine le_setCell ?_ _ _) | (with_reducible refine le_put ?_ _ _) | (with_reducible refine le_drew ?_) | dsimp only | omega | ((try simp only [World.size_alloc, World.size_setCell, World.size_drew, size_put]); omega) | (simp; done)))) (by (first | omega | ((try simp only [World.size_alloc, World.size_setCell, World.size_drew, size_put]); omega))) hb))
        clear hb
        have hBw1 : Below w.heap.size w w1 := ‹Below w.heap.size w wr›.trans (hB.mono (by omega))
        go_wp2_with fail
        go_roundw
        case rel => exact ⟨f, v, ss, by omega, rfl, by show _ = _; rw [Hb1.out], HE, HO, by omega, by go_light; (repeat' (first | (with_reducible exact Below.refl _ _) | (with_reducible exact Nat.le_refl _) | (with_reducible assumption) | (with_reducible refine below_step ?_ ?_ hr) | (with_reducible refine below_over ?_ ?_ _) | (with_reducible refine Below.alloc ?_ ?_ _) | (with_reducible refine Below.setCell ?_ ?_ _) | (with_reducible refine below_put ?_ ?_ _) | (with_reducible refine Below.drew ?_) | (with_reducible refine below_drewN_ ?_ _) | (with_reducible refine le_drewN ?_ _) | (with_reducible refine over_le _ _ _ ?_) | (with_reducible refine le_alloc ?_ _) | (with_reducible refine le_setCell ?_ _ _) | (with_reducible refine le_put ?_ _ _) | (with_reducible refine le_drew ?_) | dsimp only | omega | ((try simp only [World.size_alloc, World.size_setCell, World.size_drew, size_put]); omega) | (simp; done)))⟩
        case measure => (simp [intOf] <;> omega)
end Go.Proofs.Ytpckebhmdjhniaa
