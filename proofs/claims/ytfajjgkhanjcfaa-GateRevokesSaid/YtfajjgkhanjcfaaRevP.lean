/- Revisions, the reference's lists: in, put, without, with, same. -/
import Derived.Test.YtfajjgkhanjcfaaRevL
namespace Go.Proofs.Ytfajjgkhanjcfaa
set_option linter.unusedSimpArgs false
set_option linter.unusedVariables false
open Go.RowKit
set_option maxRecDepth 100000 in
set_option maxHeartbeats 1600000 in
theorem ref27_in (s : Sl) (xs : List Int) (v : Int) (w : World) (hs : Rd w encI s xs) : Calls Try.prog 56 #[s.val, .int .i64 v] w (Gives (.bool (decide (v ∈ xs))) w) := by
  obtain ⟨A, n, c⟩ := s
  have Hs := Lib.hid hs
  have hmax : n ≤ 9223372036854775807 := hs.bound
  clear hs
  generalize hV : decide (v ∈ xs) = V
  have HV := Lib.hid hV
  clear hV
  simp only [Sl.val]
  (go_enter Try.func56, Try.ntmps56; try dsimp only [List.append])
  go_wp2_with fail
  go_loopw [5] (fun i wr => ∃ k : Nat, k ≤ n ∧ i = .int .i64 k ∧ Hid (decide (v ∈ xs.drop k) = V) ∧ Below w.heap.size w wr) (fun i _ => n - (intOf i).toNat)
  case atStart => exact ⟨0, Nat.zero_le _, rfl, HV, Below.refl _ _⟩
  case round =>
    obtain ⟨k, hk, rfl, Hl, hB⟩ := hrel
    have hz := hB.size
    by_cases hlt : k < n
    · obtain ⟨b, off, x, rfl, hbw, Hx, -, hc0⟩ := Hs.out.int hlt
      have e0 := (hB.cell (p := ⟨b, _, none⟩) hbw).trans hc0
      clear hc0
      cases he : (x == v)
      · have HE : Hid (decide (v ∈ xs.drop (k + 1)) = V) := by
          show _ = _
          have h1 : ¬ v = x := fun e => by simp [e] at he
          rw [← Hl.out, Hx.out]
          simp [List.mem_cons, h1]
        go_wp2_with fail
        go_roundw
        case rel => exact ⟨k + 1, by omega, by go_num, HE, by go_light; (repeat' (first | (with_reducible exact Below.refl _ _) | (with_reducible exact Nat.le_refl _) | (with_reducible assumption) | (with_reducible refine below_step ?_ ?_ hr) | (with_reducible refine below_over ?_ ?_ _) | (with_reducible refine Below.alloc ?_ ?_ _) | (with_reducible refine Below.setCell ?_ ?_ _) | (with_reducible refine below_put ?_ ?_ _) | (with_reducible refine Below.drew ?_) | (with_reducible refine below_drewN_ ?_ _) | (with_reducible refine le_drewN ?_ _) | (with_reducible refine over_le _ _ _ ?_) | (with_reducible refine le_alloc ?_ _) | (with_reducible refine le_setCell ?_ _ _) | (with_reducible refine le_put ?_ _ _) | (with_reducible refine le_drew ?_) | dsimp only | omega | ((try simp only [World.size_alloc, World.size_setCell, World.size_drew, size_put]); omega) | (simp; done)))⟩
        case measure => (simp [intOf] <;> omega)
      · have HE : Hid (V = true) := by
          show _ = _
          have h1 : x = v := by simpa using he
          rw [← Hl.out, Hx.out]
          simp [h1]
        go_wp2_with fail
        go_ret
        exact gives_of (ret_bool HE.out.symm) (by go_light; (repeat' (first | (with_reducible exact Below.refl _ _) | (with_reducible exact Nat.le_refl _) | (with_reducible assumption) | (with_reducible refine below_step ?_ ?_ hr) | (with_reducible refine below_over ?_ ?_ _) | (with_reducible refine Below.alloc ?_ ?_ _) | (with_reducible refine Below.setCell ?_ ?_ _) | (with_reducible refine below_put ?_ ?_ _) | (with_reducible refine Below.drew ?_) | (with_reducible refine below_drewN_ ?_ _) | (with_reducible refine le_drewN ?_ _) | (with_reducible refine over_le _ _ _ ?_) | (with_reducible refine le_alloc ?_ _) | (with_reducible refine le_setCell ?_ _ _) | (with_reducible refine le_put ?_ _ _) | (with_reducible refine le_drew ?_) | dsimp only | omega | ((try simp only [World.size_alloc, World.size_setCell, World.size_drew, size_put]); omega) | (simp; done))))
    · have HE : Hid (V = false) := by
        show _ = _
        rw [← Hl.out, Hs.out.done_ hlt]
        rfl
      go_wp2_with fail
      go_ret
      exact gives_of (ret_bool HE.out.symm) (by go_light; (repeat' (first | (with_reducible exact Below.refl _ _) | (with_reducible exact Nat.le_refl _) | (with_reducible assumption) | (with_reducible refine below_step ?_ ?_ hr) | (with_reducible refine below_over ?_ ?_ _) | (with_reducible refine Below.alloc ?_ ?_ _) | (with_reducible refine Below.setCell ?_ ?_ _) | (with_reducible refine below_put ?_ ?_ _) | (with_reducible refine Below.drew ?_) | (with_reducible refine below_drewN_ ?_ _) | (with_reducible refine le_drewN ?_ _) | (with_reducible refine over_le _ _ _ ?_) | (with_reducible refine le_alloc ?_ _) | (with_reducible refine le_setCell ?_ _ _) | (with_reducible refine le_put ?_ _ _) | (with_reducible refine le_drew ?_) | dsimp only | omega | ((try simp only [World.size_alloc, World.size_setCell, World.size_drew, size_put]); omega) | (simp; done))))
theorem put_true {xs acc V : List Int} {k : Nat} {x : Int} (hx : xs.drop k = x :: xs.drop (k + 1)) (h : acc ++ xs.drop k = V) : (acc ++ [x]) ++ xs.drop (k + 1) = V := by
  rw [← h, hx, List.append_assoc]; rfl
theorem put_lt {xs acc V : List Int} {k : Nat} {x n : Int} (hx : xs.drop k = x :: xs.drop (k + 1)) (h : acc ++ putI (xs.drop k) n = V) (h1 : n ≤ x) (h2 : n < x) : ((acc ++ [n]) ++ [x]) ++ xs.drop (k + 1) = V := by
  rw [← h, hx, putI, if_pos h1, if_pos h2]; simp
theorem put_eq {xs acc V : List Int} {k : Nat} {x n : Int} (hx : xs.drop k = x :: xs.drop (k + 1)) (h : acc ++ putI (xs.drop k) n = V) (h1 : n ≤ x) (h2 : ¬ n < x) : (acc ++ [x]) ++ xs.drop (k + 1) = V := by
  rw [← h, hx, putI, if_pos h1, if_neg h2]; simp
theorem put_gt {xs acc V : List Int} {k : Nat} {x n : Int} (hx : xs.drop k = x :: xs.drop (k + 1)) (h : acc ++ putI (xs.drop k) n = V) (h1 : ¬ n ≤ x) : (acc ++ [x]) ++ putI (xs.drop (k + 1)) n = V := by
  rw [← h, hx, putI, if_neg h1]; simp
set_option maxRecDepth 100000 in
set_option maxHeartbeats 6400000 in
theorem ref27_put (s : Sl) (xs : List Int) (v : Int) (w : World) (hs : Rd w encI s xs) (hn : s.n ≤ 4000) : Calls Try.prog 83 #[s.val, .int .i64 v] w (OwnIPost (putI xs v) w) := by
  obtain ⟨A, n, c⟩ := s
  dsimp only at hn
  have Hs := Lib.hid hs
  have Hn : Hid (xs.length = n) := hs.len
  clear hs
  generalize hV : putI xs v = V
  have HV := Lib.hid hV
  clear hV
  simp only [Sl.val]
  (go_enter Try.func83, Try.ntmps83; try dsimp only [List.append])
  go_wp2_with fail
  go_loopw [5, 6, 7] (fun u d i wr => ∃ (k : Nat) (o : Sl) (acc : List Int) (dn : Bool), k ≤ n ∧ u = o.val ∧ d = .bool dn ∧ i = .int .i64 k ∧ (dn = true ∧ Hid (acc ++ xs.drop k = V) ∧ o.n ≤ k + 1 ∨ dn = false ∧ Hid (acc ++ putI (xs.drop k) v = V) ∧ o.n ≤ k) ∧ Hid (OwnI wr w.heap.size o acc) ∧ Below w.heap.size w wr) (fun _ _ i _ => n - (intOf i).toNat)
  case atStart => exact ⟨0, ⟨none, 0, 0⟩, [], false, Nat.zero_le _, rfl, rfl, rfl, .inr ⟨rfl, HV, Nat.le_refl _⟩, Own.nil_ _ _ _ _ _, Below.refl _ _⟩
  case round =>
    obtain ⟨k, o, acc, dn, hk, rfl, rfl, rfl, hd, HO, hB⟩ := hrel
    have hz := hB.size
    have hol : Hid (acc.length = o.n) := HO.out.len
    by_cases hlt : k < n
    · obtain ⟨b, off, x, rfl, hbw, Hx, -, hc0⟩ := Hs.out.int hlt
      have e0 := (hB.cell (p := ⟨b, _, none⟩) hbw).trans hc0
      rcases hd with ⟨rfl, Hl, hon⟩ | ⟨rfl, Hl, hon⟩
      · have HE := Lib.hid (put_true Hx.out Hl.out)
        go_wp2_with (at_builtin
                     obtain ⟨i0, hi, hi0, hi1, hi2⟩ := info_parts info_int
                     go_must (refine wpList_append_rd rfl _ _ _ rfl w.heap.size 3 i0 _ 1 8 Try.underlying23 hi hi0 hi1 hi2 rfl (by decide) (fun _ => rfl) one_int (s := o) (y := ⟨some ⟨wr.heap.size, 0, none⟩, 1, 1⟩) (xs := acc) (ys := [x]) rfl rfl (HO.out.alloc' _) (rd_new 1 (fun _ => rfl) [_] rfl rfl rfl (by simp [maxLen])) (by simp only [maxLen]; omega) (by dsimp only; omega) (by simp; omega) ?_)
                     clear hi hi0 hi1 hi2 i0
                     intro o2 w4 hv hg hpos
                     have HO4 := Lib.hid hv
                     have hB4 : Below w.heap.size w w4 := Below.grown (by (repeat' (first | (with_reducible exact Below.refl _ _) | (with_reducible exact Nat.le_refl _) | (with_reducible assumption) | (with_reducible refine below_step ?_ ?_ hr) | (with_reducible refine below_over ?_ ?_ _) | (with_reducible refine Below.alloc ?_ ?_ _) | (with_reducible refine Below.setCell ?_ ?_ _) | (with_reducible refine below_put ?_ ?_ _) | (with_reducible refine Below.drew ?_) | (with_reducible refine below_drewN_ ?_ _) | (with_reducible refine le_drewN ?_ _) | (with_reducible refine over_le _ _ _ ?_) | (with_reducible refine le_alloc ?_ _) | (with_reducible refine le_setCell ?_ _ _) | (with_reducible refine le_put ?_ _ _) | (with_reducible refine le_drew ?_) | dsimp only | omega | ((try simp only [World.size_alloc, World.size_setCell, World.size_drew, size_put]); omega) | (simp; done)))) hg (by simp; omega) (fun g hg2 => by have := (HO.out.block g hg2).1; omega)
                     clear hv hg hpos)
        go_roundw
        case rel => exact ⟨k + 1, o2, _, true, by omega, rfl, rfl, by go_num, .inl ⟨rfl, HE, by have h1 := HO4.out.len; have := hol.out; simp at h1; omega⟩, HO4, hB4⟩
        case measure => (simp [intOf] <;> omega)
      · cases h1 : decide (v ≤ x)
        · have HE := Lib.hid (put_gt Hx.out Hl.out (by simpa using h1))
          go_wp2_with (at_builtin
                       obtain ⟨i0, hi, hi0, hi1, hi2⟩ := info_parts info_int
                       go_must (refine wpList_append_rd rfl _ _ _ rfl w.heap.size 3 i0 _ 1 8 Try.underlying23 hi hi0 hi1 hi2 rfl (by decide) (fun _ => rfl) one_int (s := o) (y := ⟨some ⟨wr.heap.size, 0, none⟩, 1, 1⟩) (xs := acc) (ys := [x]) rfl rfl (HO.out.alloc' _) (rd_new 1 (fun _ => rfl) [_] rfl rfl rfl (by simp [maxLen])) (by simp only [maxLen]; omega) (by dsimp only; omega) (by simp; omega) ?_)
                       clear hi hi0 hi1 hi2 i0
                       intro o2 w4 hv hg hpos
                       have HO4 := Lib.hid hv
                       have hB4 : Below w.heap.size w w4 := Below.grown (by (repeat' (first | (with_reducible exact Below.refl _ _) | (with_reducible exact Nat.le_refl _) | (with_reducible assumption) | (with_reducible refine below_step ?_ ?_ hr) | (with_reducible refine below_over ?_ ?_ _) | (with_reducible refine Below.alloc ?_ ?_ _) | (with_reducible refine Below.setCell ?_ ?_ _) | (with_reducible refine below_put ?_ ?_ _) | (with_reducible refine Below.drew ?_) | (with_reducible refine below_drewN_ ?_ _) | (with_reducible refine le_drewN ?_ _) | (with_reducible refine over_le _ _ _ ?_) | (with_reducible refine le_alloc ?_ _) | (with_reducible refine le_setCell ?_ _ _) | (with_reducible refine le_put ?_ _ _) | (with_reducible refine le_drew ?_) | dsimp only | omega | ((try simp only [World.size_alloc, World.size_setCell, World.size_drew, size_put]); omega) | (simp; done)))) hg (by simp; omega) (fun g hg2 => by have := (HO.out.block g hg2).1; omega)
                       clear hv hg hpos)
          go_roundw
          case rel => exact ⟨k + 1, o2, _, false, by omega, rfl, rfl, by go_num, .inr ⟨rfl, HE, by have h1 := HO4.out.len; have := hol.out; simp at h1; omega⟩, HO4, hB4⟩
          case measure => (simp [intOf] <;> omega)
        · cases h2 : decide (v < x)
          · have HE := Lib.hid (put_eq Hx.out Hl.out (by simpa using h1) (by simpa using h2))
            go_wp2_with (at_builtin
                         obtain ⟨i0, hi, hi0, hi1, hi2⟩ := info_parts info_int
                         go_must (refine wpList_append_rd rfl _ _ _ rfl w.heap.size 3 i0 _ 1 8 Try.underlying23 hi hi0 hi1 hi2 rfl (by decide) (fun _ => rfl) one_int (s := o) (y := ⟨some ⟨wr.heap.size, 0, none⟩, 1, 1⟩) (xs := acc) (ys := [x]) rfl rfl (HO.out.alloc' _) (rd_new 1 (fun _ => rfl) [_] rfl rfl rfl (by simp [maxLen])) (by simp only [maxLen]; omega) (by dsimp only; omega) (by simp; omega) ?_)
                         clear hi hi0 hi1 hi2 i0
                         intro o2 w4 hv hg hpos
                         have HO4 := Lib.hid hv
                         have hB4 : Below w.heap.size w w4 := Below.grown (by (repeat' (first | (with_reducible exact Below.refl _ _) | (with_reducible exact Nat.le_refl _) | (with_reducible assumption) | (with_reducible refine below_step ?_ ?_ hr) | (with_reducible refine below_over ?_ ?_ _) | (with_reducible refine Below.alloc ?_ ?_ _) | (with_reducible refine Below.setCell ?_ ?_ _) | (with_reducible refine below_put ?_ ?_ _) | (with_reducible refine Below.drew ?_) | (with_reducible refine below_drewN_ ?_ _) | (with_reducible refine le_drewN ?_ _) | (with_reducible refine over_le _ _ _ ?_) | (with_reducible refine le_alloc ?_ _) | (with_reducible refine le_setCell ?_ _ _) | (with_reducible refine le_put ?_ _ _) | (with_reducible refine le_drew ?_) | dsimp only | omega | ((try simp only [World.size_alloc, World.size_setCell, World.size_drew, size_put]); omega) | (simp; done)))) hg (by simp; omega) (fun g hg2 => by have := (HO.out.block g hg2).1; omega)
                         clear hv hg hpos)
            go_roundw
            case rel => exact ⟨k + 1, o2, _, true, by omega, rfl, rfl, by go_num, .inl ⟨rfl, HE, by have h1 := HO4.out.len; have := hol.out; simp at h1; omega⟩, HO4, hB4⟩
            case measure => (simp [intOf] <;> omega)
          · have HE := Lib.hid (put_lt Hx.out Hl.out (by simpa using h1) (by simpa using h2))
            go_upto_region 10 with (at_builtin
                                    obtain ⟨i0, hi, hi0, hi1, hi2⟩ := info_parts info_int
                                    go_must (refine wpList_append_rd rfl _ _ _ rfl w.heap.size 3 i0 _ 1 8 Try.underlying23 hi hi0 hi1 hi2 rfl (by decide) (fun _ => rfl) one_int (s := o) (y := ⟨some ⟨wr.heap.size, 0, none⟩, 1, 1⟩) (xs := acc) (ys := [v]) rfl rfl (HO.out.alloc' _) (rd_new 1 (fun _ => rfl) [_] rfl rfl rfl (by simp [maxLen])) (by simp only [maxLen]; omega) (by dsimp only; omega) (by simp; omega) ?_)
                                    clear hi hi0 hi1 hi2 i0
                                    intro o2 w4 hv hg hpos
                                    have HO4 := Lib.hid hv
                                    have hB4 : Below w.heap.size w w4 := Below.grown (by (repeat' (first | (with_reducible exact Below.refl _ _) | (with_reducible exact Nat.le_refl _) | (with_reducible assumption) | (with_reducible refine below_step ?_ ?_ hr) | (with_reducible refine below_over ?_ ?_ _) | (with_reducible refine Below.alloc ?_ ?_ _) | (with_reducible refine Below.setCell ?_ ?_ _) | (with_reducible refine below_put ?_ ?_ _) | (with_reducible refine Below.drew ?_) | (with_reducible refine below_drewN_ ?_ _) | (with_reducible refine le_drewN ?_ _) | (with_reducible refine over_le _ _ _ ?_) | (with_reducible refine le_alloc ?_ _) | (with_reducible refine le_setCell ?_ _ _) | (with_reducible refine le_put ?_ _ _) | (with_reducible refine le_drew ?_) | dsimp only | omega | ((try simp only [World.size_alloc, World.size_setCell, World.size_drew, size_put]); omega) | (simp; done)))) hg (by simp; omega) (fun g hg2 => by have := (HO.out.block g hg2).1; omega)
                                    clear hv hg hpos)
            have hz4 := hB4.size
            have e4 := (hB4.cell (p := ⟨b, _, none⟩) hbw).trans hc0
            have hol4 : Hid ((acc ++ [v]).length = o2.n) := HO4.out.len
            have hon2 : o2.n ≤ k + 1 := by have h1 := hol4.out; have := hol.out; simp at h1; omega
            clear e0
            go_wp2_with (at_builtin
                         obtain ⟨i0, hi, hi0, hi1, hi2⟩ := info_parts info_int
                         go_must (refine wpList_append_rd rfl _ _ _ rfl w.heap.size 3 i0 _ 1 8 Try.underlying23 hi hi0 hi1 hi2 rfl (by decide) (fun _ => rfl) one_int (s := o2) (y := ⟨some ⟨w4.heap.size, 0, none⟩, 1, 1⟩) (xs := (acc ++ [v])) (ys := [x]) rfl rfl (HO4.out.alloc' _) (rd_new 1 (fun _ => rfl) [_] rfl rfl rfl (by simp [maxLen])) (by simp only [maxLen]; omega) (by dsimp only; omega) (by simp; omega) ?_)
                         clear hi hi0 hi1 hi2 i0
                         intro o3 w5 hv hg hpos
                         have HO5 := Lib.hid hv
                         have hB5 : Below w.heap.size w w5 := Below.grown (by (repeat' (first | (with_reducible exact Below.refl _ _) | (with_reducible exact Nat.le_refl _) | (with_reducible assumption) | (with_reducible refine below_step ?_ ?_ hr) | (with_reducible refine below_over ?_ ?_ _) | (with_reducible refine Below.alloc ?_ ?_ _) | (with_reducible refine Below.setCell ?_ ?_ _) | (with_reducible refine below_put ?_ ?_ _) | (with_reducible refine Below.drew ?_) | (with_reducible refine below_drewN_ ?_ _) | (with_reducible refine le_drewN ?_ _) | (with_reducible refine over_le _ _ _ ?_) | (with_reducible refine le_alloc ?_ _) | (with_reducible refine le_setCell ?_ _ _) | (with_reducible refine le_put ?_ _ _) | (with_reducible refine le_drew ?_) | dsimp only | omega | ((try simp only [World.size_alloc, World.size_setCell, World.size_drew, size_put]); omega) | (simp; done)))) hg (by simp; omega) (fun g hg2 => by have := (HO4.out.block g hg2).1; omega)
                         clear hv hg hpos)
            go_roundw
            case rel => exact ⟨k + 1, o3, _, true, by omega, rfl, rfl, by go_num, .inl ⟨rfl, HE, by have h1 := HO5.out.len; have := hol.out; simp at h1; omega⟩, HO5, hB5⟩
            case measure => (simp [intOf] <;> omega)
    · rcases hd with ⟨rfl, Hl, hon⟩ | ⟨rfl, Hl, hon⟩
      · have HE : Hid (acc = V) := by show _ = _; rw [← Hl.out, Hs.out.done_ hlt, List.append_nil]
        go_wp2_with fail
        go_ret
        exact ⟨o, rfl, by go_light; (repeat' (first | (with_reducible exact Below.refl _ _) | (with_reducible exact Nat.le_refl _) | (with_reducible assumption) | (with_reducible refine below_step ?_ ?_ hr) | (with_reducible refine below_over ?_ ?_ _) | (with_reducible refine Below.alloc ?_ ?_ _) | (with_reducible refine Below.setCell ?_ ?_ _) | (with_reducible refine below_put ?_ ?_ _) | (with_reducible refine Below.drew ?_) | (with_reducible refine below_drewN_ ?_ _) | (with_reducible refine le_drewN ?_ _) | (with_reducible refine over_le _ _ _ ?_) | (with_reducible refine le_alloc ?_ _) | (with_reducible refine le_setCell ?_ _ _) | (with_reducible refine le_put ?_ _ _) | (with_reducible refine le_drew ?_) | dsimp only | omega | ((try simp only [World.size_alloc, World.size_setCell, World.size_drew, size_put]); omega) | (simp; done))), by rw [← HE.out]; exact HO.out⟩
      · have HE : Hid (acc ++ [v] = V) := by show _ = _; rw [← Hl.out, Hs.out.done_ hlt]; rfl
        go_wp2_with (at_builtin
                     obtain ⟨i0, hi, hi0, hi1, hi2⟩ := info_parts info_int
                     go_must (refine wpList_append_rd rfl _ _ _ rfl w.heap.size 3 i0 _ 1 8 Try.underlying23 hi hi0 hi1 hi2 rfl (by decide) (fun _ => rfl) one_int (s := o) (y := ⟨some ⟨wr.heap.size, 0, none⟩, 1, 1⟩) (xs := acc) (ys := [v]) rfl rfl (HO.out.alloc' _) (rd_new 1 (fun _ => rfl) [_] rfl rfl rfl (by simp [maxLen])) (by simp only [maxLen]; omega) (by dsimp only; omega) (by simp; omega) ?_)
                     clear hi hi0 hi1 hi2 i0
                     intro o2 w4 hv hg hpos
                     have HO4 := Lib.hid hv
                     have hB4 : Below w.heap.size w w4 := Below.grown (by (repeat' (first | (with_reducible exact Below.refl _ _) | (with_reducible exact Nat.le_refl _) | (with_reducible assumption) | (with_reducible refine below_step ?_ ?_ hr) | (with_reducible refine below_over ?_ ?_ _) | (with_reducible refine Below.alloc ?_ ?_ _) | (with_reducible refine Below.setCell ?_ ?_ _) | (with_reducible refine below_put ?_ ?_ _) | (with_reducible refine Below.drew ?_) | (with_reducible refine below_drewN_ ?_ _) | (with_reducible refine le_drewN ?_ _) | (with_reducible refine over_le _ _ _ ?_) | (with_reducible refine le_alloc ?_ _) | (with_reducible refine le_setCell ?_ _ _) | (with_reducible refine le_put ?_ _ _) | (with_reducible refine le_drew ?_) | dsimp only | omega | ((try simp only [World.size_alloc, World.size_setCell, World.size_drew, size_put]); omega) | (simp; done)))) hg (by simp; omega) (fun g hg2 => by have := (HO.out.block g hg2).1; omega)
                     clear hv hg hpos)
        go_ret
        exact ⟨o2, rfl, by go_light; (repeat' (first | (with_reducible exact Below.refl _ _) | (with_reducible exact Nat.le_refl _) | (with_reducible assumption) | (with_reducible refine below_step ?_ ?_ hr) | (with_reducible refine below_over ?_ ?_ _) | (with_reducible refine Below.alloc ?_ ?_ _) | (with_reducible refine Below.setCell ?_ ?_ _) | (with_reducible refine below_put ?_ ?_ _) | (with_reducible refine Below.drew ?_) | (with_reducible refine below_drewN_ ?_ _) | (with_reducible refine le_drewN ?_ _) | (with_reducible refine over_le _ _ _ ?_) | (with_reducible refine le_alloc ?_ _) | (with_reducible refine le_setCell ?_ _ _) | (with_reducible refine le_put ?_ _ _) | (with_reducible refine le_drew ?_) | dsimp only | omega | ((try simp only [World.size_alloc, World.size_setCell, World.size_drew, size_put]); omega) | (simp; done))), by rw [← HE.out]; exact HO4.out⟩
set_option maxRecDepth 100000 in
set_option maxHeartbeats 3200000 in
theorem ref27_without (s t : Sl) (xs ys : List Int) (w : World) (hs : Rd w encI s xs) (ht : Rd w encI t ys) (hn : s.n ≤ 3000) : Calls Try.prog 65 #[s.val, t.val] w (OwnIPost (woF xs ys) w) := by
  obtain ⟨A, n, c⟩ := s
  obtain ⟨A2, m, d⟩ := t
  dsimp only at hn
  have Hs := Lib.hid hs
  have Ht := Lib.hid ht
  have Hn : Hid (xs.length = n) := hs.len
  clear hs ht
  generalize hV : woF xs ys = V
  have HV := Lib.hid hV
  clear hV
  simp only [Sl.val]
  (go_enter Try.func65, Try.ntmps65; try dsimp only [List.append])
  go_wp2_with fail
  go_loopw [5, 6] (fun u i wr => ∃ (k : Nat) (o : Sl), k ≤ n ∧ u = o.val ∧ i = .int .i64 k ∧ Hid (OwnI wr w.heap.size o (setI (minusL (xs.take k) ys))) ∧ Below w.heap.size w wr) (fun _ i _ => n - (intOf i).toNat)
  case atStart => exact ⟨0, ⟨none, 0, 0⟩, Nat.zero_le _, rfl, rfl, Own.nil_ _ _ _ _ _, Below.refl _ _⟩
  case round =>
    obtain ⟨k, o, hk, rfl, rfl, HO, hBr⟩ := hrel
    have hzr := hBr.size
    have hon : o.n ≤ k := by have h1 := HO.out.len; have h2 := setI_len (minusL (xs.take k) ys); have h3 := minus_len (xs.take k) ys; have h4 := List.length_take_le k xs; omega
    by_cases hlt : k < n
    · obtain ⟨b, off, x, rfl, hbw, Hx, Hx0, hc0⟩ := Hs.out.int hlt
      have e0 := (hBr.cell (p := ⟨b, _, none⟩) hbw).trans hc0
      cases hd : decide (x ∈ ys)
      · have HE : Hid (setI (minusL (xs.take (k + 1)) ys) = putI (setI (minusL (xs.take k) ys)) x) := by show _ = _; rw [minus_hit Hx0.out hd, setI_snoc]
        go_upto_region 6 with (go_at_call 56; refine (hd ▸ ref27_in ⟨A2, m, d⟩ ys x _ (Ht.out.toW (by (repeat' (first | (with_reducible exact Below.refl _ _) | (with_reducible exact Nat.le_refl _) | (with_reducible assumption) | (with_reducible refine below_step ?_ ?_ hr) | (with_reducible refine below_over ?_ ?_ _) | (with_reducible refine Below.alloc ?_ ?_ _) | (with_reducible refine Below.setCell ?_ ?_ _) | (with_reducible refine below_put ?_ ?_ _) | (with_reducible refine Below.drew ?_) | (with_reducible refine below_drewN_ ?_ _) | (with_reducible refine le_drewN ?_ _) | (with_reducible refine over_le _ _ _ ?_) | (with_reducible refine le_alloc ?_ _) | (with_reducible refine le_setCell ?_ _ _) | (with_reducible refine le_put ?_ _ _) | (with_reducible refine le_drew ?_) | dsimp only | omega | ((try simp only [World.size_alloc, World.size_setCell, World.size_drew, size_put]); omega) | (simp; done)))))).mono ?_; rintro e w2 hg; obtain ⟨rfl, hb⟩ := hg.below; clear hg; have hz := hb.size; (try simp only [World.size_alloc, World.size_setCell, World.size_drew, size_put] at hz); have hB : Below wr.heap.size wr w2 := below_step (by (repeat' (first | (with_reducible exact Below.refl _ _) | (with_reducible exact Nat.le_refl _) | (with_reducible assumption) | (with_reducible refine below_step ?_ ?_ hr) | (with_reducible refine below_over ?_ ?_ _) | (with_reducible refine Below.alloc ?_ ?_ _) | (with_reducible refine Below.setCell ?_ ?_ _) | (with_reducible refine below_put ?_ ?_ _) | (with_reducible refine Below.drew ?_) | (with_reducible refine below_drewN_ ?_ _) | (with_reducible refine le_drewN ?_ _) | (with_reducible refine over_le _ _ _ ?_) | (with_reducible refine le_alloc ?_ _) | (with_reducible refine le_setCell ?_ _ _) | (with_reducible refine le_put ?_ _ _) | (with_reducible refine le_drew ?_) | dsimp only | omega | ((try simp only [World.size_alloc, World.size_setCell, World.size_drew, size_put]); omega) | (simp; done)))) (by (first | omega | ((try simp only [World.size_alloc, World.size_setCell, World.size_drew, size_put]); omega))) hb; have HO := Lib.hid (HO.out.toW (below_step (by (repeat' (first | (with_reducible exact Below.refl _ _) | (with_reducible exact Nat.le_refl _) | (with_reducible assumption) | (with_reducible refine below_step ?_ ?_ hr) | (with_reducible refine below_over ?_ ?_ _) | (with_reducible refine Below.alloc ?_ ?_ _) | (with_reducible refine Below.setCell ?_ ?_ _) | (with_reducible refine below_put ?_ ?_ _) | (with_reducible refine Below.drew ?_) | (with_reducible refine below_drewN_ ?_ _) | (with_reducible refine le_drewN ?_ _) | (with_reducible refine over_le _ _ _ ?_) | (with_reducible refine le_alloc ?_ _) | (with_reducible refine le_setCell ?_ _ _) | (with_reducible refine le_put ?_ _ _) | (with_reducible refine le_drew ?_) | dsimp only | omega | ((try simp only [World.size_alloc, World.size_setCell, World.size_drew, size_put]); omega) | (simp; done)))) (by (first | omega | ((try simp only [World.size_alloc, World.size_setCell, World.size_drew, size_put]); omega))) hb)); clear hb)
        have hB2 : Below w.heap.size w w2 := hBr.trans (hB.mono hzr)
        have hz2 := hB2.size
        have e2 := (hB2.cell (p := ⟨b, _, none⟩) hbw).trans hc0
        clear e0
        go_wp2_with (go_at_call 83; refine (ref27_put o _ x _ (HO.out.rd (fun _ => rfl)) (by omega)).mono ?_; rintro e w4 ⟨o2, rfl, hb4, ho4⟩; have HO4 := Lib.hid (ho4.base hz2); have hB4 : Below w.heap.size w w4 := hB2.trans (hb4.mono hz2); clear ho4 hb4)
        go_roundw
        case rel => exact ⟨k + 1, o2, by omega, rfl, by go_num, Lib.hid (by rw [HE.out]; exact HO4.out), hB4⟩
        case measure => (simp [intOf] <;> omega)
      · have HE : Hid (setI (minusL (xs.take (k + 1)) ys) = setI (minusL (xs.take k) ys)) := by show _ = _; rw [minus_not Hx0.out hd]
        go_wp2_with (go_at_call 56; refine (hd ▸ ref27_in ⟨A2, m, d⟩ ys x _ (Ht.out.toW (by (repeat' (first | (with_reducible exact Below.refl _ _) | (with_reducible exact Nat.le_refl _) | (with_reducible assumption) | (with_reducible refine below_step ?_ ?_ hr) | (with_reducible refine below_over ?_ ?_ _) | (with_reducible refine Below.alloc ?_ ?_ _) | (with_reducible refine Below.setCell ?_ ?_ _) | (with_reducible refine below_put ?_ ?_ _) | (with_reducible refine Below.drew ?_) | (with_reducible refine below_drewN_ ?_ _) | (with_reducible refine le_drewN ?_ _) | (with_reducible refine over_le _ _ _ ?_) | (with_reducible refine le_alloc ?_ _) | (with_reducible refine le_setCell ?_ _ _) | (with_reducible refine le_put ?_ _ _) | (with_reducible refine le_drew ?_) | dsimp only | omega | ((try simp only [World.size_alloc, World.size_setCell, World.size_drew, size_put]); omega) | (simp; done)))))).mono ?_; rintro e w2 hg; obtain ⟨rfl, hb⟩ := hg.below; clear hg; have hz := hb.size; (try simp only [World.size_alloc, World.size_setCell, World.size_drew, size_put] at hz); have hB : Below wr.heap.size wr w2 := below_step (by (repeat' (first | (with_reducible exact Below.refl _ _) | (with_reducible exact Nat.le_refl _) | (with_reducible assumption) | (with_reducible refine below_step ?_ ?_ hr) | (with_reducible refine below_over ?_ ?_ _) | (with_reducible refine Below.alloc ?_ ?_ _) | (with_reducible refine Below.setCell ?_ ?_ _) | (with_reducible refine below_put ?_ ?_ _) | (with_reducible refine Below.drew ?_) | (with_reducible refine below_drewN_ ?_ _) | (with_reducible refine le_drewN ?_ _) | (with_reducible refine over_le _ _ _ ?_) | (with_reducible refine le_alloc ?_ _) | (with_reducible refine le_setCell ?_ _ _) | (with_reducible refine le_put ?_ _ _) | (with_reducible refine le_drew ?_) | dsimp only | omega | ((try simp only [World.size_alloc, World.size_setCell, World.size_drew, size_put]); omega) | (simp; done)))) (by (first | omega | ((try simp only [World.size_alloc, World.size_setCell, World.size_drew, size_put]); omega))) hb; have HO := Lib.hid (HO.out.toW (below_step (by (repeat' (first | (with_reducible exact Below.refl _ _) | (with_reducible exact Nat.le_refl _) | (with_reducible assumption) | (with_reducible refine below_step ?_ ?_ hr) | (with_reducible refine below_over ?_ ?_ _) | (with_reducible refine Below.alloc ?_ ?_ _) | (with_reducible refine Below.setCell ?_ ?_ _) | (with_reducible refine below_put ?_ ?_ _) | (with_reducible refine Below.drew ?_) | (with_reducible refine below_drewN_ ?_ _) | (with_reducible refine le_drewN ?_ _) | (with_reducible refine over_le _ _ _ ?_) | (with_reducible refine le_alloc ?_ _) | (with_reducible refine le_setCell ?_ _ _) | (with_reducible refine le_put ?_ _ _) | (with_reducible refine le_drew ?_) | dsimp only | omega | ((try simp only [World.size_alloc, World.size_setCell, World.size_drew, size_put]); omega) | (simp; done)))) (by (first | omega | ((try simp only [World.size_alloc, World.size_setCell, World.size_drew, size_put]); omega))) hb)); clear hb)
        have hB2 : Below w.heap.size w w2 := hBr.trans (hB.mono hzr)
        go_roundw
        case rel => exact ⟨k + 1, o, by omega, rfl, by go_num, Lib.hid (by rw [HE.out]; exact HO.out), hB2⟩
        case measure => (simp [intOf] <;> omega)
    · have HE : Hid (setI (minusL (xs.take k) ys) = V) := by show _ = _; rw [← HV.out, List.take_of_length_le (by rw [Hn.out]; omega)]; rfl
      go_wp2_with fail
      go_ret
      exact ⟨o, rfl, by go_light; (repeat' (first | (with_reducible exact Below.refl _ _) | (with_reducible exact Nat.le_refl _) | (with_reducible assumption) | (with_reducible refine below_step ?_ ?_ hr) | (with_reducible refine below_over ?_ ?_ _) | (with_reducible refine Below.alloc ?_ ?_ _) | (with_reducible refine Below.setCell ?_ ?_ _) | (with_reducible refine below_put ?_ ?_ _) | (with_reducible refine Below.drew ?_) | (with_reducible refine below_drewN_ ?_ _) | (with_reducible refine le_drewN ?_ _) | (with_reducible refine over_le _ _ _ ?_) | (with_reducible refine le_alloc ?_ _) | (with_reducible refine le_setCell ?_ _ _) | (with_reducible refine le_put ?_ _ _) | (with_reducible refine le_drew ?_) | dsimp only | omega | ((try simp only [World.size_alloc, World.size_setCell, World.size_drew, size_put]); omega) | (simp; done))), by rw [← HE.out]; exact HO.out⟩
theorem setI_take {xs : List Int} {k : Nat} {x : Int} (hx : xs[k]? = some x) : setI (xs.take (k + 1)) = putI (setI (xs.take k)) x := by
  rw [List.take_add_one, hx]; exact setI_snoc _ _
theorem setI_take2 {xs ys : List Int} {k : Nat} {x : Int} (hx : ys[k]? = some x) : setI (xs ++ ys.take (k + 1)) = putI (setI (xs ++ ys.take k)) x := by
  rw [List.take_add_one, hx, ← List.append_assoc]; exact setI_snoc _ _
set_option maxRecDepth 100000 in
set_option maxHeartbeats 3200000 in
theorem ref27_with (s t : Sl) (xs ys : List Int) (w : World) (hs : Rd w encI s xs) (ht : Rd w encI t ys) (hn : s.n ≤ 1500) (hm : t.n ≤ 1500) : Calls Try.prog 66 #[s.val, t.val] w (OwnIPost (wiF xs ys) w) := by
  obtain ⟨A, n, c⟩ := s
  obtain ⟨A2, m, d⟩ := t
  dsimp only at hn hm
  have Hs := Lib.hid hs
  have Ht := Lib.hid ht
  have Hn : Hid (xs.length = n) := hs.len
  have Hm : Hid (ys.length = m) := ht.len
  clear hs ht
  generalize hV : wiF xs ys = V
  have HV := Lib.hid hV
  clear hV
  simp only [Sl.val]
  (go_enter Try.func66, Try.ntmps66; try dsimp only [List.append])
  go_wp2_with fail
  go_loopw [5, 6] (fun u i wr => ∃ (k : Nat) (o : Sl), k ≤ n ∧ u = o.val ∧ i = .int .i64 k ∧ Hid (OwnI wr w.heap.size o (setI (xs.take k))) ∧ Below w.heap.size w wr) (fun _ i _ => n - (intOf i).toNat)
  case atStart => exact ⟨0, ⟨none, 0, 0⟩, Nat.zero_le _, rfl, rfl, Own.nil_ _ _ _ _ _, Below.refl _ _⟩
  case round =>
    obtain ⟨k, o, hk, rfl, rfl, HO, hB⟩ := hrel
    have hz := hB.size
    have hon : o.n ≤ k := by have h1 := HO.out.len; have h2 := setI_len (xs.take k); have h4 := List.length_take_le k xs; omega
    by_cases hlt : k < n
    · obtain ⟨b, off, x, rfl, hbw, Hx, Hx0, hc0⟩ := Hs.out.int hlt
      have e0 := (hB.cell (p := ⟨b, _, none⟩) hbw).trans hc0
      have HE := Lib.hid (setI_take Hx0.out)
      go_wp2_with (go_at_call 83; refine (ref27_put o _ x _ (HO.out.rd (fun _ => rfl)) (by omega)).mono ?_; rintro e w4 ⟨o2, rfl, hb4, ho4⟩; have HO4 := Lib.hid (ho4.base hz); have hB4 : Below w.heap.size w w4 := hB.trans (hb4.mono hz); clear ho4 hb4)
      go_roundw
      case rel => exact ⟨k + 1, o2, by omega, rfl, by go_num, Lib.hid (by rw [HE.out]; exact HO4.out), hB4⟩
      case measure => (simp [intOf] <;> omega)
    · have HE : Hid (setI (xs.take k) = setI (xs ++ ys.take 0)) := by show _ = _; rw [List.take_of_length_le (by rw [Hn.out]; omega)]; simp
      rw [HE.out] at HO
      clear HE
      go_wp2_with fail
      go_loopw [5, 7] (fun u i wr => ∃ (k : Nat) (o : Sl), k ≤ m ∧ u = o.val ∧ i = .int .i64 k ∧ Hid (OwnI wr w.heap.size o (setI (xs ++ ys.take k))) ∧ Below w.heap.size w wr) (fun _ i _ => m - (intOf i).toNat)
      case atStart => exact ⟨0, o, Nat.zero_le _, rfl, rfl, HO, hB⟩
      case round =>
        clear HO hB hz hon hlt hk
        obtain ⟨k, o, hk, rfl, rfl, HO, hB⟩ := hrel
        have hz := hB.size
        have hon : o.n ≤ n + k := by have h1 := HO.out.len; have h2 := setI_len (xs ++ ys.take k); have h4 := List.length_take_le k ys; have h5 := Hn.out; rw [List.length_append] at h2; omega
        by_cases hlt : k < m
        · obtain ⟨b, off, x, rfl, hbw, Hx, Hx0, hc0⟩ := Ht.out.int hlt
          have e0 := (hB.cell (p := ⟨b, _, none⟩) hbw).trans hc0
          have HE := Lib.hid (setI_take2 (xs := xs) Hx0.out)
          go_wp2_with (go_at_call 83; refine (ref27_put o _ x _ (HO.out.rd (fun _ => rfl)) (by omega)).mono ?_; rintro e w4 ⟨o2, rfl, hb4, ho4⟩; have HO4 := Lib.hid (ho4.base hz); have hB4 : Below w.heap.size w w4 := hB.trans (hb4.mono hz); clear ho4 hb4)
          go_roundw
          case rel => exact ⟨k + 1, o2, by omega, rfl, by go_num, Lib.hid (by rw [HE.out]; exact HO4.out), hB4⟩
          case measure => (simp [intOf] <;> omega)
        · have HE : Hid (setI (xs ++ ys.take k) = V) := by show _ = _; rw [← HV.out, List.take_of_length_le (by rw [Hm.out]; omega)]; rfl
          go_wp2_with fail
          go_ret
          exact ⟨o, rfl, by go_light; (repeat' (first | (with_reducible exact Below.refl _ _) | (with_reducible exact Nat.le_refl _) | (with_reducible assumption) | (with_reducible refine below_step ?_ ?_ hr) | (with_reducible refine below_over ?_ ?_ _) | (with_reducible refine Below.alloc ?_ ?_ _) | (with_reducible refine Below.setCell ?_ ?_ _) | (with_reducible refine below_put ?_ ?_ _) | (with_reducible refine Below.drew ?_) | (with_reducible refine below_drewN_ ?_ _) | (with_reducible refine le_drewN ?_ _) | (with_reducible refine over_le _ _ _ ?_) | (with_reducible refine le_alloc ?_ _) | (with_reducible refine le_setCell ?_ _ _) | (with_reducible refine le_put ?_ _ _) | (with_reducible refine le_drew ?_) | dsimp only | omega | ((try simp only [World.size_alloc, World.size_setCell, World.size_drew, size_put]); omega) | (simp; done))), by rw [← HE.out]; exact HO.out⟩
end Go.Proofs.Ytfajjgkhanjcfaa
