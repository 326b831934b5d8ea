/- Ledger: the reference's insert and Accounts. -/
import Derived.Test.YtodbcjhghpiloaaLedAcc
import Derived.Test.YtodbcjhghpiloaaOrd
namespace Go.Proofs.Ytodbcjhghpiloaa
set_option linter.unusedSimpArgs false
set_option linter.unusedVariables false
open Go.RowKit
theorem insI_len (n : Int) : ∀ l : List Int, (insI n l).length ≤ l.length + 1
  | [] => by simp [insI]
  | x :: r => by
    have ih := insI_len n r
    unfold insI
    split
    · simp
    split
    · simp
    · simp only [List.length_cons]; omega
def InsRel (n : Int) (xs : List Int) (k : Nat) (d : Bool) (ss : List Int) : Prop := if d = true then ss ++ xs.drop k = insI n xs else ss ++ insI n (xs.drop k) = insI n xs
theorem InsRel.t {n : Int} {xs : List Int} {k : Nat} {ss : List Int} {x : Int} (h : InsRel n xs k true ss) (hx : xs.drop k = x :: xs.drop (k + 1)) : InsRel n xs (k + 1) true (ss ++ [x]) := by
  unfold InsRel at h ⊢
  rw [if_pos rfl] at h ⊢
  rw [← h, hx]; simp
theorem InsRel.lt {n : Int} {xs : List Int} {k : Nat} {ss : List Int} {x : Int} (h : InsRel n xs k false ss) (hx : xs.drop k = x :: xs.drop (k + 1)) (hn : n < x) : InsRel n xs (k + 1) true (ss ++ [n] ++ [x]) := by
  unfold InsRel at h ⊢
  rw [if_neg (by simp)] at h
  rw [if_pos rfl, ← h, hx, insI, if_pos hn]; simp
theorem InsRel.eq {n : Int} {xs : List Int} {k : Nat} {ss : List Int} {x : Int} (h : InsRel n xs k false ss) (hx : xs.drop k = x :: xs.drop (k + 1)) (hn : n = x) : InsRel n xs (k + 1) true (ss ++ [x]) := by
  unfold InsRel at h ⊢
  rw [if_neg (by simp)] at h
  rw [if_pos rfl, ← h, hx, insI, if_neg (by omega), if_pos hn]; simp
theorem InsRel.gt {n : Int} {xs : List Int} {k : Nat} {ss : List Int} {x : Int} (h : InsRel n xs k false ss) (hx : xs.drop k = x :: xs.drop (k + 1)) (hn : x < n) : InsRel n xs (k + 1) false (ss ++ [x]) := by
  unfold InsRel at h ⊢
  rw [if_neg (by simp)] at h ⊢
  rw [hx, insI, if_neg (by omega), if_neg (by omega)] at h
  rw [← h]; simp
theorem InsRel.end_t {n : Int} {xs : List Int} {k : Nat} {ss : List Int} (h : InsRel n xs k true ss) (hx : xs.drop k = []) : ss = insI n xs := by
  unfold InsRel at h
  rw [if_pos rfl, hx] at h
  rw [← h]; simp
theorem InsRel.end_f {n : Int} {xs : List Int} {k : Nat} {ss : List Int} (h : InsRel n xs k false ss) (hx : xs.drop k = []) : ss ++ [n] = insI n xs := by
  unfold InsRel at h
  rw [if_neg (by simp), hx] at h
  exact h
set_option maxRecDepth 100000 in
set_option maxHeartbeats 3200000 in
theorem ref09_insert (s : Sl) (xs : List Int) (a : Int) (w : World) (hs : Rd w encI s xs) (hn : s.n ≤ 20000) : Calls Try.prog 30 #[s.val, .int .i64 a] w (OwnIPost (insI a xs) w) := by
  obtain ⟨A, n, c⟩ := s
  dsimp only at hn
  have Hs := Lib.hid hs
  clear hs
  simp only [Sl.val]
  generalize hV : insI a xs = V
  have HV := Lib.hid hV
  clear hV
  (go_enter Try.func30, Try.ntmps30; try dsimp only [List.append])
  go_wp2_with fail
  go_loopw [5, 6, 7] (fun u dn i wr => ∃ (k : Nat) (v : Sl) (d : Bool) (ss : List Int), k ≤ n ∧ u = v.val ∧ dn = .bool d ∧ i = .int .i64 k ∧ Hid (InsRel a xs k d ss) ∧ Hid (OwnI wr w.heap.size v ss) ∧ v.n ≤ 2 * k ∧ Below w.heap.size w wr) (fun _ _ i _ => n - (intOf i).toNat)
  case atStart => exact ⟨0, ⟨none, 0, 0⟩, false, [], Nat.zero_le _, rfl, rfl, rfl, by show InsRel a xs 0 false []; unfold InsRel; simp, Own.nil_ _ _ _ _ _, Nat.zero_le _, by (repeat' (first | (with_reducible exact Below.refl _ _) | (with_reducible exact Nat.le_refl _) | (with_reducible assumption) | (with_reducible refine below_step ?_ ?_ hr) | (with_reducible refine below_over ?_ ?_ _) | (with_reducible refine Below.alloc ?_ ?_ _) | (with_reducible refine Below.setCell ?_ ?_ _) | (with_reducible refine below_put ?_ ?_ _) | (with_reducible refine Below.drew ?_) | (with_reducible refine below_drewN_ ?_ _) | (with_reducible refine le_drewN ?_ _) | (with_reducible refine over_le _ _ _ ?_) | (with_reducible refine le_alloc ?_ _) | (with_reducible refine le_setCell ?_ _ _) | (with_reducible refine le_put ?_ _ _) | (with_reducible refine le_drew ?_) | dsimp only | omega | ((try simp only [World.size_alloc, World.size_setCell, World.size_drew, size_put]); omega) | (simp; done)))⟩
  case round =>
    obtain ⟨k, v, d, ss, hk, rfl, rfl, rfl, HR, HO, hvn, hB⟩ := hrel
    have hz := hB.size
    by_cases hlt : k < n
    · obtain ⟨b, off, x, rfl, hbw, Hx, Hx0, hc0⟩ := Hs.out.int hlt
      have e0 := (hB.cell (p := ⟨b, _, none⟩) hbw).trans hc0
      cases d with
      | true =>
        have HE := Lib.hid (HR.out.t Hx.out)
        go_wp2_with (first
          | (at_builtin
             obtain ⟨i0, hi, hi0, hi1, hi2⟩ := info_parts info_int
             go_must (refine wpList_append_rd rfl _ _ _ rfl w.heap.size 3 i0 _ 1 8 Try.underlying38 hi hi0 hi1 hi2 rfl (by decide) (fun _ => rfl) one_int (s := v) (y := ⟨some ⟨wr.heap.size, 0, none⟩, 1, 1⟩) (xs := ss) (ys := [x]) rfl rfl (HO.out.alloc' _) (rd_new 1 (fun _ => rfl) [_] rfl rfl rfl (by simp [maxLen])) (by simp only [maxLen]; omega) (by dsimp only; omega) (by simp; omega) ?_)
             clear hi hi0 hi1 hi2 i0
             intro v2 w2 hv hg hpos
             have Hv := Lib.hid hv
             have hvn2 : v2.n = v.n + 1 := by have h1 := hv.len; have h2 := HO.out.len; simp at h1; omega
             have Hvn2 := Lib.hid hvn2
             have hB2 : Below w.heap.size w w2 := Below.grown (by (repeat' (first | (with_reducible exact Below.refl _ _) | (with_reducible exact Nat.le_refl _) | (with_reducible assumption) | (with_reducible refine below_step ?_ ?_ hr) | (with_reducible refine below_over ?_ ?_ _) | (with_reducible refine Below.alloc ?_ ?_ _) | (with_reducible refine Below.setCell ?_ ?_ _) | (with_reducible refine below_put ?_ ?_ _) | (with_reducible refine Below.drew ?_) | (with_reducible refine below_drewN_ ?_ _) | (with_reducible refine le_drewN ?_ _) | (with_reducible refine over_le _ _ _ ?_) | (with_reducible refine le_alloc ?_ _) | (with_reducible refine le_setCell ?_ _ _) | (with_reducible refine le_put ?_ _ _) | (with_reducible refine le_drew ?_) | dsimp only | omega | ((try simp only [World.size_alloc, World.size_setCell, World.size_drew, size_put]); omega) | (simp; done)))) hg (by simp; omega) (fun g hg2 => (HO.out.block g hg2).1)
             clear hv hg hpos hvn2))
        go_roundw
        case rel => exact ⟨k + 1, v2, true, _, by omega, rfl, rfl, by go_num, HE, Hv, by have := Hvn2.out; omega, hB2⟩
        case measure => (simp [intOf] <;> omega)
      | false =>
        rcases Int.lt_trichotomy a x with h | h | h
        · have HE := Lib.hid (HR.out.lt Hx.out h)
          have h2 : decide (a ≤ x) = true := by simp; omega
          have h3 : decide (a < x) = true := by simpa using h
          go_wp2_with (first
            | (at_builtin
               obtain ⟨i0, hi, hi0, hi1, hi2⟩ := info_parts info_int
               (refine wpList_append_rd rfl _ _ _ rfl w.heap.size 3 i0 _ 1 8 Try.underlying38 hi hi0 hi1 hi2 rfl (by decide) (fun _ => rfl) one_int (s := v) (y := ⟨some ⟨wr.heap.size, 0, none⟩, 1, 1⟩) (xs := ss) (ys := [a]) rfl rfl (HO.out.alloc' _) (rd_new 1 (fun _ => rfl) [_] rfl rfl rfl (by simp [maxLen])) (by simp only [maxLen]; omega) (by dsimp only; omega) (by simp; omega) ?_)
               clear hi hi0 hi1 hi2 i0
               intro v1 w1 hv hg hpos
               have Hv1 := Lib.hid hv
               have hvn1 : v1.n ≤ v.n + 1 := by have h1 := hv.len; have h2 := HO.out.len; simp at h1; omega
               have hB1 : Below w.heap.size w w1 := Below.grown (by (repeat' (first | (with_reducible exact Below.refl _ _) | (with_reducible exact Nat.le_refl _) | (with_reducible assumption) | (with_reducible refine below_step ?_ ?_ hr) | (with_reducible refine below_over ?_ ?_ _) | (with_reducible refine Below.alloc ?_ ?_ _) | (with_reducible refine Below.setCell ?_ ?_ _) | (with_reducible refine below_put ?_ ?_ _) | (with_reducible refine Below.drew ?_) | (with_reducible refine below_drewN_ ?_ _) | (with_reducible refine le_drewN ?_ _) | (with_reducible refine over_le _ _ _ ?_) | (with_reducible refine le_alloc ?_ _) | (with_reducible refine le_setCell ?_ _ _) | (with_reducible refine le_put ?_ _ _) | (with_reducible refine le_drew ?_) | dsimp only | omega | ((try simp only [World.size_alloc, World.size_setCell, World.size_drew, size_put]); omega) | (simp; done)))) hg (by simp; omega) (fun g hg2 => (HO.out.block g hg2).1)
               have hz1 := hB1.size
               have e1 := (hB1.cell (p := ⟨b, _, none⟩) hbw).trans hc0
               clear hv hg hpos)
            | (at_builtin
               obtain ⟨i0, hi, hi0, hi1, hi2⟩ := info_parts info_int
               go_must (refine wpList_append_rd rfl _ _ _ rfl w.heap.size 3 i0 _ 1 8 Try.underlying38 hi hi0 hi1 hi2 rfl (by decide) (fun _ => rfl) one_int (s := v1) (y := ⟨some ⟨w1.heap.size, 0, none⟩, 1, 1⟩) (xs := ss ++ [a]) (ys := [x]) rfl rfl (Hv1.out.alloc' _) (rd_new 1 (fun _ => rfl) [_] rfl rfl rfl (by simp [maxLen])) (by simp only [maxLen]; omega) (by dsimp only; omega) (by simp; omega) ?_)
               clear hi hi0 hi1 hi2 i0
               intro v2 w2 hv hg hpos
               have Hv := Lib.hid hv
               have hvn2 : v2.n ≤ v1.n + 1 := by have h1 := hv.len; have h2 := Hv1.out.len; simp at h1 h2; omega
               have hB2 : Below w.heap.size w w2 := Below.grown (by (repeat' (first | (with_reducible exact Below.refl _ _) | (with_reducible exact Nat.le_refl _) | (with_reducible assumption) | (with_reducible refine below_step ?_ ?_ hr) | (with_reducible refine below_over ?_ ?_ _) | (with_reducible refine Below.alloc ?_ ?_ _) | (with_reducible refine Below.setCell ?_ ?_ _) | (with_reducible refine below_put ?_ ?_ _) | (with_reducible refine Below.drew ?_) | (with_reducible refine below_drewN_ ?_ _) | (with_reducible refine le_drewN ?_ _) | (with_reducible refine over_le _ _ _ ?_) | (with_reducible refine le_alloc ?_ _) | (with_reducible refine le_setCell ?_ _ _) | (with_reducible refine le_put ?_ _ _) | (with_reducible refine le_drew ?_) | dsimp only | omega | ((try simp only [World.size_alloc, World.size_setCell, World.size_drew, size_put]); omega) | (simp; done)))) hg (by simp; omega) (fun g hg2 => (Hv1.out.block g hg2).1)
               clear hv hg hpos))
          go_roundw
          case rel => exact ⟨k + 1, v2, true, _, by omega, rfl, rfl, by go_num, HE, Hv, by omega, hB2⟩
          case measure => (simp [intOf] <;> omega)
        · have HE := Lib.hid (HR.out.eq Hx.out h)
          have h2 : decide (a ≤ x) = true := by simp; omega
          have h3 : decide (a < x) = false := by simp; omega
          clear h
          go_wp2_with (first
            | (at_builtin
               obtain ⟨i0, hi, hi0, hi1, hi2⟩ := info_parts info_int
               go_must (refine wpList_append_rd rfl _ _ _ rfl w.heap.size 3 i0 _ 1 8 Try.underlying38 hi hi0 hi1 hi2 rfl (by decide) (fun _ => rfl) one_int (s := v) (y := ⟨some ⟨wr.heap.size, 0, none⟩, 1, 1⟩) (xs := ss) (ys := [x]) rfl rfl (HO.out.alloc' _) (rd_new 1 (fun _ => rfl) [_] rfl rfl rfl (by simp [maxLen])) (by simp only [maxLen]; omega) (by dsimp only; omega) (by simp; omega) ?_)
               clear hi hi0 hi1 hi2 i0
               intro v2 w2 hv hg hpos
               have Hv := Lib.hid hv
               have hvn2 : v2.n ≤ v.n + 1 := by have h1 := hv.len; have h2 := HO.out.len; simp at h1; omega
               have hB2 : Below w.heap.size w w2 := Below.grown (by (repeat' (first | (with_reducible exact Below.refl _ _) | (with_reducible exact Nat.le_refl _) | (with_reducible assumption) | (with_reducible refine below_step ?_ ?_ hr) | (with_reducible refine below_over ?_ ?_ _) | (with_reducible refine Below.alloc ?_ ?_ _) | (with_reducible refine Below.setCell ?_ ?_ _) | (with_reducible refine below_put ?_ ?_ _) | (with_reducible refine Below.drew ?_) | (with_reducible refine below_drewN_ ?_ _) | (with_reducible refine le_drewN ?_ _) | (with_reducible refine over_le _ _ _ ?_) | (with_reducible refine le_alloc ?_ _) | (with_reducible refine le_setCell ?_ _ _) | (with_reducible refine le_put ?_ _ _) | (with_reducible refine le_drew ?_) | dsimp only | omega | ((try simp only [World.size_alloc, World.size_setCell, World.size_drew, size_put]); omega) | (simp; done)))) hg (by simp; omega) (fun g hg2 => (HO.out.block g hg2).1)
               clear hv hg hpos))
          go_roundw
          case rel => exact ⟨k + 1, v2, true, _, by omega, rfl, rfl, by go_num, HE, Hv, by omega, hB2⟩
          case measure => (simp [intOf] <;> omega)
        · have HE := Lib.hid (HR.out.gt Hx.out h)
          have h2 : decide (a ≤ x) = false := by simp; omega
          go_wp2_with (first
            | (at_builtin
               obtain ⟨i0, hi, hi0, hi1, hi2⟩ := info_parts info_int
               go_must (refine wpList_append_rd rfl _ _ _ rfl w.heap.size 3 i0 _ 1 8 Try.underlying38 hi hi0 hi1 hi2 rfl (by decide) (fun _ => rfl) one_int (s := v) (y := ⟨some ⟨wr.heap.size, 0, none⟩, 1, 1⟩) (xs := ss) (ys := [x]) rfl rfl (HO.out.alloc' _) (rd_new 1 (fun _ => rfl) [_] rfl rfl rfl (by simp [maxLen])) (by simp only [maxLen]; omega) (by dsimp only; omega) (by simp; omega) ?_)
               clear hi hi0 hi1 hi2 i0
               intro v2 w2 hv hg hpos
               have Hv := Lib.hid hv
               have hvn2 : v2.n ≤ v.n + 1 := by have h1 := hv.len; have h2 := HO.out.len; simp at h1; omega
               have hB2 : Below w.heap.size w w2 := Below.grown (by (repeat' (first | (with_reducible exact Below.refl _ _) | (with_reducible exact Nat.le_refl _) | (with_reducible assumption) | (with_reducible refine below_step ?_ ?_ hr) | (with_reducible refine below_over ?_ ?_ _) | (with_reducible refine Below.alloc ?_ ?_ _) | (with_reducible refine Below.setCell ?_ ?_ _) | (with_reducible refine below_put ?_ ?_ _) | (with_reducible refine Below.drew ?_) | (with_reducible refine below_drewN_ ?_ _) | (with_reducible refine le_drewN ?_ _) | (with_reducible refine over_le _ _ _ ?_) | (with_reducible refine le_alloc ?_ _) | (with_reducible refine le_setCell ?_ _ _) | (with_reducible refine le_put ?_ _ _) | (with_reducible refine le_drew ?_) | dsimp only | omega | ((try simp only [World.size_alloc, World.size_setCell, World.size_drew, size_put]); omega) | (simp; done)))) hg (by simp; omega) (fun g hg2 => (HO.out.block g hg2).1)
               clear hv hg hpos))
          go_roundw
          case rel => exact ⟨k + 1, v2, false, _, by omega, rfl, rfl, by go_num, HE, Hv, by omega, hB2⟩
          case measure => (simp [intOf] <;> omega)
    · have Hd := Lib.hid (Hs.out.done_ hlt)
      cases d with
      | true =>
        have HE := Lib.hid (HR.out.end_t Hd.out)
        go_wp2_with fail
        go_ret
        exact ⟨v, rfl, by go_light; (repeat' (first | (with_reducible exact Below.refl _ _) | (with_reducible exact Nat.le_refl _) | (with_reducible assumption) | (with_reducible refine below_step ?_ ?_ hr) | (with_reducible refine below_over ?_ ?_ _) | (with_reducible refine Below.alloc ?_ ?_ _) | (with_reducible refine Below.setCell ?_ ?_ _) | (with_reducible refine below_put ?_ ?_ _) | (with_reducible refine Below.drew ?_) | (with_reducible refine below_drewN_ ?_ _) | (with_reducible refine le_drewN ?_ _) | (with_reducible refine over_le _ _ _ ?_) | (with_reducible refine le_alloc ?_ _) | (with_reducible refine le_setCell ?_ _ _) | (with_reducible refine le_put ?_ _ _) | (with_reducible refine le_drew ?_) | dsimp only | omega | ((try simp only [World.size_alloc, World.size_setCell, World.size_drew, size_put]); omega) | (simp; done))), by go_light; rw [← HV.out, ← HE.out]; exact HO.out⟩
      | false =>
        have HE := Lib.hid (HR.out.end_f Hd.out)
        go_wp2_with (first
          | (at_builtin
             obtain ⟨i0, hi, hi0, hi1, hi2⟩ := info_parts info_int
             go_must (refine wpList_append_rd rfl _ _ _ rfl w.heap.size 3 i0 _ 1 8 Try.underlying38 hi hi0 hi1 hi2 rfl (by decide) (fun _ => rfl) one_int (s := v) (y := ⟨some ⟨wr.heap.size, 0, none⟩, 1, 1⟩) (xs := ss) (ys := [a]) rfl rfl (HO.out.alloc' _) (rd_new 1 (fun _ => rfl) [_] rfl rfl rfl (by simp [maxLen])) (by simp only [maxLen]; omega) (by dsimp only; omega) (by simp; omega) ?_)
             clear hi hi0 hi1 hi2 i0
             intro v2 w2 hv hg hpos
             have Hv := Lib.hid hv
             have hB2 : Below w.heap.size w w2 := Below.grown (by (repeat' (first | (with_reducible exact Below.refl _ _) | (with_reducible exact Nat.le_refl _) | (with_reducible assumption) | (with_reducible refine below_step ?_ ?_ hr) | (with_reducible refine below_over ?_ ?_ _) | (with_reducible refine Below.alloc ?_ ?_ _) | (with_reducible refine Below.setCell ?_ ?_ _) | (with_reducible refine below_put ?_ ?_ _) | (with_reducible refine Below.drew ?_) | (with_reducible refine below_drewN_ ?_ _) | (with_reducible refine le_drewN ?_ _) | (with_reducible refine over_le _ _ _ ?_) | (with_reducible refine le_alloc ?_ _) | (with_reducible refine le_setCell ?_ _ _) | (with_reducible refine le_put ?_ _ _) | (with_reducible refine le_drew ?_) | dsimp only | omega | ((try simp only [World.size_alloc, World.size_setCell, World.size_drew, size_put]); omega) | (simp; done)))) hg (by simp; omega) (fun g hg2 => (HO.out.block g hg2).1)
             clear hv hg hpos))
        go_ret
        exact ⟨v2, rfl, by go_light; (repeat' (first | (with_reducible exact Below.refl _ _) | (with_reducible exact Nat.le_refl _) | (with_reducible assumption) | (with_reducible refine below_step ?_ ?_ hr) | (with_reducible refine below_over ?_ ?_ _) | (with_reducible refine Below.alloc ?_ ?_ _) | (with_reducible refine Below.setCell ?_ ?_ _) | (with_reducible refine below_put ?_ ?_ _) | (with_reducible refine Below.drew ?_) | (with_reducible refine below_drewN_ ?_ _) | (with_reducible refine le_drewN ?_ _) | (with_reducible refine over_le _ _ _ ?_) | (with_reducible refine le_alloc ?_ _) | (with_reducible refine le_setCell ?_ _ _) | (with_reducible refine le_put ?_ _ _) | (with_reducible refine le_drew ?_) | dsimp only | omega | ((try simp only [World.size_alloc, World.size_setCell, World.size_drew, size_put]); omega) | (simp; done))), by go_light; rw [← HV.out, ← HE.out]; exact Hv.out⟩
set_option maxRecDepth 100000 in
set_option maxHeartbeats 3200000 in
theorem ref09_Accounts (s : Sl) (xs : List PV) (w : World) (hs : Rd w PV.enc s xs) (hn : s.n ≤ 4000) : Calls Try.prog 22 #[s.val] w (OwnIPost (accP xs) w) := by
  obtain ⟨A, n, c⟩ := s
  dsimp only at hn
  have Hs := Lib.hid hs
  clear hs
  simp only [Sl.val]
  have HA0 : Hid (accL [] (xs.drop 0) = accP xs) := rfl
  generalize accP xs = AC at *
  (go_enter Try.func22, Try.ntmps22; try dsimp only [List.append])
  go_wp2_with fail
  go_loopw [3, 4] (fun u i wr => ∃ (k : Nat) (v : Sl) (ss : List Int), k ≤ n ∧ u = v.val ∧ i = .int .i64 k ∧ Hid (accL ss (xs.drop k) = AC) ∧ Hid (OwnI wr w.heap.size v ss) ∧ v.n ≤ 2 * k ∧ Below w.heap.size w wr) (fun _ i _ => n - (intOf i).toNat)
  case atStart => exact ⟨0, ⟨none, 0, 0⟩, [], Nat.zero_le _, rfl, rfl, HA0, Own.nil_ _ _ _ _ _, Nat.zero_le _, by (repeat' (first | (with_reducible exact Below.refl _ _) | (with_reducible exact Nat.le_refl _) | (with_reducible assumption) | (with_reducible refine below_step ?_ ?_ hr) | (with_reducible refine below_over ?_ ?_ _) | (with_reducible refine Below.alloc ?_ ?_ _) | (with_reducible refine Below.setCell ?_ ?_ _) | (with_reducible refine below_put ?_ ?_ _) | (with_reducible refine Below.drew ?_) | (with_reducible refine below_drewN_ ?_ _) | (with_reducible refine le_drewN ?_ _) | (with_reducible refine over_le _ _ _ ?_) | (with_reducible refine le_alloc ?_ _) | (with_reducible refine le_setCell ?_ _ _) | (with_reducible refine le_put ?_ _ _) | (with_reducible refine le_drew ?_) | dsimp only | omega | ((try simp only [World.size_alloc, World.size_setCell, World.size_drew, size_put]); omega) | (simp; done)))⟩
  case round =>
    obtain ⟨k, v, ss, hk, rfl, rfl, HR, HO, hvn, hB⟩ := hrel
    have hz := hB.size
    by_cases hlt : k < n
    · obtain ⟨b, off, x, rfl, hbw, Hx, Hx0, hc0, hc1, hc2, hc3⟩ := Hs.out.pv hlt
      have e1 := (hB.cell (p := ⟨b, _, none⟩) hbw).trans hc1
      have e2 := (hB.cell (p := ⟨b, _, none⟩) hbw).trans hc2
      clear hc0 hc1 hc2 hc3
      have HE : Hid (accL (insI x.to_ (insI x.from_ ss)) (xs.drop (k + 1)) = AC) := by have h := HR.out; rw [Hx.out] at h; exact h
      have Hsn := Lib.hid HO.out.len
      go_wp2_with fail
      refine wp_region_ord (by kernel_rfl) (fun wx hr => ?_)
      simp only [List.length_cons, List.length_nil, Nat.reduceAdd]
      have hzx := hr.size
      refine wpAnyH_one 0 rfl rfl (by kernel_rfl) (by kernel_rfl) (fun _ _ _ _ _ h => h) (over_ex (by go_light; (repeat' (first | (with_reducible exact Below.refl _ _) | (with_reducible exact Nat.le_refl _) | (with_reducible assumption) | (with_reducible refine below_step ?_ ?_ hr) | (with_reducible refine below_over ?_ ?_ _) | (with_reducible refine Below.alloc ?_ ?_ _) | (with_reducible refine Below.setCell ?_ ?_ _) | (with_reducible refine below_put ?_ ?_ _) | (with_reducible refine Below.drew ?_) | (with_reducible refine below_drewN_ ?_ _) | (with_reducible refine le_drewN ?_ _) | (with_reducible refine over_le _ _ _ ?_) | (with_reducible refine le_alloc ?_ _) | (with_reducible refine le_setCell ?_ _ _) | (with_reducible refine le_put ?_ _ _) | (with_reducible refine le_drew ?_) | dsimp only | omega | ((try simp only [World.size_alloc, World.size_setCell, World.size_drew, size_put]); omega) | (simp; done))))) ?_
      (first | go_big_quiet_step (fail) | quiet_step (fail))
      refine wpQuiet_nil ?_
      refine wpAnyH_one 1 rfl rfl (by kernel_rfl) (by kernel_rfl) (fun _ _ _ _ _ h => h) (over_ex (by go_light; (repeat' (first | (with_reducible exact Below.refl _ _) | (with_reducible exact Nat.le_refl _) | (with_reducible assumption) | (with_reducible refine below_step ?_ ?_ hr) | (with_reducible refine below_over ?_ ?_ _) | (with_reducible refine Below.alloc ?_ ?_ _) | (with_reducible refine Below.setCell ?_ ?_ _) | (with_reducible refine below_put ?_ ?_ _) | (with_reducible refine Below.drew ?_) | (with_reducible refine below_drewN_ ?_ _) | (with_reducible refine le_drewN ?_ _) | (with_reducible refine over_le _ _ _ ?_) | (with_reducible refine le_alloc ?_ _) | (with_reducible refine le_setCell ?_ _ _) | (with_reducible refine le_put ?_ _ _) | (with_reducible refine le_drew ?_) | dsimp only | omega | ((try simp only [World.size_alloc, World.size_setCell, World.size_drew, size_put]); omega) | (simp; done))))) ?_
      (first | go_big_quiet_step (fail) | quiet_step (fail))
      refine wpQuiet_nil ?_
      refine wpAnyH_one 2 rfl rfl (by kernel_rfl) (by kernel_rfl) (fun _ _ _ _ _ h => h) (over_ex (by go_light; (repeat' (first | (with_reducible exact Below.refl _ _) | (with_reducible exact Nat.le_refl _) | (with_reducible assumption) | (with_reducible refine below_step ?_ ?_ hr) | (with_reducible refine below_over ?_ ?_ _) | (with_reducible refine Below.alloc ?_ ?_ _) | (with_reducible refine Below.setCell ?_ ?_ _) | (with_reducible refine below_put ?_ ?_ _) | (with_reducible refine Below.drew ?_) | (with_reducible refine below_drewN_ ?_ _) | (with_reducible refine le_drewN ?_ _) | (with_reducible refine over_le _ _ _ ?_) | (with_reducible refine le_alloc ?_ _) | (with_reducible refine le_setCell ?_ _ _) | (with_reducible refine le_put ?_ _ _) | (with_reducible refine le_drew ?_) | dsimp only | omega | ((try simp only [World.size_alloc, World.size_setCell, World.size_drew, size_put]); omega) | (simp; done))))) ?_
      (first | go_big_quiet_step (fail) | quiet_step (fail))
      refine wpQuiet_nil ?_
      refine wpAnyH_one 3 rfl rfl (by kernel_rfl) (by kernel_rfl) (fun _ _ _ _ _ h => h) (over_ex (by go_light; (repeat' (first | (with_reducible exact Below.refl _ _) | (with_reducible exact Nat.le_refl _) | (with_reducible assumption) | (with_reducible refine below_step ?_ ?_ hr) | (with_reducible refine below_over ?_ ?_ _) | (with_reducible refine Below.alloc ?_ ?_ _) | (with_reducible refine Below.setCell ?_ ?_ _) | (with_reducible refine below_put ?_ ?_ _) | (with_reducible refine Below.drew ?_) | (with_reducible refine below_drewN_ ?_ _) | (with_reducible refine le_drewN ?_ _) | (with_reducible refine over_le _ _ _ ?_) | (with_reducible refine le_alloc ?_ _) | (with_reducible refine le_setCell ?_ _ _) | (with_reducible refine le_put ?_ _ _) | (with_reducible refine le_drew ?_) | dsimp only | omega | ((try simp only [World.size_alloc, World.size_setCell, World.size_drew, size_put]); omega) | (simp; done))))) ?_
      (first | go_big_quiet_step (fail) | quiet_step (fail))
      refine wpQuiet_nil ?_
      refine wpAnyH_one 4 rfl rfl (by kernel_rfl) (by kernel_rfl) (fun _ _ _ _ _ h => h) (over_ex (by go_light; (repeat' (first | (with_reducible exact Below.refl _ _) | (with_reducible exact Nat.le_refl _) | (with_reducible assumption) | (with_reducible refine below_step ?_ ?_ hr) | (with_reducible refine below_over ?_ ?_ _) | (with_reducible refine Below.alloc ?_ ?_ _) | (with_reducible refine Below.setCell ?_ ?_ _) | (with_reducible refine below_put ?_ ?_ _) | (with_reducible refine Below.drew ?_) | (with_reducible refine below_drewN_ ?_ _) | (with_reducible refine le_drewN ?_ _) | (with_reducible refine over_le _ _ _ ?_) | (with_reducible refine le_alloc ?_ _) | (with_reducible refine le_setCell ?_ _ _) | (with_reducible refine le_put ?_ _ _) | (with_reducible refine le_drew ?_) | dsimp only | omega | ((try simp only [World.size_alloc, World.size_setCell, World.size_drew, size_put]); omega) | (simp; done))))) ?_
      (first | go_big_quiet_step (fail) | quiet_step (fail))
      refine wpQuiet_nil ?_
      refine wpAnyH_one 5 rfl rfl (by kernel_rfl) (by kernel_rfl) (fun _ _ _ _ _ h => h) (over_ex (by go_light; (repeat' (first | (with_reducible exact Below.refl _ _) | (with_reducible exact Nat.le_refl _) | (with_reducible assumption) | (with_reducible refine below_step ?_ ?_ hr) | (with_reducible refine below_over ?_ ?_ _) | (with_reducible refine Below.alloc ?_ ?_ _) | (with_reducible refine Below.setCell ?_ ?_ _) | (with_reducible refine below_put ?_ ?_ _) | (with_reducible refine Below.drew ?_) | (with_reducible refine below_drewN_ ?_ _) | (with_reducible refine le_drewN ?_ _) | (with_reducible refine over_le _ _ _ ?_) | (with_reducible refine le_alloc ?_ _) | (with_reducible refine le_setCell ?_ _ _) | (with_reducible refine le_put ?_ _ _) | (with_reducible refine le_drew ?_) | dsimp only | omega | ((try simp only [World.size_alloc, World.size_setCell, World.size_drew, size_put]); omega) | (simp; done))))) ?_
      (first | go_big_quiet_step (fail) | quiet_step (fail))
      refine wpQuiet_nil ?_
      refine wpAnyH_one 7 rfl rfl (by kernel_rfl) (by kernel_rfl) (fun _ _ _ _ _ h => h) (over_ex (by go_light; (repeat' (first | (with_reducible exact Below.refl _ _) | (with_reducible exact Nat.le_refl _) | (with_reducible assumption) | (with_reducible refine below_step ?_ ?_ hr) | (with_reducible refine below_over ?_ ?_ _) | (with_reducible refine Below.alloc ?_ ?_ _) | (with_reducible refine Below.setCell ?_ ?_ _) | (with_reducible refine below_put ?_ ?_ _) | (with_reducible refine Below.drew ?_) | (with_reducible refine below_drewN_ ?_ _) | (with_reducible refine le_drewN ?_ _) | (with_reducible refine over_le _ _ _ ?_) | (with_reducible refine le_alloc ?_ _) | (with_reducible refine le_setCell ?_ _ _) | (with_reducible refine le_put ?_ _ _) | (with_reducible refine le_drew ?_) | dsimp only | omega | ((try simp only [World.size_alloc, World.size_setCell, World.size_drew, size_put]); omega) | (simp; done))))) ?_
      (first | go_big_quiet_step (fail) | quiet_step (fail))
      refine wpQuiet_nil ?_
      refine wpAnyH_one 8 rfl rfl (by kernel_rfl) (by kernel_rfl) (fun _ _ _ _ _ h => h) (over_ex (by go_light; (repeat' (first | (with_reducible exact Below.refl _ _) | (with_reducible exact Nat.le_refl _) | (with_reducible assumption) | (with_reducible refine below_step ?_ ?_ hr) | (with_reducible refine below_over ?_ ?_ _) | (with_reducible refine Below.alloc ?_ ?_ _) | (with_reducible refine Below.setCell ?_ ?_ _) | (with_reducible refine below_put ?_ ?_ _) | (with_reducible refine Below.drew ?_) | (with_reducible refine below_drewN_ ?_ _) | (with_reducible refine le_drewN ?_ _) | (with_reducible refine over_le _ _ _ ?_) | (with_reducible refine le_alloc ?_ _) | (with_reducible refine le_setCell ?_ _ _) | (with_reducible refine le_put ?_ _ _) | (with_reducible refine le_drew ?_) | dsimp only | omega | ((try simp only [World.size_alloc, World.size_setCell, World.size_drew, size_put]); omega) | (simp; done))))) ?_
      (first | go_big_quiet_step (fail) | quiet_step (fail))
      refine wpQuiet_nil ?_
      refine wpAnyH_one 9 rfl rfl (by kernel_rfl) (by kernel_rfl) (fun _ _ _ _ _ h => h) (over_ex (by go_light; (repeat' (first | (with_reducible exact Below.refl _ _) | (with_reducible exact Nat.le_refl _) | (with_reducible assumption) | (with_reducible refine below_step ?_ ?_ hr) | (with_reducible refine below_over ?_ ?_ _) | (with_reducible refine Below.alloc ?_ ?_ _) | (with_reducible refine Below.setCell ?_ ?_ _) | (with_reducible refine below_put ?_ ?_ _) | (with_reducible refine Below.drew ?_) | (with_reducible refine below_drewN_ ?_ _) | (with_reducible refine le_drewN ?_ _) | (with_reducible refine over_le _ _ _ ?_) | (with_reducible refine le_alloc ?_ _) | (with_reducible refine le_setCell ?_ _ _) | (with_reducible refine le_put ?_ _ _) | (with_reducible refine le_drew ?_) | dsimp only | omega | ((try simp only [World.size_alloc, World.size_setCell, World.size_drew, size_put]); omega) | (simp; done))))) ?_
      (first | go_big_quiet_step (fail) | quiet_step (fail))
      refine wpQuiet_nil ?_
      refine wpAnyH_one 10 rfl rfl (by kernel_rfl) (by kernel_rfl) (fun _ _ _ _ _ h => h) (over_ex (by go_light; (repeat' (first | (with_reducible exact Below.refl _ _) | (with_reducible exact Nat.le_refl _) | (with_reducible assumption) | (with_reducible refine below_step ?_ ?_ hr) | (with_reducible refine below_over ?_ ?_ _) | (with_reducible refine Below.alloc ?_ ?_ _) | (with_reducible refine Below.setCell ?_ ?_ _) | (with_reducible refine below_put ?_ ?_ _) | (with_reducible refine Below.drew ?_) | (with_reducible refine below_drewN_ ?_ _) | (with_reducible refine le_drewN ?_ _) | (with_reducible refine over_le _ _ _ ?_) | (with_reducible refine le_alloc ?_ _) | (with_reducible refine le_setCell ?_ _ _) | (with_reducible refine le_put ?_ _ _) | (with_reducible refine le_drew ?_) | dsimp only | omega | ((try simp only [World.size_alloc, World.size_setCell, World.size_drew, size_put]); omega) | (simp; done))))) ?_
      (first | go_big_quiet_step (fail) | quiet_step (fail))
      refine wpQuiet_nil ?_
      refine wpAnyH_one 11 rfl rfl (by kernel_rfl) (by kernel_rfl) (fun _ _ _ _ _ h => h) (over_ex (by go_light; (repeat' (first | (with_reducible exact Below.refl _ _) | (with_reducible exact Nat.le_refl _) | (with_reducible assumption) | (with_reducible refine below_step ?_ ?_ hr) | (with_reducible refine below_over ?_ ?_ _) | (with_reducible refine Below.alloc ?_ ?_ _) | (with_reducible refine Below.setCell ?_ ?_ _) | (with_reducible refine below_put ?_ ?_ _) | (with_reducible refine Below.drew ?_) | (with_reducible refine below_drewN_ ?_ _) | (with_reducible refine le_drewN ?_ _) | (with_reducible refine over_le _ _ _ ?_) | (with_reducible refine le_alloc ?_ _) | (with_reducible refine le_setCell ?_ _ _) | (with_reducible refine le_put ?_ _ _) | (with_reducible refine le_drew ?_) | dsimp only | omega | ((try simp only [World.size_alloc, World.size_setCell, World.size_drew, size_put]); omega) | (simp; done))))) ?_
      (first | go_big_quiet_step (fail) | quiet_step (fail))
      refine wpQuiet_nil ?_
      refine wpAnyH_sole 6 rfl (by kernel_rfl) (fun K hK => ?_)
      go_simp
      (refine (ref09_insert v ss x.from_ _ ((HO.out.rd (fun _ => rfl)).toW hr) (by omega)).mono ?_; rintro e u1 ⟨v1, rfl, hb, hv1⟩; have HV1 := Lib.hid hv1; have hvn1 : v1.n ≤ v.n + 1 := (by have h1 := hv1.len; have h2 := insI_len x.from_ ss; have h3 := Hsn.out; omega); have hsu1 := hb.size; have hr := below_step hr (by omega) hb; clear hb hv1)
      refine hK _ _ (over_ex (by go_light; (repeat' (first | (with_reducible exact Below.refl _ _) | (with_reducible exact Nat.le_refl _) | (with_reducible assumption) | (with_reducible refine below_step ?_ ?_ hr) | (with_reducible refine below_over ?_ ?_ _) | (with_reducible refine Below.alloc ?_ ?_ _) | (with_reducible refine Below.setCell ?_ ?_ _) | (with_reducible refine below_put ?_ ?_ _) | (with_reducible refine Below.drew ?_) | (with_reducible refine below_drewN_ ?_ _) | (with_reducible refine le_drewN ?_ _) | (with_reducible refine over_le _ _ _ ?_) | (with_reducible refine le_alloc ?_ _) | (with_reducible refine le_setCell ?_ _ _) | (with_reducible refine le_put ?_ _ _) | (with_reducible refine le_drew ?_) | dsimp only | omega | ((try simp only [World.size_alloc, World.size_setCell, World.size_drew, size_put]); omega) | (simp; done))))) ?_
      clear hK K
      refine wpAnyH_sole 12 rfl (by kernel_rfl) (fun K hK => ?_)
      go_simp
      (refine (ref09_insert v1 _ x.to_ _ (HV1.out.rd (fun _ => rfl)) (by omega)).mono ?_; rintro e u2 ⟨v2, rfl, hb, hv2⟩; have HV2 := Lib.hid hv2; have hvn2 : v2.n ≤ v1.n + 1 := (by have h1 := hv2.len; have h2 := insI_len x.to_ (insI x.from_ ss); have h3 := HV1.out.len; omega); have hsu2 := hb.size; have hr := below_step hr (by omega) hb; clear hb hv2)
      refine hK _ _ (over_ex (by go_light; (repeat' (first | (with_reducible exact Below.refl _ _) | (with_reducible exact Nat.le_refl _) | (with_reducible assumption) | (with_reducible refine below_step ?_ ?_ hr) | (with_reducible refine below_over ?_ ?_ _) | (with_reducible refine Below.alloc ?_ ?_ _) | (with_reducible refine Below.setCell ?_ ?_ _) | (with_reducible refine below_put ?_ ?_ _) | (with_reducible refine Below.drew ?_) | (with_reducible refine below_drewN_ ?_ _) | (with_reducible refine le_drewN ?_ _) | (with_reducible refine over_le _ _ _ ?_) | (with_reducible refine le_alloc ?_ _) | (with_reducible refine le_setCell ?_ _ _) | (with_reducible refine le_put ?_ _ _) | (with_reducible refine le_drew ?_) | dsimp only | omega | ((try simp only [World.size_alloc, World.size_setCell, World.size_drew, size_put]); omega) | (simp; done))))) ?_
      clear hK K
      refine wpAnyH_one 13 rfl rfl (by kernel_rfl) (by kernel_rfl) (fun _ _ _ _ _ h => h) (over_ex (by go_light; (repeat' (first | (with_reducible exact Below.refl _ _) | (with_reducible exact Nat.le_refl _) | (with_reducible assumption) | (with_reducible refine below_step ?_ ?_ hr) | (with_reducible refine below_over ?_ ?_ _) | (with_reducible refine Below.alloc ?_ ?_ _) | (with_reducible refine Below.setCell ?_ ?_ _) | (with_reducible refine below_put ?_ ?_ _) | (with_reducible refine Below.drew ?_) | (with_reducible refine below_drewN_ ?_ _) | (with_reducible refine le_drewN ?_ _) | (with_reducible refine over_le _ _ _ ?_) | (with_reducible refine le_alloc ?_ _) | (with_reducible refine le_setCell ?_ _ _) | (with_reducible refine le_put ?_ _ _) | (with_reducible refine le_drew ?_) | dsimp only | omega | ((try simp only [World.size_alloc, World.size_setCell, World.size_drew, size_put]); omega) | (simp; done))))) ?_
      (first | go_big_quiet_step (fail) | quiet_step (fail))
      refine wpQuiet_nil ?_
      refine wpAnyH_done (by kernel_rfl) ?_ _
      have hB2 : Below w.heap.size w u2 := hB.trans (hr.mono (by omega))
      go_wp2_with fail
      go_roundw
      case rel => exact ⟨k + 1, v2, _, by omega, rfl, by go_num, HE, Lib.hid (by go_light; exact HV2.out.base (by omega)), by omega, hB2⟩
      case measure => (simp [intOf] <;> omega)
    · have HE : Hid (ss = AC) := by have h := HR.out; rw [Hs.out.done_ hlt] at h; exact h
      go_wp2_with fail
      go_ret
      exact ⟨v, rfl, by go_light; (repeat' (first | (with_reducible exact Below.refl _ _) | (with_reducible exact Nat.le_refl _) | (with_reducible assumption) | (with_reducible refine below_step ?_ ?_ hr) | (with_reducible refine below_over ?_ ?_ _) | (with_reducible refine Below.alloc ?_ ?_ _) | (with_reducible refine Below.setCell ?_ ?_ _) | (with_reducible refine below_put ?_ ?_ _) | (with_reducible refine Below.drew ?_) | (with_reducible refine below_drewN_ ?_ _) | (with_reducible refine le_drewN ?_ _) | (with_reducible refine over_le _ _ _ ?_) | (with_reducible refine le_alloc ?_ _) | (with_reducible refine le_setCell ?_ _ _) | (with_reducible refine le_put ?_ _ _) | (with_reducible refine le_drew ?_) | dsimp only | omega | ((try simp only [World.size_alloc, World.size_setCell, World.size_drew, size_put]); omega) | (simp; done))), by go_light; rw [← HE.out]; exact HO.out⟩
end Go.Proofs.Ytodbcjhghpiloaa
