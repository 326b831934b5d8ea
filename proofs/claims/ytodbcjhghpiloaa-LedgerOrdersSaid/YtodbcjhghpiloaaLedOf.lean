/- Ledger: lists of postings of the call's own: Of, of the program and of the reference; slices.Clone. -/
import Derived.Test.YtodbcjhghpiloaaLedEq
import Derived.Test.YtodbcjhghpiloaaApp
namespace Go.Proofs.Ytodbcjhghpiloaa
set_option linter.unusedSimpArgs false
set_option linter.unusedVariables false
open Go.RowKit
theorem info_posting : (Try.prog.info? 28).map (fun i => (i.zero, i.size, i.bytes)) = some (some (.agg #[.int .i64 0, .int .i64 0, .int .i64 0, .int .i64 0]), 4, 32) := by kernel_rfl
theorem info_int : (Try.prog.info? 3).map (fun i => (i.zero, i.size, i.bytes)) = some (some (.int .i64 0), 1, 8) := by kernel_rfl
theorem one_pv (h : PV) : ∀ u ∈ h.enc, u.oneCell' = true := by intro u hu; simp [PV.enc] at hu; rcases hu with rfl | rfl | rfl | rfl <;> rfl
theorem one_int (h : Int) : ∀ u ∈ encI h, u.oneCell' = true := by intro u hu; simp [encI] at hu; subst hu; rfl
theorem below_grown {w w' : World} (h : w.grownBy w' none) : Below w.heap.size w w' := ⟨h.os, h.tape, h.output, h.size, fun k hk => h.block k hk (by simp)⟩
theorem Own.alloc' {α : Type} {enc : α → List Value} {w : World} {base : Nat} {e : TypeId} {size : Nat} {s : Sl} {xs : List α} (h : Own w base e size enc s xs) (o : Obj) : Own (w.alloc o) base e size enc s xs :=
  h.same (fun g hg => by rw [alloc_block_if, if_neg (by have := (h.block g hg).2; omega)])
theorem Own.toW {α : Type} {enc : α → List Value} {w w' : World} {base : Nat} {e : TypeId} {size : Nat} {s : Sl} {xs : List α} (h : Own w base e size enc s xs) (hb : Below w.heap.size w w') : Own w' base e size enc s xs :=
  h.same (fun g hg => hb.block g (h.block g hg).2)
theorem Own.base {α : Type} {enc : α → List Value} {w : World} {base b' : Nat} {e : TypeId} {size : Nat} {s : Sl} {xs : List α} (h : Own w base e size enc s xs) (hb : b' ≤ base) : Own w b' e size enc s xs := by
  refine ⟨h.len, h.row.1, ?_⟩
  rcases h.row.2 with h2 | ⟨g, cap, cur, hv, h3, h4⟩
  · exact .inl h2
  · exact .inr ⟨g, cap, cur, hv, Nat.le_trans hb h3, h4⟩
abbrev OwnI (w : World) (base : Nat) (s : Sl) (xs : List Int) : Prop := Own w base 3 1 encI s xs
abbrev OwnP (w : World) (base : Nat) (s : Sl) (xs : List PV) : Prop := Own w base 28 4 PV.enc s xs
theorem own_empty {α : Type} {enc : α → List Value} (w : World) (e : TypeId) (size : Nat) : Own (w.alloc (.cells #[] e)) w.heap.size e size enc ⟨some ⟨w.heap.size, 0, none⟩, 0, 0⟩ ([] : List α) :=
  ⟨rfl, by simp, .inr ⟨w.heap.size, 0, #[], rfl, Nat.le_refl _, by rw [alloc_block_if, if_pos rfl], Nat.le_refl _, Nat.zero_le _, by simp, by simp⟩⟩
/-- The call hands back a list of its own. -/
def OwnPost (xs : List PV) (w : World) (e : Ending) (w' : World) : Prop := ∃ v : Sl, e = .returned v.val ∧ Below w.heap.size w w' ∧ OwnP w' w.heap.size v xs
def OwnIPost (xs : List Int) (w : World) (e : Ending) (w' : World) : Prop := ∃ v : Sl, e = .returned v.val ∧ Below w.heap.size w w' ∧ OwnI w' w.heap.size v xs
def ofP (a : Int) (xs : List PV) : List PV := xs.filter (fun p => p.from_ == a || p.to_ == a)
theorem ofP_hit {a : Int} {xs : List PV} {k : Nat} {x : PV} (hx : xs[k]? = some x) (h : x.from_ = a ∨ x.to_ = a) : ofP a (xs.take (k + 1)) = ofP a (xs.take k) ++ [x] := by
  rw [List.take_add_one, hx, ofP, List.filter_append]
  have h2 : (x.from_ == a || x.to_ == a) = true := by simpa using h
  simp [ofP, h2]
theorem ofP_not {a : Int} {xs : List PV} {k : Nat} {x : PV} (hx : xs[k]? = some x) (h1 : ¬ x.from_ = a) (h2 : ¬ x.to_ = a) : ofP a (xs.take (k + 1)) = ofP a (xs.take k) := by
  rw [List.take_add_one, hx, ofP, List.filter_append]
  simp [ofP, h1, h2]
theorem ofP_len (a : Int) (xs : List PV) : (ofP a xs).length ≤ xs.length := List.length_filter_le _ _
set_option maxRecDepth 100000 in
set_option maxHeartbeats 1600000 in
theorem ledger_Of (s : Sl) (xs : List PV) (a : Int) (w : World) (hs : Rd w PV.enc s xs) (hn : s.n ≤ 4000) : Calls Try.prog 23 #[s.val, .int .i64 a] w (OwnPost (ofP a xs) w) := by
  obtain ⟨A, n, c⟩ := s
  dsimp only at hn
  have Hs := Lib.hid hs
  have Hn : Hid (xs.length = n) := hs.len
  clear hs
  simp only [Sl.val]
  (go_enter Try.func23, Try.ntmps23; try dsimp only [List.append])
  go_wp2_with fail
  go_loopw [5, 10] (fun u i wr => ∃ (k : Nat) (v : Sl), k ≤ n ∧ u = v.val ∧ i = .int .i64 k ∧ Hid (OwnP wr w.heap.size v (ofP a (xs.take k))) ∧ Below w.heap.size w wr) (fun _ i _ => n - (intOf i).toNat)
  case atStart => exact ⟨0, ⟨none, 0, 0⟩, Nat.zero_le _, rfl, rfl, Own.nil_ _ _ _ _ _, by (repeat' (first | (with_reducible exact Below.refl _ _) | (with_reducible exact Nat.le_refl _) | (with_reducible assumption) | (with_reducible refine below_step ?_ ?_ hr) | (with_reducible refine below_over ?_ ?_ _) | (with_reducible refine Below.alloc ?_ ?_ _) | (with_reducible refine Below.setCell ?_ ?_ _) | (with_reducible refine below_put ?_ ?_ _) | (with_reducible refine Below.drew ?_) | (with_reducible refine below_drewN_ ?_ _) | (with_reducible refine le_drewN ?_ _) | (with_reducible refine over_le _ _ _ ?_) | (with_reducible refine le_alloc ?_ _) | (with_reducible refine le_setCell ?_ _ _) | (with_reducible refine le_put ?_ _ _) | (with_reducible refine le_drew ?_) | dsimp only | omega | ((try simp only [World.size_alloc, World.size_setCell, World.size_drew, size_put]); omega) | (simp; done)))⟩
  case round =>
    obtain ⟨k, v, hk, rfl, rfl, HO, hB⟩ := hrel
    have hz := hB.size
    have hvn : v.n ≤ k := by have h1 := HO.out.len; have h2 := ofP_len a (xs.take k); have h3 := List.length_take_le k xs; omega
    by_cases hlt : k < n
    · obtain ⟨b, off, x, rfl, hbw, -, Hx0, hc0, hc1, hc2, hc3⟩ := Hs.out.pv hlt
      have e0 := (hB.cell (p := ⟨b, _, none⟩) hbw).trans hc0
      have e1 := (hB.cell (p := ⟨b, _, none⟩) hbw).trans hc1
      have e2 := (hB.cell (p := ⟨b, _, none⟩) hbw).trans hc2
      have e3 := (hB.cell (p := ⟨b, _, none⟩) hbw).trans hc3
      clear hc0 hc1 hc2 hc3
      by_cases h1 : x.from_ = a
      · have hb1 : (x.from_ == a) = true := by simpa using h1
        have HE := Lib.hid (ofP_hit Hx0.out (Or.inl h1))
        clear h1
        go_wp2_with (first
          | (at_builtin
             obtain ⟨i0, hi, hi0, hi1, hi2⟩ := info_parts info_posting
             go_must (refine wpList_append_rd rfl _ _ _ rfl w.heap.size 28 i0 _ 4 32 Try.underlying22 hi hi0 hi1 hi2 rfl (by decide) (fun _ => rfl) one_pv (s := v) (y := ⟨some ⟨wr.heap.size + 1, 0, none⟩, 1, 1⟩) (xs := ofP a (xs.take k)) (ys := [x]) rfl rfl ((HO.out.alloc' _).alloc' _) (rd_new 4 (fun _ => rfl) [_] (by simp) rfl rfl (by simp [maxLen])) (by simp only [maxLen]; omega) (by dsimp only; omega) (by simp; omega) ?_)
             clear hi hi0 hi1 hi2 i0
             intro v2 w2 hv hg hpos
             rw [← HE.out] at hv
             have Hv := Lib.hid hv
             have hB2 : Below w.heap.size w w2 := Below.grown (by (repeat' (first | (with_reducible exact Below.refl _ _) | (with_reducible exact Nat.le_refl _) | (with_reducible assumption) | (with_reducible refine below_step ?_ ?_ hr) | (with_reducible refine below_over ?_ ?_ _) | (with_reducible refine Below.alloc ?_ ?_ _) | (with_reducible refine Below.setCell ?_ ?_ _) | (with_reducible refine below_put ?_ ?_ _) | (with_reducible refine Below.drew ?_) | (with_reducible refine below_drewN_ ?_ _) | (with_reducible refine le_drewN ?_ _) | (with_reducible refine over_le _ _ _ ?_) | (with_reducible refine le_alloc ?_ _) | (with_reducible refine le_setCell ?_ _ _) | (with_reducible refine le_put ?_ _ _) | (with_reducible refine le_drew ?_) | dsimp only | omega | ((try simp only [World.size_alloc, World.size_setCell, World.size_drew, size_put]); omega) | (simp; done)))) hg (by simp; omega) (fun g hg2 => (HO.out.block g hg2).1)
             clear hv hg hpos))
        go_roundw
        case rel => exact ⟨k + 1, v2, by omega, rfl, by go_num, Hv, hB2⟩
        case measure => (simp [intOf] <;> omega)
      · have hb1 : (x.from_ == a) = false := by simpa using h1
        by_cases h2 : x.to_ = a
        · have hb2 : (x.to_ == a) = true := by simpa using h2
          have HE := Lib.hid (ofP_hit Hx0.out (Or.inr h2))
          clear h1 h2
          go_wp2_with (first
            | (at_builtin
               obtain ⟨i0, hi, hi0, hi1, hi2⟩ := info_parts info_posting
               go_must (refine wpList_append_rd rfl _ _ _ rfl w.heap.size 28 i0 _ 4 32 Try.underlying22 hi hi0 hi1 hi2 rfl (by decide) (fun _ => rfl) one_pv (s := v) (y := ⟨some ⟨wr.heap.size + 1, 0, none⟩, 1, 1⟩) (xs := ofP a (xs.take k)) (ys := [x]) rfl rfl ((HO.out.alloc' _).alloc' _) (rd_new 4 (fun _ => rfl) [_] (by simp) rfl rfl (by simp [maxLen])) (by simp only [maxLen]; omega) (by dsimp only; omega) (by simp; omega) ?_)
               clear hi hi0 hi1 hi2 i0
               intro v2 w2 hv hg hpos
               rw [← HE.out] at hv
               have Hv := Lib.hid hv
               have hB2 : Below w.heap.size w w2 := Below.grown (by (repeat' (first | (with_reducible exact Below.refl _ _) | (with_reducible exact Nat.le_refl _) | (with_reducible assumption) | (with_reducible refine below_step ?_ ?_ hr) | (with_reducible refine below_over ?_ ?_ _) | (with_reducible refine Below.alloc ?_ ?_ _) | (with_reducible refine Below.setCell ?_ ?_ _) | (with_reducible refine below_put ?_ ?_ _) | (with_reducible refine Below.drew ?_) | (with_reducible refine below_drewN_ ?_ _) | (with_reducible refine le_drewN ?_ _) | (with_reducible refine over_le _ _ _ ?_) | (with_reducible refine le_alloc ?_ _) | (with_reducible refine le_setCell ?_ _ _) | (with_reducible refine le_put ?_ _ _) | (with_reducible refine le_drew ?_) | dsimp only | omega | ((try simp only [World.size_alloc, World.size_setCell, World.size_drew, size_put]); omega) | (simp; done)))) hg (by simp; omega) (fun g hg2 => (HO.out.block g hg2).1)
               clear hv hg hpos))
          go_roundw
          case rel => exact ⟨k + 1, v2, by omega, rfl, by go_num, Hv, hB2⟩
          case measure => (simp [intOf] <;> omega)
        · have hb2 : (x.to_ == a) = false := by simpa using h2
          have HE := Lib.hid (ofP_not Hx0.out h1 h2)
          clear h1 h2
          go_wp2_with fail
          go_roundw
          case rel => exact ⟨k + 1, v, by omega, rfl, by go_num, Lib.hid (by go_light; rw [HE.out]; exact HO.out.alloc' _), by go_light; (repeat' (first | (with_reducible exact Below.refl _ _) | (with_reducible exact Nat.le_refl _) | (with_reducible assumption) | (with_reducible refine below_step ?_ ?_ hr) | (with_reducible refine below_over ?_ ?_ _) | (with_reducible refine Below.alloc ?_ ?_ _) | (with_reducible refine Below.setCell ?_ ?_ _) | (with_reducible refine below_put ?_ ?_ _) | (with_reducible refine Below.drew ?_) | (with_reducible refine below_drewN_ ?_ _) | (with_reducible refine le_drewN ?_ _) | (with_reducible refine over_le _ _ _ ?_) | (with_reducible refine le_alloc ?_ _) | (with_reducible refine le_setCell ?_ _ _) | (with_reducible refine le_put ?_ _ _) | (with_reducible refine le_drew ?_) | dsimp only | omega | ((try simp only [World.size_alloc, World.size_setCell, World.size_drew, size_put]); omega) | (simp; done)))⟩
          case measure => (simp [intOf] <;> omega)
    · have HE : Hid (xs.take k = xs) := List.take_of_length_le (by rw [Hn.out]; omega)
      rw [HE.out] at HO
      go_wp2_with fail
      go_ret
      exact ⟨v, rfl, by go_light; (repeat' (first | (with_reducible exact Below.refl _ _) | (with_reducible exact Nat.le_refl _) | (with_reducible assumption) | (with_reducible refine below_step ?_ ?_ hr) | (with_reducible refine below_over ?_ ?_ _) | (with_reducible refine Below.alloc ?_ ?_ _) | (with_reducible refine Below.setCell ?_ ?_ _) | (with_reducible refine below_put ?_ ?_ _) | (with_reducible refine Below.drew ?_) | (with_reducible refine below_drewN_ ?_ _) | (with_reducible refine le_drewN ?_ _) | (with_reducible refine over_le _ _ _ ?_) | (with_reducible refine le_alloc ?_ _) | (with_reducible refine le_setCell ?_ _ _) | (with_reducible refine le_put ?_ _ _) | (with_reducible refine le_drew ?_) | dsimp only | omega | ((try simp only [World.size_alloc, World.size_setCell, World.size_drew, size_put]); omega) | (simp; done))), by go_light; exact HO.out⟩
set_option maxRecDepth 100000 in
set_option maxHeartbeats 1600000 in
theorem ref09_Of (s : Sl) (xs : List PV) (a : Int) (w : World) (hs : Rd w PV.enc s xs) (hn : s.n ≤ 4000) : Calls Try.prog 24 #[s.val, .int .i64 a] w (OwnPost (ofP a xs) w) := by
  obtain ⟨A, n, c⟩ := s
  dsimp only at hn
  have Hs := Lib.hid hs
  have Hn : Hid (xs.length = n) := hs.len
  clear hs
  simp only [Sl.val]
  (go_enter Try.func24, Try.ntmps24; try dsimp only [List.append])
  go_wp2_with fail
  go_loopw [5, 6] (fun u i wr => ∃ (k : Nat) (v : Sl), k ≤ n ∧ u = v.val ∧ i = .int .i64 k ∧ Hid (OwnP wr w.heap.size v (ofP a (xs.take k))) ∧ Below w.heap.size w wr) (fun _ i _ => n - (intOf i).toNat)
  case atStart => exact ⟨0, ⟨none, 0, 0⟩, Nat.zero_le _, rfl, rfl, Own.nil_ _ _ _ _ _, by (repeat' (first | (with_reducible exact Below.refl _ _) | (with_reducible exact Nat.le_refl _) | (with_reducible assumption) | (with_reducible refine below_step ?_ ?_ hr) | (with_reducible refine below_over ?_ ?_ _) | (with_reducible refine Below.alloc ?_ ?_ _) | (with_reducible refine Below.setCell ?_ ?_ _) | (with_reducible refine below_put ?_ ?_ _) | (with_reducible refine Below.drew ?_) | (with_reducible refine below_drewN_ ?_ _) | (with_reducible refine le_drewN ?_ _) | (with_reducible refine over_le _ _ _ ?_) | (with_reducible refine le_alloc ?_ _) | (with_reducible refine le_setCell ?_ _ _) | (with_reducible refine le_put ?_ _ _) | (with_reducible refine le_drew ?_) | dsimp only | omega | ((try simp only [World.size_alloc, World.size_setCell, World.size_drew, size_put]); omega) | (simp; done)))⟩
  case round =>
    obtain ⟨k, v, hk, rfl, rfl, HO, hB⟩ := hrel
    have hz := hB.size
    have hvn : v.n ≤ k := by have h1 := HO.out.len; have h2 := ofP_len a (xs.take k); have h3 := List.length_take_le k xs; omega
    by_cases hlt : k < n
    · obtain ⟨b, off, x, rfl, hbw, -, Hx0, hc0, hc1, hc2, hc3⟩ := Hs.out.pv hlt
      have e0 := (hB.cell (p := ⟨b, _, none⟩) hbw).trans hc0
      have e1 := (hB.cell (p := ⟨b, _, none⟩) hbw).trans hc1
      have e2 := (hB.cell (p := ⟨b, _, none⟩) hbw).trans hc2
      have e3 := (hB.cell (p := ⟨b, _, none⟩) hbw).trans hc3
      clear hc0 hc1 hc2 hc3
      by_cases h1 : x.from_ = a
      · have hb1 : (x.from_ == a) = true := by simpa using h1
        have HE := Lib.hid (ofP_hit Hx0.out (Or.inl h1))
        clear h1
        go_wp2_with (first
          | (at_builtin
             obtain ⟨i0, hi, hi0, hi1, hi2⟩ := info_parts info_posting
             go_must (refine wpList_append_rd rfl _ _ _ rfl w.heap.size 28 i0 _ 4 32 Try.underlying22 hi hi0 hi1 hi2 rfl (by decide) (fun _ => rfl) one_pv (s := v) (y := ⟨some ⟨wr.heap.size, 0, none⟩, 1, 1⟩) (xs := ofP a (xs.take k)) (ys := [x]) rfl rfl (HO.out.alloc' _) (rd_new 4 (fun _ => rfl) [_] rfl rfl rfl (by simp [maxLen])) (by simp only [maxLen]; omega) (by dsimp only; omega) (by simp; omega) ?_)
             clear hi hi0 hi1 hi2 i0
             intro v2 w2 hv hg hpos
             rw [← HE.out] at hv
             have Hv := Lib.hid hv
             have hB2 : Below w.heap.size w w2 := Below.grown (by (repeat' (first | (with_reducible exact Below.refl _ _) | (with_reducible exact Nat.le_refl _) | (with_reducible assumption) | (with_reducible refine below_step ?_ ?_ hr) | (with_reducible refine below_over ?_ ?_ _) | (with_reducible refine Below.alloc ?_ ?_ _) | (with_reducible refine Below.setCell ?_ ?_ _) | (with_reducible refine below_put ?_ ?_ _) | (with_reducible refine Below.drew ?_) | (with_reducible refine below_drewN_ ?_ _) | (with_reducible refine le_drewN ?_ _) | (with_reducible refine over_le _ _ _ ?_) | (with_reducible refine le_alloc ?_ _) | (with_reducible refine le_setCell ?_ _ _) | (with_reducible refine le_put ?_ _ _) | (with_reducible refine le_drew ?_) | dsimp only | omega | ((try simp only [World.size_alloc, World.size_setCell, World.size_drew, size_put]); omega) | (simp; done)))) hg (by simp; omega) (fun g hg2 => (HO.out.block g hg2).1)
             clear hv hg hpos))
        go_roundw
        case rel => exact ⟨k + 1, v2, by omega, rfl, by go_num, Hv, hB2⟩
        case measure => (simp [intOf] <;> omega)
      · have hb1 : (x.from_ == a) = false := by simpa using h1
        by_cases h2 : x.to_ = a
        · have hb2 : (x.to_ == a) = true := by simpa using h2
          have HE := Lib.hid (ofP_hit Hx0.out (Or.inr h2))
          clear h1 h2
          go_wp2_with (first
            | (at_builtin
               obtain ⟨i0, hi, hi0, hi1, hi2⟩ := info_parts info_posting
               go_must (refine wpList_append_rd rfl _ _ _ rfl w.heap.size 28 i0 _ 4 32 Try.underlying22 hi hi0 hi1 hi2 rfl (by decide) (fun _ => rfl) one_pv (s := v) (y := ⟨some ⟨wr.heap.size, 0, none⟩, 1, 1⟩) (xs := ofP a (xs.take k)) (ys := [x]) rfl rfl (HO.out.alloc' _) (rd_new 4 (fun _ => rfl) [_] rfl rfl rfl (by simp [maxLen])) (by simp only [maxLen]; omega) (by dsimp only; omega) (by simp; omega) ?_)
               clear hi hi0 hi1 hi2 i0
               intro v2 w2 hv hg hpos
               rw [← HE.out] at hv
               have Hv := Lib.hid hv
               have hB2 : Below w.heap.size w w2 := Below.grown (by (repeat' (first | (with_reducible exact Below.refl _ _) | (with_reducible exact Nat.le_refl _) | (with_reducible assumption) | (with_reducible refine below_step ?_ ?_ hr) | (with_reducible refine below_over ?_ ?_ _) | (with_reducible refine Below.alloc ?_ ?_ _) | (with_reducible refine Below.setCell ?_ ?_ _) | (with_reducible refine below_put ?_ ?_ _) | (with_reducible refine Below.drew ?_) | (with_reducible refine below_drewN_ ?_ _) | (with_reducible refine le_drewN ?_ _) | (with_reducible refine over_le _ _ _ ?_) | (with_reducible refine le_alloc ?_ _) | (with_reducible refine le_setCell ?_ _ _) | (with_reducible refine le_put ?_ _ _) | (with_reducible refine le_drew ?_) | dsimp only | omega | ((try simp only [World.size_alloc, World.size_setCell, World.size_drew, size_put]); omega) | (simp; done)))) hg (by simp; omega) (fun g hg2 => (HO.out.block g hg2).1)
               clear hv hg hpos))
          go_roundw
          case rel => exact ⟨k + 1, v2, by omega, rfl, by go_num, Hv, hB2⟩
          case measure => (simp [intOf] <;> omega)
        · have hb2 : (x.to_ == a) = false := by simpa using h2
          have HE := Lib.hid (ofP_not Hx0.out h1 h2)
          clear h1 h2
          go_wp2_with fail
          go_roundw
          case rel => exact ⟨k + 1, v, by omega, rfl, by go_num, Lib.hid (by go_light; rw [HE.out]; exact HO.out), by go_light; (repeat' (first | (with_reducible exact Below.refl _ _) | (with_reducible exact Nat.le_refl _) | (with_reducible assumption) | (with_reducible refine below_step ?_ ?_ hr) | (with_reducible refine below_over ?_ ?_ _) | (with_reducible refine Below.alloc ?_ ?_ _) | (with_reducible refine Below.setCell ?_ ?_ _) | (with_reducible refine below_put ?_ ?_ _) | (with_reducible refine Below.drew ?_) | (with_reducible refine below_drewN_ ?_ _) | (with_reducible refine le_drewN ?_ _) | (with_reducible refine over_le _ _ _ ?_) | (with_reducible refine le_alloc ?_ _) | (with_reducible refine le_setCell ?_ _ _) | (with_reducible refine le_put ?_ _ _) | (with_reducible refine le_drew ?_) | dsimp only | omega | ((try simp only [World.size_alloc, World.size_setCell, World.size_drew, size_put]); omega) | (simp; done)))⟩
          case measure => (simp [intOf] <;> omega)
    · have HE : Hid (xs.take k = xs) := List.take_of_length_le (by rw [Hn.out]; omega)
      rw [HE.out] at HO
      go_wp2_with fail
      go_ret
      exact ⟨v, rfl, by go_light; (repeat' (first | (with_reducible exact Below.refl _ _) | (with_reducible exact Nat.le_refl _) | (with_reducible assumption) | (with_reducible refine below_step ?_ ?_ hr) | (with_reducible refine below_over ?_ ?_ _) | (with_reducible refine Below.alloc ?_ ?_ _) | (with_reducible refine Below.setCell ?_ ?_ _) | (with_reducible refine below_put ?_ ?_ _) | (with_reducible refine Below.drew ?_) | (with_reducible refine below_drewN_ ?_ _) | (with_reducible refine le_drewN ?_ _) | (with_reducible refine over_le _ _ _ ?_) | (with_reducible refine le_alloc ?_ _) | (with_reducible refine le_setCell ?_ _ _) | (with_reducible refine le_put ?_ _ _) | (with_reducible refine le_drew ?_) | dsimp only | omega | ((try simp only [World.size_alloc, World.size_setCell, World.size_drew, size_put]); omega) | (simp; done))), by go_light; exact HO.out⟩
set_option maxRecDepth 100000 in
set_option maxHeartbeats 1600000 in
theorem clone_postings (s : Sl) (xs : List PV) (w : World) (hr : Rd w PV.enc s xs) (hn : s.n ≤ 4000) : Calls Try.prog 27 #[s.val] w (OwnPost xs w) := by
  obtain ⟨A, n, c⟩ := s
  have Hr := Lib.hid hr
  have Hn : Hid (xs.length = n) := hr.len
  dsimp only at hn
  clear hr
  simp only [Sl.val]
  have qN : ∀ (w : World) (a : Option Addr) (n c : Nat), (binOp .eql 22 (.slice a n c) (.slice none 0 0)).run Try.prog w = .ok (.bool a.isNone) w := fun w a n c => Lib.run_eql_slice_nil w _ _ a n c 0 0 Try.underlying22
  cases A with
  | none =>
    have hx : xs = [] := by
      have h0 : n = 0 := by
        rcases Nat.eq_zero_or_pos n with h | h
        · exact h
        · obtain ⟨b, off, e, _⟩ := Hr.out.cells h
          cases e
      exact List.eq_nil_of_length_eq_zero (by rw [Hn.out, h0])
    have Hx := Lib.hid hx
    clear hx
    (go_enter Try.func27, Try.ntmps27; try dsimp only [List.append])
    go_wp2_with fail
    go_ret
    exact ⟨⟨none, 0, 0⟩, rfl, by go_light; (repeat' (first | (with_reducible exact Below.refl _ _) | (with_reducible exact Nat.le_refl _) | (with_reducible assumption) | (with_reducible refine below_step ?_ ?_ hr) | (with_reducible refine below_over ?_ ?_ _) | (with_reducible refine Below.alloc ?_ ?_ _) | (with_reducible refine Below.setCell ?_ ?_ _) | (with_reducible refine below_put ?_ ?_ _) | (with_reducible refine Below.drew ?_) | (with_reducible refine below_drewN_ ?_ _) | (with_reducible refine le_drewN ?_ _) | (with_reducible refine over_le _ _ _ ?_) | (with_reducible refine le_alloc ?_ _) | (with_reducible refine le_setCell ?_ _ _) | (with_reducible refine le_put ?_ _ _) | (with_reducible refine le_drew ?_) | dsimp only | omega | ((try simp only [World.size_alloc, World.size_setCell, World.size_drew, size_put]); omega) | (simp; done))), by go_light; rw [Hx.out]; exact Own.nil_ _ _ _ _ _⟩
  | some a =>
    have qI : (some a : Option Addr).isNone = false := rfl
    (go_enter Try.func27, Try.ntmps27; try dsimp only [List.append])
    go_wp2_with (first
      | (at_builtin
         obtain ⟨i0, hi, hi0, hi1, hi2⟩ := info_parts info_posting
         have h0 : OwnP (w.alloc (.cells #[] 28)) w.heap.size ⟨some ⟨w.heap.size, 0, none⟩, 0, 0⟩ [] := own_empty _ _ _
         go_must (refine wpList_append_rd rfl _ _ _ rfl w.heap.size 28 i0 _ 4 32 Try.underlying22 hi hi0 hi1 hi2 rfl (by decide) (fun _ => rfl) one_pv (s := ⟨some ⟨w.heap.size, 0, none⟩, 0, 0⟩) (y := ⟨some a, n, c⟩) (xs := []) (ys := xs) rfl rfl h0 (Hr.out.toW (by (repeat' (first | (with_reducible exact Below.refl _ _) | (with_reducible exact Nat.le_refl _) | (with_reducible assumption) | (with_reducible refine below_step ?_ ?_ hr) | (with_reducible refine below_over ?_ ?_ _) | (with_reducible refine Below.alloc ?_ ?_ _) | (with_reducible refine Below.setCell ?_ ?_ _) | (with_reducible refine below_put ?_ ?_ _) | (with_reducible refine Below.drew ?_) | (with_reducible refine below_drewN_ ?_ _) | (with_reducible refine le_drewN ?_ _) | (with_reducible refine over_le _ _ _ ?_) | (with_reducible refine le_alloc ?_ _) | (with_reducible refine le_setCell ?_ _ _) | (with_reducible refine le_put ?_ _ _) | (with_reducible refine le_drew ?_) | dsimp only | omega | ((try simp only [World.size_alloc, World.size_setCell, World.size_drew, size_put]); omega) | (simp; done))))) (by simp only [maxLen]; omega) (by dsimp only; omega) (by simp) ?_)
         clear hi hi0 hi1 hi2 i0 h0
         intro v w2 hv hg hpos
         rw [List.nil_append] at hv
         have Hv := Lib.hid hv
         have hB : Below w.heap.size w w2 := Below.grown (by (repeat' (first | (with_reducible exact Below.refl _ _) | (with_reducible exact Nat.le_refl _) | (with_reducible assumption) | (with_reducible refine below_step ?_ ?_ hr) | (with_reducible refine below_over ?_ ?_ _) | (with_reducible refine Below.alloc ?_ ?_ _) | (with_reducible refine Below.setCell ?_ ?_ _) | (with_reducible refine below_put ?_ ?_ _) | (with_reducible refine Below.drew ?_) | (with_reducible refine below_drewN_ ?_ _) | (with_reducible refine le_drewN ?_ _) | (with_reducible refine over_le _ _ _ ?_) | (with_reducible refine le_alloc ?_ _) | (with_reducible refine le_setCell ?_ _ _) | (with_reducible refine le_put ?_ _ _) | (with_reducible refine le_drew ?_) | dsimp only | omega | ((try simp only [World.size_alloc, World.size_setCell, World.size_drew, size_put]); omega) | (simp; done)))) hg (by simp) (fun g hg2 => by cases hg2; exact Nat.le_refl _)
         clear hv hg hpos))
    go_ret
    exact ⟨v, rfl, by go_light; (repeat' (first | (with_reducible exact Below.refl _ _) | (with_reducible exact Nat.le_refl _) | (with_reducible assumption) | (with_reducible refine below_step ?_ ?_ hr) | (with_reducible refine below_over ?_ ?_ _) | (with_reducible refine Below.alloc ?_ ?_ _) | (with_reducible refine Below.setCell ?_ ?_ _) | (with_reducible refine below_put ?_ ?_ _) | (with_reducible refine Below.drew ?_) | (with_reducible refine below_drewN_ ?_ _) | (with_reducible refine le_drewN ?_ _) | (with_reducible refine over_le _ _ _ ?_) | (with_reducible refine le_alloc ?_ _) | (with_reducible refine le_setCell ?_ _ _) | (with_reducible refine le_put ?_ _ _) | (with_reducible refine le_drew ?_) | dsimp only | omega | ((try simp only [World.size_alloc, World.size_setCell, World.size_drew, size_put]); omega) | (simp; done))), Hv⟩
end Go.Proofs.Ytodbcjhghpiloaa
