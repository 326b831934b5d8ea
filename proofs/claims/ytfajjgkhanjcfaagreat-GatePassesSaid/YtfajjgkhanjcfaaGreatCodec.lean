/- The code of numbers: put, Put; slices.Clone of bytes. -/
import Derived.Test.YtfajjgkhanjcfaaGreatSeal
import Derived.Test.YtfajjgkhanjcfaaGreatPFind
import Derived.Test.YtfajjgkhanjcfaaGreatMA
namespace Go.Proofs.YtfajjgkhanjcfaaGreat
set_option linter.unusedSimpArgs false
set_option linter.unusedVariables false
open Go.RowKit
theorem info_byte : (Tryz.prog.info? 5).map (fun i => (i.zero, i.size, i.bytes)) = some (some (.int .u8 0), 1, 1) := by kernel_rfl
theorem one_byte (h : Int) : ∀ u ∈ encB h, u.oneCell' = true := by intro u hu; simp [encB] at hu; subst hu; rfl
abbrev OwnB (w : World) (base : Nat) (s : Sl) (xs : List Int) : Prop := Own w base 5 1 encB s xs
set_option maxRecDepth 100000 in
set_option maxHeartbeats 1600000 in
theorem clone_bytes (s : Sl) (xs : List Int) (w : World) (hr : Rd w encB s xs) (h1000 : s.n ≤ 1000) : Calls Tryz.prog 78 #[s.val] w fun e w' => ∃ v : Sl, e = .returned v.val ∧ Below w.heap.size w w' ∧ OwnB w' w.heap.size v xs := by
  obtain ⟨A, n, c⟩ := s
  have Hr := Lib.hid hr
  have hn : Hid (xs.length = n) := hr.len
  dsimp only at h1000
  clear hr
  simp only [Sl.val]
  have qN : ∀ (w : World) (a : Option Addr) (n c : Nat), (binOp .eql 76 (.slice a n c) (.slice none 0 0)).run Tryz.prog w = .ok (.bool a.isNone) w := fun w a n c => Lib.run_eql_slice_nil w _ _ a n c 0 0 Tryz.underlying76
  cases A with
  | none =>
    have hx : xs = [] := by
      have h0 : n = 0 := by
        rcases Nat.eq_zero_or_pos n with h | h
        · exact h
        · obtain ⟨b, off, e, _⟩ := Hr.out.cells h
          cases e
      exact List.eq_nil_of_length_eq_zero (by rw [hn.out, h0])
    have Hx := Lib.hid hx
    clear hx
    (go_enter Tryz.func78, Tryz.ntmps78; try dsimp only [List.append])
    go_wp2_with fail
    go_ret
    exact ⟨⟨none, 0, 0⟩, rfl, by go_light; (repeat' (first | (with_reducible exact Below.refl _ _) | (with_reducible exact Nat.le_refl _) | (with_reducible assumption) | (with_reducible refine below_step ?_ ?_ hr) | (with_reducible refine below_over ?_ ?_ _) | (with_reducible refine Below.alloc ?_ ?_ _) | (with_reducible refine Below.setCell ?_ ?_ _) | (with_reducible refine below_put ?_ ?_ _) | (with_reducible refine Below.drew ?_) | (with_reducible refine below_drewN_ ?_ _) | (with_reducible refine le_drewN ?_ _) | (with_reducible refine over_le _ _ _ ?_) | (with_reducible refine le_alloc ?_ _) | (with_reducible refine le_setCell ?_ _ _) | (with_reducible refine le_put ?_ _ _) | (with_reducible refine le_drew ?_) | dsimp only | omega | ((try simp only [World.size_alloc, World.size_setCell, World.size_drew, size_put]); omega) | (simp; done))), by go_light; rw [Hx.out]; exact Own.nil_ _ _ _ _ _⟩
  | some a =>
    have qI : (some a : Option Addr).isNone = false := rfl
    (go_enter Tryz.func78, Tryz.ntmps78; try dsimp only [List.append])
    go_wp2_with (first
      | (at_builtin
         obtain ⟨i0, hi, hi0, hi1, hi2⟩ := info_parts info_byte
         have h0 : OwnB (w.alloc (.cells #[] 5)) w.heap.size ⟨some ⟨w.heap.size, 0, none⟩, 0, 0⟩ [] := own_empty _ _ _
         go_must (refine wpList_append_rd rfl _ _ _ rfl w.heap.size 5 i0 _ 1 1 Tryz.underlying76 hi hi0 hi1 hi2 rfl (by decide) (fun _ => rfl) one_byte (s := ⟨some ⟨w.heap.size, 0, none⟩, 0, 0⟩) (y := ⟨some a, n, c⟩) (xs := []) (ys := xs) rfl rfl h0 (Hr.out.toW (by (repeat' (first | (with_reducible exact Below.refl _ _) | (with_reducible exact Nat.le_refl _) | (with_reducible assumption) | (with_reducible refine below_step ?_ ?_ hr) | (with_reducible refine below_over ?_ ?_ _) | (with_reducible refine Below.alloc ?_ ?_ _) | (with_reducible refine Below.setCell ?_ ?_ _) | (with_reducible refine below_put ?_ ?_ _) | (with_reducible refine Below.drew ?_) | (with_reducible refine below_drewN_ ?_ _) | (with_reducible refine le_drewN ?_ _) | (with_reducible refine over_le _ _ _ ?_) | (with_reducible refine le_alloc ?_ _) | (with_reducible refine le_setCell ?_ _ _) | (with_reducible refine le_put ?_ _ _) | (with_reducible refine le_drew ?_) | dsimp only | omega | ((try simp only [World.size_alloc, World.size_setCell, World.size_drew, size_put]); omega) | (simp; done))))) (by simp only [maxLen]; omega) (by dsimp only; omega) (by simp) ?_)
         clear hi hi0 hi1 hi2 i0 h0
         intro v w2 hv hg hpos
         rw [List.nil_append] at hv
         have Hv := Lib.hid hv
         have hB : Below w.heap.size w w2 := Below.grown (by (repeat' (first | (with_reducible exact Below.refl _ _) | (with_reducible exact Nat.le_refl _) | (with_reducible assumption) | (with_reducible refine below_step ?_ ?_ hr) | (with_reducible refine below_over ?_ ?_ _) | (with_reducible refine Below.alloc ?_ ?_ _) | (with_reducible refine Below.setCell ?_ ?_ _) | (with_reducible refine below_put ?_ ?_ _) | (with_reducible refine Below.drew ?_) | (with_reducible refine below_drewN_ ?_ _) | (with_reducible refine le_drewN ?_ _) | (with_reducible refine over_le _ _ _ ?_) | (with_reducible refine le_alloc ?_ _) | (with_reducible refine le_setCell ?_ _ _) | (with_reducible refine le_put ?_ _ _) | (with_reducible refine le_drew ?_) | dsimp only | omega | ((try simp only [World.size_alloc, World.size_setCell, World.size_drew, size_put]); omega) | (simp; done)))) hg (by simp) (fun g hg2 => by cases hg2; exact Nat.le_refl _)
         clear hv hg hpos))
    go_ret
    exact ⟨v, rfl, by go_light; (repeat' (first | (with_reducible exact Below.refl _ _) | (with_reducible exact Nat.le_refl _) | (with_reducible assumption) | (with_reducible refine below_step ?_ ?_ hr) | (with_reducible refine below_over ?_ ?_ _) | (with_reducible refine Below.alloc ?_ ?_ _) | (with_reducible refine Below.setCell ?_ ?_ _) | (with_reducible refine below_put ?_ ?_ _) | (with_reducible refine Below.drew ?_) | (with_reducible refine below_drewN_ ?_ _) | (with_reducible refine le_drewN ?_ _) | (with_reducible refine over_le _ _ _ ?_) | (with_reducible refine le_alloc ?_ _) | (with_reducible refine le_setCell ?_ _ _) | (with_reducible refine le_put ?_ _ _) | (with_reducible refine le_drew ?_) | dsimp only | omega | ((try simp only [World.size_alloc, World.size_setCell, World.size_drew, size_put]); omega) | (simp; done))), Hv⟩
def lowB (n : Int) : Int := IntKind.u8.wrap n
def hiB (n : Int) : Int := bits BinOp.or IntKind.u8 (lowB n) 128
/-- A number in groups of seven bits, the lowest first. -/
def putN : Nat → Int → List Int
  | 0, n => [n]
  | f + 1, n => if 128 ≤ n then hiB n :: putN f (n / 128) else [n]
def putF (n : Int) : List Int := putN 3 (if n < 0 then 0 else n)
def bdN : Nat → Int
  | 0 => 128
  | f + 1 => 128 * bdN f
set_option maxRecDepth 100000 in
set_option maxHeartbeats 1600000 in
theorem codec_put (base : Nat) (s : Sl) (xs : List Int) (n : Int) (w : World) (hs : OwnB w base s xs) (hb : base ≤ w.heap.size) (hn : n ≤ 200000000) (hsn : s.n ≤ 1000000) : Calls Tryz.prog 77 #[s.val, .int .i64 n] w fun e w' => ∃ v : Sl, e = .returned v.val ∧ Below base w w' ∧ OwnB w' base v (xs ++ putF n) := by
  have Hs := Lib.hid hs
  have Hl : Hid (xs.length = s.n) := hs.len
  clear hs
  obtain ⟨N, hN⟩ : ∃ N, N = putF n := ⟨_, rfl⟩
  have hm : ∃ m : Int, (if n < 0 then 0 else n) = m ∧ 0 ≤ m ∧ m ≤ 200000000 := ⟨_, rfl, by split <;> omega, by split <;> omega⟩
  obtain ⟨m, hm0, hm1, hm2⟩ := hm
  have HN : Hid (putN 3 m = N) := by show _ = _; rw [hN, putF, hm0]
  rw [← hN]
  clear hN
  (go_enter Tryz.func77, Tryz.ntmps77; try dsimp only [List.append])
  go_wp2_with fail
  go_loopw [0, 1] (fun u i wr => ∃ (v : Sl) (acc : List Int) (f : Nat) (m : Int), u = v.val ∧ i = .int .i64 m ∧ 0 ≤ m ∧ m < bdN f ∧ m ≤ 200000000 ∧ acc.length + f ≤ xs.length + 3 ∧ Hid (acc ++ putN f m = xs ++ N) ∧ Hid (OwnB wr base v acc) ∧ Below base w wr) (fun _ i _ => (intOf i).toNat)
  case atStart => exact ⟨s, xs, 3, m, rfl, rfl, hm1, by simp [bdN]; omega, hm2, Nat.le_refl _, by show _ = _; rw [HN.out], Hs, Below.refl _ _⟩
  case round =>
    obtain ⟨v, acc, f, m, rfl, rfl, hm1, hmb, hm2, hfl, HL, HO, hB⟩ := hrel
    have hzr := hB.size
    have hvn : v.n ≤ 1000003 := by have h1 : acc.length = v.n := HO.out.len; have h2 := Hl.out; omega
    by_cases h128 : 128 ≤ m
    · obtain ⟨g, rfl⟩ : ∃ g, f = g + 1 := by
        cases f with
        | zero => simp [bdN] at hmb; omega
        | succ g => exact ⟨g, rfl⟩
      have hmg : m / 128 < bdN g := by simp only [bdN] at hmb; omega
      have HS : Hid ((acc ++ [hiB m]) ++ putN g (m / 128) = xs ++ N) := by show _ = _; rw [← HL.out, putN, if_pos h128]; simp
      have hal : (acc ++ [hiB m]).length + g ≤ xs.length + 3 := by simp; omega
      clear hmb
      go_wp2_with (first
        | (at_builtin
           obtain ⟨i0, hi, hi0, hi1, hi2⟩ := info_parts info_byte
           go_must (refine wpList_append_rd rfl _ _ _ rfl base 5 i0 _ 1 1 Tryz.underlying76 hi hi0 hi1 hi2 rfl (by decide) (fun _ => rfl) one_byte (s := v) (y := ⟨some ⟨wr.heap.size, 0, none⟩, 1, 1⟩) (xs := acc) (ys := [hiB m]) rfl rfl (HO.out.alloc _) (rd_new 1 (fun _ => rfl) [_] rfl rfl rfl (by simp [maxLen])) (by simp only [maxLen]; omega) (by dsimp only; omega) (by simp; omega) ?_)
           clear hi hi0 hi1 hi2 i0
           intro v2 w2 hv hg hpos
           have HO2 := Lib.hid hv
           have hB2 : Below base w w2 := Below.grown (hB.alloc (by omega) _) hg (by simp; omega) (fun g hg2 => (HO.out.block g hg2).1)
           clear hv hg hpos))
      go_roundw
      case rel => exact ⟨v2, acc ++ [hiB m], g, m / 128, rfl, rfl, by omega, hmg, by omega, hal, HS, HO2, hB2⟩
      case measure => (simp [intOf] <;> omega)
    · have HS : Hid (acc ++ [m] = xs ++ N) := by
        show _ = _
        rw [← HL.out]
        cases f with
        | zero => rfl
        | succ g => rw [putN, if_neg h128]
      go_wp2_with (first
        | (at_builtin
           obtain ⟨i0, hi, hi0, hi1, hi2⟩ := info_parts info_byte
           go_must (refine wpList_append_rd rfl _ _ _ rfl base 5 i0 _ 1 1 Tryz.underlying76 hi hi0 hi1 hi2 rfl (by decide) (fun _ => rfl) one_byte (s := v) (y := ⟨some ⟨wr.heap.size, 0, none⟩, 1, 1⟩) (xs := acc) (ys := [m]) rfl rfl (HO.out.alloc _) (rd_new 1 (fun _ => rfl) [_] rfl rfl rfl (by simp [maxLen])) (by simp only [maxLen]; omega) (by dsimp only; omega) (by simp; omega) ?_)
           clear hi hi0 hi1 hi2 i0
           intro v2 w2 hv hg hpos
           have HO2 := Lib.hid hv
           have hB2 : Below base w w2 := Below.grown (hB.alloc (by omega) _) hg (by simp; omega) (fun g hg2 => (HO.out.block g hg2).1)
           clear hv hg hpos))
      go_ret
      exact ⟨v2, rfl, hB2, by rw [← HS.out]; exact HO2.out⟩
set_option maxRecDepth 100000 in
set_option maxHeartbeats 800000 in
theorem codec_Put (s : Sl) (xs : List Int) (n : Int) (w : World) (hs : Rd w encB s xs) (hn : n ≤ 200000000) (hsn : s.n ≤ 1000) : Calls Tryz.prog 61 #[s.val, .int .i64 n] w fun e w' => ∃ v : Sl, e = .returned v.val ∧ Below w.heap.size w w' ∧ OwnB w' w.heap.size v (xs ++ putF n) := by
  have Hs := Lib.hid hs
  have Hl : Hid (xs.length = s.n) := hs.len
  clear hs
  (go_enter Tryz.func61, Tryz.ntmps61; try dsimp only [List.append])
  go_wp2_with fail
  refine (clone_bytes s xs _ (Hs.out.toW (by (repeat' (first | (with_reducible exact Below.refl _ _) | (with_reducible exact Nat.le_refl _) | (with_reducible assumption) | (with_reducible refine below_step ?_ ?_ hr) | (with_reducible refine below_over ?_ ?_ _) | (with_reducible refine Below.alloc ?_ ?_ _) | (with_reducible refine Below.setCell ?_ ?_ _) | (with_reducible refine below_put ?_ ?_ _) | (with_reducible refine Below.drew ?_) | (with_reducible refine below_drewN_ ?_ _) | (with_reducible refine le_drewN ?_ _) | (with_reducible refine over_le _ _ _ ?_) | (with_reducible refine le_alloc ?_ _) | (with_reducible refine le_setCell ?_ _ _) | (with_reducible refine le_put ?_ _ _) | (with_reducible refine le_drew ?_) | dsimp only | omega | ((try simp only [World.size_alloc, World.size_setCell, World.size_drew, size_put]); omega) | (simp; done))))) hsn).mono ?_
  rintro e w1 ⟨v, rfl, hb, hv⟩
  have Hv := Lib.hid hv
  have hvn : v.n ≤ 1000 := by have h1 : xs.length = v.n := Hv.out.len; have h2 := Hl.out; omega
  clear hv
  have hz := hb.size
  (try simp only [World.size_alloc, World.size_setCell, World.size_drew, size_put] at hz)
  have hB : Below w.heap.size w w1 := below_step (by (repeat' (first | (with_reducible exact Below.refl _ _) | (with_reducible exact Nat.le_refl _) | (with_reducible assumption) | (with_reducible refine below_step ?_ ?_ hr) | (with_reducible refine below_over ?_ ?_ _) | (with_reducible refine Below.alloc ?_ ?_ _) | (with_reducible refine Below.setCell ?_ ?_ _) | (with_reducible refine below_put ?_ ?_ _) | (with_reducible refine Below.drew ?_) | (with_reducible refine below_drewN_ ?_ _) | (with_reducible refine le_drewN ?_ _) | (with_reducible refine over_le _ _ _ ?_) | (with_reducible refine le_alloc ?_ _) | (with_reducible refine le_setCell ?_ _ _) | (with_reducible refine le_put ?_ _ _) | (with_reducible refine le_drew ?_) | dsimp only | omega | ((try simp only [World.size_alloc, World.size_setCell, World.size_drew, size_put]); omega) | (simp; done)))) (by (first | omega | ((try simp only [World.size_alloc, World.size_setCell, World.size_drew, size_put]); omega))) hb
  clear hb
  go_wp2_with fail
  refine (codec_put w.heap.size v xs n _ Hv.out (by omega) hn (by omega)).mono ?_
  rintro e w2 ⟨v2, rfl, hb, hv⟩
  have Hv2 := Lib.hid hv
  have hB2 : Below w.heap.size w w2 := hB.trans hb
  clear hv hb
  go_wp2_with fail
  go_ret
  exact ⟨v2, rfl, hB2, Hv2.out⟩
end Go.Proofs.YtfajjgkhanjcfaaGreat
