/- Several of my texts in one: Ref04, Ref25. -/
import Derived.Test.YtfajjgkhanjcfaaGreatSeal
import Derived.Test.YtfajjgkhanjcfaaGreatCheck
/- Seals of the reference: Mix, Key, Block, Tag: the same numbers as the program's. -/
namespace Go.Proofs.YtfajjgkhanjcfaaGreat
set_option linter.unusedSimpArgs false
set_option linter.unusedVariables false
open Go.RowKit
set_option maxRecDepth 100000 in
set_option maxHeartbeats 400000 in
theorem ref04_Mix (x : Int) (w : World) : Calls Tryz.prog 80 #[.int .u64 x] w (Gives (.int .u64 (mixF x)) w) := by
  (go_enter Tryz.func80, Tryz.ntmps80; try dsimp only [List.append])
  go_wp2_with fail
  go_ret
  exact gives_of rfl (Below.refl _ _)
set_option maxRecDepth 100000 in
set_option maxHeartbeats 400000 in
theorem ref04_Key (k id : Int) (w : World) (h0 : 0 ≤ id) (h1 : id ≤ 9223372036854775807) : Calls Tryz.prog 69 #[.int .u64 k, .int .i64 id] w (Gives (.int .u64 (keyF k id)) w) := by
  (go_enter Tryz.func69, Tryz.ntmps69; try dsimp only [List.append])
  go_wp2_with fail
  refine (ref04_Mix _ _).mono ?_
  rintro e w1 hg
  obtain ⟨rfl, hb⟩ := hg.below
  clear hg
  have hz := hb.size
  (try simp only [World.size_alloc, World.size_setCell, World.size_drew, size_put] at hz)
  have hB : Below w.heap.size w w1 := below_step (by (repeat' (first | (with_reducible exact Below.refl _ _) | (with_reducible exact Nat.le_refl _) | (with_reducible assumption) | (with_reducible refine below_step ?_ ?_ hr) | (with_reducible refine below_over ?_ ?_ _) | (with_reducible refine Below.alloc ?_ ?_ _) | (with_reducible refine Below.setCell ?_ ?_ _) | (with_reducible refine below_put ?_ ?_ _) | (with_reducible refine Below.drew ?_) | (with_reducible refine below_drewN_ ?_ _) | (with_reducible refine le_drewN ?_ _) | (with_reducible refine over_le _ _ _ ?_) | (with_reducible refine le_alloc ?_ _) | (with_reducible refine le_setCell ?_ _ _) | (with_reducible refine le_put ?_ _ _) | (with_reducible refine le_drew ?_) | dsimp only | omega | ((try simp only [World.size_alloc, World.size_setCell, World.size_drew, size_put]); omega) | (simp; done)))) (by (first | omega | ((try simp only [World.size_alloc, World.size_setCell, World.size_drew, size_put]); omega))) hb
  clear hb
  go_wp2_with fail
  go_ret
  exact gives_of rfl (by go_light; (repeat' (first | (with_reducible exact Below.refl _ _) | (with_reducible exact Nat.le_refl _) | (with_reducible assumption) | (with_reducible refine below_step ?_ ?_ hr) | (with_reducible refine below_over ?_ ?_ _) | (with_reducible refine Below.alloc ?_ ?_ _) | (with_reducible refine Below.setCell ?_ ?_ _) | (with_reducible refine below_put ?_ ?_ _) | (with_reducible refine Below.drew ?_) | (with_reducible refine below_drewN_ ?_ _) | (with_reducible refine le_drewN ?_ _) | (with_reducible refine over_le _ _ _ ?_) | (with_reducible refine le_alloc ?_ _) | (with_reducible refine le_setCell ?_ _ _) | (with_reducible refine le_put ?_ _ _) | (with_reducible refine le_drew ?_) | dsimp only | omega | ((try simp only [World.size_alloc, World.size_setCell, World.size_drew, size_put]); omega) | (simp; done))))
/-- The block's number, as a sum. -/
def sumL : Int → Int → List Int → Int
  | _, a, [] => a
  | u, a, x :: r => sumL (IntKind.u64.wrap (u * 256)) (IntKind.u64.wrap (a + IntKind.u64.wrap (x * u))) r
theorem wrap_u64 {n : Int} (h0 : 0 ≤ n) (h1 : n < 18446744073709551616) : IntKind.u64.wrap n = n := by
  have e : IntKind.u64.wrap n = if (false && decide (n % 18446744073709551616 ≥ 9223372036854775808)) = true then n % 18446744073709551616 - 18446744073709551616 else n % 18446744073709551616 := rfl
  rw [e, Bool.false_and, if_neg (by simp)]
  exact Int.emod_eq_of_lt h0 h1
theorem or_add {a x k : Nat} (ha : a < 2 ^ (8 * k)) (hx : x ≤ 255) (hk : k < 8) : bits BinOp.or IntKind.u64 (a : Int) ((x * 2 ^ (8 * k) : Nat) : Int) = ((a + x * 2 ^ (8 * k) : Nat) : Int) ∧ a + x * 2 ^ (8 * k) < 2 ^ (8 * (k + 1)) := by
  have e8 : 2 ^ (8 * (k + 1)) = 2 ^ (8 * k) * 256 := by rw [Nat.mul_add, Nat.pow_add]
  have h1 : x * 2 ^ (8 * k) ≤ 255 * 2 ^ (8 * k) := Nat.mul_le_mul_right _ hx
  have hlt : a + x * 2 ^ (8 * k) < 2 ^ (8 * (k + 1)) := by rw [e8]; omega
  refine ⟨?_, hlt⟩
  have h64 : 2 ^ (8 * (k + 1)) ≤ 18446744073709551616 := Nat.pow_le_pow_right (by decide) (show 8 * (k + 1) ≤ 64 by omega)
  have e : bits BinOp.or IntKind.u64 (a : Int) ((x * 2 ^ (8 * k) : Nat) : Int) = IntKind.u64.wrap (((BitVec.ofInt 64 (a : Int)) ||| (BitVec.ofInt 64 ((x * 2 ^ (8 * k) : Nat) : Int))).toNat : Int) := rfl
  have hor : ((BitVec.ofInt 64 (a : Int)) ||| (BitVec.ofInt 64 ((x * 2 ^ (8 * k) : Nat) : Int))).toNat = a + x * 2 ^ (8 * k) := by
    rw [BitVec.toNat_or, BitVec.ofInt_natCast, BitVec.ofInt_natCast, BitVec.toNat_ofNat, BitVec.toNat_ofNat, Nat.mod_eq_of_lt (by omega), Nat.mod_eq_of_lt (by omega)]
    have h2 := Nat.shiftLeft_add_eq_or_of_lt ha x
    rw [Nat.shiftLeft_eq] at h2
    rw [Nat.or_comm, ← h2, Nat.add_comm]
  rw [e, hor]
  exact wrap_u64 (by omega) (by omega)
theorem block_sum : ∀ (xs : List Int) (k a : Nat), isB xs → k + xs.length ≤ 8 → a < 2 ^ (8 * k) → sumL (IntKind.u64.wrap (2 ^ (8 * k) : Nat)) a xs = blockL k a xs
  | [], k, a, _, _, _ => rfl
  | x :: r, k, a, hx, hk, ha => by
    obtain ⟨h0, h1⟩ := hx x (List.mem_cons_self ..)
    simp only [List.length_cons] at hk
    have hk8 : k < 8 := by omega
    obtain ⟨y, rfl⟩ : ∃ y : Nat, x = y := ⟨x.toNat, by omega⟩
    obtain ⟨g1, g2⟩ := or_add (a := a) (x := y) (k := k) ha (by omega) hk8
    have hp : 2 ^ (8 * k) < 18446744073709551616 := Nat.lt_of_lt_of_le (Nat.pow_lt_pow_right (by decide) (show 8 * k < 8 * (k + 1) by omega)) (Nat.pow_le_pow_right (by decide) (show 8 * (k + 1) ≤ 64 by omega))
    have h64 : 2 ^ (8 * (k + 1)) ≤ 18446744073709551616 := Nat.pow_le_pow_right (by decide) (show 8 * (k + 1) ≤ 64 by omega)
    have w1 : IntKind.u64.wrap ((2 ^ (8 * k) : Nat) : Int) = ((2 ^ (8 * k) : Nat) : Int) := wrap_u64 (by omega) (by omega)
    have w2 : IntKind.u64.wrap ((y : Int) * ((2 ^ (8 * k) : Nat) : Int)) = ((y * 2 ^ (8 * k) : Nat) : Int) := by
      rw [← Int.natCast_mul]; exact wrap_u64 (by omega) (by omega)
    have w3 : IntKind.u64.wrap ((a : Int) + ((y * 2 ^ (8 * k) : Nat) : Int)) = ((a + y * 2 ^ (8 * k) : Nat) : Int) := by
      rw [← Int.natCast_add]; exact wrap_u64 (by omega) (by omega)
    have w4 : ((2 ^ (8 * k) : Nat) : Int) * 256 = ((2 ^ (8 * (k + 1)) : Nat) : Int) := by
      have e : 2 ^ (8 * (k + 1)) = 2 ^ (8 * k) * 256 := by rw [Nat.mul_add, Nat.pow_add]
      rw [e, Int.natCast_mul]
      congr 1
    have w5 : IntKind.u64.wrap ((y : Int) * 2 ^ (8 * k)) = ((y * 2 ^ (8 * k) : Nat) : Int) := by
      have : (y : Int) * 2 ^ (8 * k) = (y : Int) * ((2 ^ (8 * k) : Nat) : Int) := by push_cast; rfl
      rw [this]; exact w2
    show sumL (IntKind.u64.wrap (IntKind.u64.wrap ((2 ^ (8 * k) : Nat) : Int) * 256)) (IntKind.u64.wrap ((a : Int) + IntKind.u64.wrap ((y : Int) * IntKind.u64.wrap ((2 ^ (8 * k) : Nat) : Int)))) r = blockL (k + 1) (bits BinOp.or IntKind.u64 (a : Int) (IntKind.u64.wrap ((y : Int) * 2 ^ (8 * k)))) r
    rw [w1, w2, w3, w4, w5, g1]
    exact block_sum r (k + 1) (a + y * 2 ^ (8 * k)) (fun z hz => hx z (List.mem_cons_of_mem _ hz)) (by omega) g2
theorem block_is {xs : List Int} (hx : isB xs) (h8 : xs.length ≤ 8) : sumL 1 0 xs = blockF xs := block_sum xs 0 0 hx (by omega) (by decide)
set_option maxRecDepth 100000 in
set_option maxHeartbeats 1600000 in
theorem ref04_Block (s : Sl) (xs : List Int) (i : Nat) (w : World) (hr : Rd w encB s xs) (hx : isB xs) (hi : i ≤ 1000000) : Calls Tryz.prog 81 #[s.val, .int .i64 i] w (Gives (.int .u64 (blockF ((xs.drop i).take 8))) w) := by
  obtain ⟨A, n, c⟩ := s
  have Hr := Lib.hid hr
  have Hx := Lib.hid hx
  have hn : Hid (xs.length = n) := hr.len
  have hmax : n ≤ 9223372036854775807 := hr.bound
  clear hr hx
  have HV : Hid (sumL 1 0 ((xs.drop i).take 8) = blockF ((xs.drop i).take 8)) := block_is (fun y hy => Hx.out y (List.mem_of_mem_drop (List.mem_of_mem_take hy))) (by rw [List.length_take]; omega)
  generalize blockF ((xs.drop i).take 8) = V at HV
  simp only [Sl.val]
  have gi : (i : Int) + 8 ≤ 9223372036854775807 := by omega
  (go_enter Tryz.func81, Tryz.ntmps81; try dsimp only [List.append])
  go_wp2_with fail
  go_loopw [5, 6, 7] (fun a u j wr => ∃ (k : Nat) (x y : Int), i ≤ k ∧ k ≤ i + 8 ∧ (k ≤ n ∨ k = i) ∧ j = .int .i64 k ∧ a = .int .u64 x ∧ u = .int .u64 y ∧ Hid (sumL y x ((xs.drop k).take (i + 8 - k)) = V) ∧ Below w.heap.size w wr) (fun _ _ j _ => i + 8 - (intOf j).toNat)
  case atStart => exact ⟨i, 0, 1, Nat.le_refl _, by omega, by omega, rfl, rfl, rfl, by show _ = _; rw [show i + 8 - i = 8 by omega]; exact HV.out, Below.refl _ _⟩
  case round =>
    obtain ⟨k, x, y, hik, hk8, hkn, rfl, rfl, rfl, Hl, hBw⟩ := hrel
    have hzr := hBw.size
    by_cases hlt : k < n
    · have h1 : decide ((k : Int) < (n : Int)) = true := by simp; omega
      by_cases h8 : k < i + 8
      · have h2 : decide ((k : Int) < (i : Int) + 8) = true := by simp; omega
        obtain ⟨b, off, z, rfl, hbw, Hy, Hy0, hc0⟩ := Hr.out.byte hlt
        have e0 := (hBw.cell (p := ⟨b, _, none⟩) hbw).trans hc0
        obtain ⟨z0, z1⟩ := Hx.out z (List.mem_of_getElem? Hy0.out)
        have HS : Hid (sumL (IntKind.u64.wrap (y * 256)) (IntKind.u64.wrap (x + IntKind.u64.wrap (z * y))) ((xs.drop (k + 1)).take (i + 8 - (k + 1))) = V) := by
          show _ = _
          rw [← Hl.out, Hy.out, show i + 8 - k = (i + 8 - (k + 1)) + 1 by omega, List.take_succ_cons]
          rfl
        clear hc0
        go_wp2_with fail
        go_roundw
        case rel => exact ⟨k + 1, _, _, by omega, by omega, by omega, by go_num, rfl, rfl, HS, by go_light; (repeat' (first | (with_reducible exact Below.refl _ _) | (with_reducible exact Nat.le_refl _) | (with_reducible assumption) | (with_reducible refine below_step ?_ ?_ hr) | (with_reducible refine below_over ?_ ?_ _) | (with_reducible refine Below.alloc ?_ ?_ _) | (with_reducible refine Below.setCell ?_ ?_ _) | (with_reducible refine below_put ?_ ?_ _) | (with_reducible refine Below.drew ?_) | (with_reducible refine below_drewN_ ?_ _) | (with_reducible refine le_drewN ?_ _) | (with_reducible refine over_le _ _ _ ?_) | (with_reducible refine le_alloc ?_ _) | (with_reducible refine le_setCell ?_ _ _) | (with_reducible refine le_put ?_ _ _) | (with_reducible refine le_drew ?_) | dsimp only | omega | ((try simp only [World.size_alloc, World.size_setCell, World.size_drew, size_put]); omega) | (simp; done)))⟩
        case measure => (simp [intOf] <;> omega)
      · have h2 : decide ((k : Int) < (i : Int) + 8) = false := by simp; omega
        have HE : Hid (V = x) := by show _ = _; rw [← Hl.out, show i + 8 - k = 0 by omega, List.take_zero]; rfl
        go_wp2_with fail
        go_ret
        exact gives_of (by rw [HE.out]; rfl) (by go_light; (repeat' (first | (with_reducible exact Below.refl _ _) | (with_reducible exact Nat.le_refl _) | (with_reducible assumption) | (with_reducible refine below_step ?_ ?_ hr) | (with_reducible refine below_over ?_ ?_ _) | (with_reducible refine Below.alloc ?_ ?_ _) | (with_reducible refine Below.setCell ?_ ?_ _) | (with_reducible refine below_put ?_ ?_ _) | (with_reducible refine Below.drew ?_) | (with_reducible refine below_drewN_ ?_ _) | (with_reducible refine le_drewN ?_ _) | (with_reducible refine over_le _ _ _ ?_) | (with_reducible refine le_alloc ?_ _) | (with_reducible refine le_setCell ?_ _ _) | (with_reducible refine le_put ?_ _ _) | (with_reducible refine le_drew ?_) | dsimp only | omega | ((try simp only [World.size_alloc, World.size_setCell, World.size_drew, size_put]); omega) | (simp; done))))
    · have h1 : decide ((k : Int) < (n : Int)) = false := by simp; omega
      have HE : Hid (V = x) := by show _ = _; rw [← Hl.out, List.drop_eq_nil_of_le (by rw [hn.out]; omega), List.take_nil]; rfl
      go_wp2_with fail
      go_ret
      exact gives_of (by rw [HE.out]; rfl) (by go_light; (repeat' (first | (with_reducible exact Below.refl _ _) | (with_reducible exact Nat.le_refl _) | (with_reducible assumption) | (with_reducible refine below_step ?_ ?_ hr) | (with_reducible refine below_over ?_ ?_ _) | (with_reducible refine Below.alloc ?_ ?_ _) | (with_reducible refine Below.setCell ?_ ?_ _) | (with_reducible refine below_put ?_ ?_ _) | (with_reducible refine Below.drew ?_) | (with_reducible refine below_drewN_ ?_ _) | (with_reducible refine le_drewN ?_ _) | (with_reducible refine over_le _ _ _ ?_) | (with_reducible refine le_alloc ?_ _) | (with_reducible refine le_setCell ?_ _ _) | (with_reducible refine le_put ?_ _ _) | (with_reducible refine le_drew ?_) | dsimp only | omega | ((try simp only [World.size_alloc, World.size_setCell, World.size_drew, size_put]); omega) | (simp; done))))
set_option maxRecDepth 100000 in
set_option maxHeartbeats 1600000 in
theorem ref04_Tag (key : Int) (s : Sl) (xs : List Int) (w : World) (hr : Rd w encB s xs) (hx : isB xs) (hn : s.n ≤ 900000) : Calls Tryz.prog 68 #[.int .u64 key, s.val] w (Gives (.int .u64 (tagF key xs)) w) := by
  obtain ⟨A, n, c⟩ := s
  have Hc := Lib.hid (fun w' (i : Nat) (hb : Below w.heap.size w w') (hi : i ≤ 1000000) => ref04_Block ⟨A, n, c⟩ xs i w' (hr.toW hb) hx hi)
  have Hn : Hid (xs.length = n) := hr.len
  dsimp only at hn
  clear hr hx
  obtain ⟨T, hT⟩ : ∃ T, T = tagN xs.length (mixF key) xs := ⟨_, rfl⟩
  have HV : Hid (mixF (bits BinOp.xor IntKind.u64 T n) = tagF key xs) := by show _ = _; rw [tagF, ← hT, Hn.out]
  have HT : Hid (tagN n (mixF key) (xs.drop 0) = T) := by show _ = _; rw [hT, Hn.out]; rfl
  generalize tagF key xs = V at HV
  clear hT
  simp only [Sl.val] at Hc ⊢
  (go_enter Tryz.func68, Tryz.ntmps68; try dsimp only [List.append])
  go_wp2_with fail
  refine (ref04_Mix key _).mono ?_
  rintro e w1 hg
  obtain ⟨rfl, hb⟩ := hg.below
  clear hg
  have hz := hb.size
  (try simp only [World.size_alloc, World.size_setCell, World.size_drew, size_put] at hz)
  have hB : Below w.heap.size w w1 := below_step (by (repeat' (first | (with_reducible exact Below.refl _ _) | (with_reducible exact Nat.le_refl _) | (with_reducible assumption) | (with_reducible refine below_step ?_ ?_ hr) | (with_reducible refine below_over ?_ ?_ _) | (with_reducible refine Below.alloc ?_ ?_ _) | (with_reducible refine Below.setCell ?_ ?_ _) | (with_reducible refine below_put ?_ ?_ _) | (with_reducible refine Below.drew ?_) | (with_reducible refine below_drewN_ ?_ _) | (with_reducible refine le_drewN ?_ _) | (with_reducible refine over_le _ _ _ ?_) | (with_reducible refine le_alloc ?_ _) | (with_reducible refine le_setCell ?_ _ _) | (with_reducible refine le_put ?_ _ _) | (with_reducible refine le_drew ?_) | dsimp only | omega | ((try simp only [World.size_alloc, World.size_setCell, World.size_drew, size_put]); omega) | (simp; done)))) (by (first | omega | ((try simp only [World.size_alloc, World.size_setCell, World.size_drew, size_put]); omega))) hb
  clear hb
  have hB1 := hB
  go_wp2_with fail
  go_loopw [5, 6] (fun u i wr => ∃ (k f : Nat) (h : Int), k ≤ n + 8 ∧ i = .int .i64 k ∧ u = .int .u64 h ∧ n ≤ k + f ∧ Hid (tagN f h (xs.drop k) = T) ∧ Below w1.heap.size w1 wr) (fun _ i _ => n + 8 - (intOf i).toNat)
  case atStart => exact ⟨0, n, _, by omega, rfl, rfl, by omega, HT, Below.refl _ _⟩
  case round =>
    obtain ⟨k, f, h, hk, rfl, rfl, hf, Hl, hBr⟩ := hrel
    have hzr := hBr.size
    have hBw : Below w.heap.size w wr := hB1.trans (hBr.mono (by omega))
    by_cases hlt : k < n
    · obtain ⟨g, rfl⟩ : ∃ g, f = g + 1 := ⟨f - 1, by omega⟩
      have hne : xs.drop k ≠ [] := by rw [Ne, List.drop_eq_nil_iff, Hn.out]; omega
      have HS : Hid (tagN g (mixF (bits BinOp.xor IntKind.u64 h (blockF ((xs.drop k).take 8)))) (xs.drop (k + 8)) = T) := by show _ = _; rw [← Hl.out, tagN_step hne, List.drop_drop]
      clear hne
      go_wp2_with fail
      refine (Hc.out _ k (by (repeat' (first | (with_reducible exact Below.refl _ _) | (with_reducible exact Nat.le_refl _) | (with_reducible assumption) | (with_reducible refine below_step ?_ ?_ hr) | (with_reducible refine below_over ?_ ?_ _) | (with_reducible refine Below.alloc ?_ ?_ _) | (with_reducible refine Below.setCell ?_ ?_ _) | (with_reducible refine below_put ?_ ?_ _) | (with_reducible refine Below.drew ?_) | (with_reducible refine below_drewN_ ?_ _) | (with_reducible refine le_drewN ?_ _) | (with_reducible refine over_le _ _ _ ?_) | (with_reducible refine le_alloc ?_ _) | (with_reducible refine le_setCell ?_ _ _) | (with_reducible refine le_put ?_ _ _) | (with_reducible refine le_drew ?_) | dsimp only | omega | ((try simp only [World.size_alloc, World.size_setCell, World.size_drew, size_put]); omega) | (simp; done)))) (by omega)).mono ?_
      rintro e w2 hg
      obtain ⟨rfl, hb⟩ := hg.below
      clear hg
      have hz := hb.size
      (try simp only [World.size_alloc, World.size_setCell, World.size_drew, size_put] at hz)
      have hB : Below wr.heap.size wr w2 := below_step (by (repeat' (first | (with_reducible exact Below.refl _ _) | (with_reducible exact Nat.le_refl _) | (with_reducible assumption) | (with_reducible refine below_step ?_ ?_ hr) | (with_reducible refine below_over ?_ ?_ _) | (with_reducible refine Below.alloc ?_ ?_ _) | (with_reducible refine Below.setCell ?_ ?_ _) | (with_reducible refine below_put ?_ ?_ _) | (with_reducible refine Below.drew ?_) | (with_reducible refine below_drewN_ ?_ _) | (with_reducible refine le_drewN ?_ _) | (with_reducible refine over_le _ _ _ ?_) | (with_reducible refine le_alloc ?_ _) | (with_reducible refine le_setCell ?_ _ _) | (with_reducible refine le_put ?_ _ _) | (with_reducible refine le_drew ?_) | dsimp only | omega | ((try simp only [World.size_alloc, World.size_setCell, World.size_drew, size_put]); omega) | (simp; done)))) (by (first | omega | ((try simp only [World.size_alloc, World.size_setCell, World.size_drew, size_put]); omega))) hb
      clear hb
      have hB2 := hB
      go_wp2_with fail
      refine (ref04_Mix _ _).mono ?_
      rintro e w3 hg
      obtain ⟨rfl, hb⟩ := hg.below
      clear hg
      have hz := hb.size
      (try simp only [World.size_alloc, World.size_setCell, World.size_drew, size_put] at hz)
      have hB : Below w2.heap.size w2 w3 := below_step (by (repeat' (first | (with_reducible exact Below.refl _ _) | (with_reducible exact Nat.le_refl _) | (with_reducible assumption) | (with_reducible refine below_step ?_ ?_ hr) | (with_reducible refine below_over ?_ ?_ _) | (with_reducible refine Below.alloc ?_ ?_ _) | (with_reducible refine Below.setCell ?_ ?_ _) | (with_reducible refine below_put ?_ ?_ _) | (with_reducible refine Below.drew ?_) | (with_reducible refine below_drewN_ ?_ _) | (with_reducible refine le_drewN ?_ _) | (with_reducible refine over_le _ _ _ ?_) | (with_reducible refine le_alloc ?_ _) | (with_reducible refine le_setCell ?_ _ _) | (with_reducible refine le_put ?_ _ _) | (with_reducible refine le_drew ?_) | dsimp only | omega | ((try simp only [World.size_alloc, World.size_setCell, World.size_drew, size_put]); omega) | (simp; done)))) (by (first | omega | ((try simp only [World.size_alloc, World.size_setCell, World.size_drew, size_put]); omega))) hb
      clear hb
      have hB3 : Below w1.heap.size w1 w3 := hBr.trans ((hB2.trans (hB.mono (by omega))).mono (by omega))
      go_wp2_with fail
      go_roundw
      case rel => exact ⟨k + 8, g, _, by omega, by go_num, rfl, by omega, HS, by go_light; (repeat' (first | (with_reducible exact Below.refl _ _) | (with_reducible exact Nat.le_refl _) | (with_reducible assumption) | (with_reducible refine below_step ?_ ?_ hr) | (with_reducible refine below_over ?_ ?_ _) | (with_reducible refine Below.alloc ?_ ?_ _) | (with_reducible refine Below.setCell ?_ ?_ _) | (with_reducible refine below_put ?_ ?_ _) | (with_reducible refine Below.drew ?_) | (with_reducible refine below_drewN_ ?_ _) | (with_reducible refine le_drewN ?_ _) | (with_reducible refine over_le _ _ _ ?_) | (with_reducible refine le_alloc ?_ _) | (with_reducible refine le_setCell ?_ _ _) | (with_reducible refine le_put ?_ _ _) | (with_reducible refine le_drew ?_) | dsimp only | omega | ((try simp only [World.size_alloc, World.size_setCell, World.size_drew, size_put]); omega) | (simp; done)))⟩
      case measure => (simp [intOf] <;> omega)
    · have HE : Hid (V = mixF (bits BinOp.xor IntKind.u64 h n)) := by
        show _ = _
        have h1 := Hl.out
        rw [List.drop_eq_nil_of_le (by rw [Hn.out]; omega), tagN_nil] at h1
        rw [← HV.out, h1]
      go_wp2_with fail
      refine (ref04_Mix _ _).mono ?_
      rintro e w2 hg
      obtain ⟨rfl, hb⟩ := hg.below
      clear hg
      have hz := hb.size
      (try simp only [World.size_alloc, World.size_setCell, World.size_drew, size_put] at hz)
      have hB : Below wr.heap.size wr w2 := below_step (by (repeat' (first | (with_reducible exact Below.refl _ _) | (with_reducible exact Nat.le_refl _) | (with_reducible assumption) | (with_reducible refine below_step ?_ ?_ hr) | (with_reducible refine below_over ?_ ?_ _) | (with_reducible refine Below.alloc ?_ ?_ _) | (with_reducible refine Below.setCell ?_ ?_ _) | (with_reducible refine below_put ?_ ?_ _) | (with_reducible refine Below.drew ?_) | (with_reducible refine below_drewN_ ?_ _) | (with_reducible refine le_drewN ?_ _) | (with_reducible refine over_le _ _ _ ?_) | (with_reducible refine le_alloc ?_ _) | (with_reducible refine le_setCell ?_ _ _) | (with_reducible refine le_put ?_ _ _) | (with_reducible refine le_drew ?_) | dsimp only | omega | ((try simp only [World.size_alloc, World.size_setCell, World.size_drew, size_put]); omega) | (simp; done)))) (by (first | omega | ((try simp only [World.size_alloc, World.size_setCell, World.size_drew, size_put]); omega))) hb
      clear hb
      have hBw2 : Below w.heap.size w w2 := hBw.trans (hB.mono (by omega))
      go_wp2_with fail
      go_ret
      exact gives_of (by rw [HE.out]; rfl) (by go_light; (repeat' (first | (with_reducible exact Below.refl _ _) | (with_reducible exact Nat.le_refl _) | (with_reducible assumption) | (with_reducible refine below_step ?_ ?_ hr) | (with_reducible refine below_over ?_ ?_ _) | (with_reducible refine Below.alloc ?_ ?_ _) | (with_reducible refine Below.setCell ?_ ?_ _) | (with_reducible refine below_put ?_ ?_ _) | (with_reducible refine Below.drew ?_) | (with_reducible refine below_drewN_ ?_ _) | (with_reducible refine le_drewN ?_ _) | (with_reducible refine over_le _ _ _ ?_) | (with_reducible refine le_alloc ?_ _) | (with_reducible refine le_setCell ?_ _ _) | (with_reducible refine le_put ?_ _ _) | (with_reducible refine le_drew ?_) | dsimp only | omega | ((try simp only [World.size_alloc, World.size_setCell, World.size_drew, size_put]); omega) | (simp; done))))
end Go.Proofs.YtfajjgkhanjcfaaGreat

/- Media of the reference: Put, Body, tag, Check: the same bytes and numbers as the program's. -/
namespace Go.Proofs.YtfajjgkhanjcfaaGreat
set_option linter.unusedSimpArgs false
set_option linter.unusedVariables false
open Go.RowKit
theorem or128 : ∀ k : Nat, k < 256 → bits BinOp.or IntKind.u8 (k : Int) 128 = ((k % 128 + 128 : Nat) : Int) := by decide +kernel
theorem hiB_eq {m : Int} (h : 0 ≤ m) : hiB m = m % 128 + 128 := by
  have e : IntKind.u8.wrap m = if (false && decide (m % 256 ≥ 128)) = true then m % 256 - 256 else m % 256 := rfl
  rw [Bool.false_and, if_neg (by simp)] at e
  obtain ⟨k, hk⟩ : ∃ k : Nat, m % 256 = k := ⟨(m % 256).toNat, by omega⟩
  show bits BinOp.or IntKind.u8 (IntKind.u8.wrap m) 128 = _
  rw [e, hk, or128 k (by omega)]
  omega
set_option maxRecDepth 100000 in
set_option maxHeartbeats 1600000 in
theorem ref03_Put (s : Sl) (xs : List Int) (n : Int) (w : World) (hs : Rd w encB s xs) (hn : n ≤ 200000000) (hsn : s.n ≤ 1000) : Calls Tryz.prog 82 #[s.val, .int .i64 n] w fun e w' => ∃ v : Sl, e = .returned v.val ∧ Below w.heap.size w w' ∧ OwnB w' w.heap.size v (xs ++ putF n) := by
  have Hs := Lib.hid hs
  have Hl : Hid (xs.length = s.n) := hs.len
  clear hs
  obtain ⟨N, hN⟩ : ∃ N, N = putF n := ⟨_, rfl⟩
  have hm : ∃ m : Int, ((decide (n < 0) = true ∧ m = 0) ∨ (decide (n < 0) = false ∧ m = n)) ∧ putN 3 m = putF n ∧ 0 ≤ m ∧ m ≤ 200000000 := by
    by_cases h : n < 0
    · exact ⟨0, .inl ⟨by simpa using h, rfl⟩, by rw [putF, if_pos h], by omega, by omega⟩
    · exact ⟨n, .inr ⟨by simpa using h, rfl⟩, by rw [putF, if_neg h], by omega, by omega⟩
  obtain ⟨m, hm0, hmN, hm1, hm2⟩ := hm
  have HN : Hid (putN 3 m = N) := by show _ = _; rw [hN, hmN]
  rw [← hN]
  clear hN hmN
  rcases hm0 with ⟨hd, rfl⟩ | ⟨hd, rfl⟩
  all_goals
    (go_enter Tryz.func82, Tryz.ntmps82; try dsimp only [List.append])
    go_upto_region 2 with (at_builtin; obtain ⟨i0, hi, hi0, hi1, hi2⟩ := info_parts info_byte; go_must (refine wpList_append_rd rfl _ _ _ rfl w.heap.size 5 i0 _ 1 1 Tryz.underlying76 hi hi0 hi1 hi2 rfl (by decide) (fun _ => rfl) one_byte (s := ⟨none, 0, 0⟩) (y := s) (xs := []) (ys := xs) rfl rfl (Own.nil_ _ _ _ _ _) Hs.out (by simp only [maxLen]; omega) (by dsimp only; omega) (Nat.le_refl _) ?_); clear hi hi0 hi1 hi2 i0; intro v w1 hv hg hpos; have HO := Lib.hid hv; have hB1 : Below w.heap.size w w1 := Below.grown (Below.refl _ _) hg (Nat.le_refl _) (fun g hg2 => by cases hg2); clear hv hg hpos)
    rw [List.nil_append] at HO
    go_wp2_with fail
    go_loopw [5, 1] (fun u i wr => ∃ (v : Sl) (acc : List Int) (f : Nat) (m : Int), u = v.val ∧ i = .int .i64 m ∧ 0 ≤ m ∧ m < bdN f ∧ m ≤ 200000000 ∧ acc.length + f ≤ xs.length + 3 ∧ Hid (acc ++ putN f m = xs ++ N) ∧ Hid (OwnB wr w.heap.size v acc) ∧ Below w.heap.size w wr) (fun _ i _ => (intOf i).toNat)
    case atStart => exact ⟨v, xs, 3, _, rfl, rfl, hm1, by simp [bdN] <;> omega, hm2, Nat.le_refl _, by show _ = _; rw [HN.out], HO, hB1⟩
    case round =>
      obtain ⟨v, acc, f, m, rfl, rfl, hm1, hmb, hm2, hfl, HL, HO, hB⟩ := hrel
      have hzr := hB.size
      have hvn : v.n ≤ 1000003 := by have h1 : acc.length = v.n := HO.out.len; have h2 := Hl.out; omega
      by_cases h128 : 128 ≤ m
      · obtain ⟨g, rfl⟩ : ∃ g, f = g + 1 := by
          cases f with
          | zero => simp [bdN] at hmb; omega
          | succ g => exact ⟨g, rfl⟩
        have hmg : m / 128 < bdN g := by simp only [bdN] at hmb; omega
        have HS : Hid ((acc ++ [m % 128 + 128]) ++ putN g (m / 128) = xs ++ N) := by show _ = _; rw [← HL.out, putN, if_pos h128, hiB_eq hm1]; simp
        have hal : (acc ++ [m % 128 + 128]).length + g ≤ xs.length + 3 := by simp; omega
        clear hmb
        go_wp2_with (at_builtin; obtain ⟨i0, hi, hi0, hi1, hi2⟩ := info_parts info_byte; go_must (refine wpList_append_rd rfl _ _ _ rfl w.heap.size 5 i0 _ 1 1 Tryz.underlying76 hi hi0 hi1 hi2 rfl (by decide) (fun _ => rfl) one_byte (s := v) (y := ⟨some ⟨wr.heap.size, 0, none⟩, 1, 1⟩) (xs := acc) (ys := [m % 128 + 128]) rfl rfl (HO.out.alloc _) (rd_new 1 (fun _ => rfl) [_] rfl rfl rfl (by simp [maxLen])) (by simp only [maxLen]; omega) (by dsimp only; omega) (by simp; omega) ?_); clear hi hi0 hi1 hi2 i0; intro v2 w2 hv hg hpos; have HO2 := Lib.hid hv; have hB2 : Below w.heap.size w w2 := Below.grown (hB.alloc (by omega) _) hg (by simp; omega) (fun g hg2 => (HO.out.block g hg2).1); clear hv hg hpos)
        go_roundw
        case rel => exact ⟨v2, acc ++ [m % 128 + 128], g, m / 128, rfl, rfl, by omega, hmg, by omega, hal, HS, HO2, hB2⟩
        case measure => (simp [intOf] <;> omega)
      · have HS : Hid (acc ++ [m] = xs ++ N) := by
          show _ = _
          rw [← HL.out]
          cases f with
          | zero => rfl
          | succ g => rw [putN, if_neg h128]
        go_wp2_with (at_builtin; obtain ⟨i0, hi, hi0, hi1, hi2⟩ := info_parts info_byte; go_must (refine wpList_append_rd rfl _ _ _ rfl w.heap.size 5 i0 _ 1 1 Tryz.underlying76 hi hi0 hi1 hi2 rfl (by decide) (fun _ => rfl) one_byte (s := v) (y := ⟨some ⟨wr.heap.size, 0, none⟩, 1, 1⟩) (xs := acc) (ys := [m]) rfl rfl (HO.out.alloc _) (rd_new 1 (fun _ => rfl) [_] rfl rfl rfl (by simp [maxLen])) (by simp only [maxLen]; omega) (by dsimp only; omega) (by simp; omega) ?_); clear hi hi0 hi1 hi2 i0; intro v2 w2 hv hg hpos; have HO2 := Lib.hid hv; have hB2 : Below w.heap.size w w2 := Below.grown (hB.alloc (by omega) _) hg (by simp; omega) (fun g hg2 => (HO.out.block g hg2).1); clear hv hg hpos)
        go_ret
        exact ⟨v2, rfl, hB2, by rw [← HS.out]; exact HO2.out⟩
end Go.Proofs.YtfajjgkhanjcfaaGreat
