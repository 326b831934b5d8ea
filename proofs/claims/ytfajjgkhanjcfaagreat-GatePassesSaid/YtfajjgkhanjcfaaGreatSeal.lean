/- Seals: Mix, Key, block, Tag. -/
import Derived.Test.YtfajjgkhanjcfaaGreatRows
import Derived.Test.YtfajjgkhanjcfaaGreatMA
namespace Go.Proofs.YtfajjgkhanjcfaaGreat
set_option linter.unusedSimpArgs false
set_option linter.unusedVariables false
open Go.RowKit
def xsh (x d : Int) : Int := bits BinOp.xor IntKind.u64 x (x / d)
def mixF (x : Int) : Int := xsh (IntKind.u64.wrap (xsh (IntKind.u64.wrap (xsh x 1073741824 * 13787848793156543929)) 134217728 * 10723151780598845931)) 2147483648
set_option maxRecDepth 100000 in
set_option maxHeartbeats 400000 in
theorem seal_Mix (x : Int) (w : World) : Calls Tryz.prog 59 #[.int .u64 x] w (Gives (.int .u64 (mixF x)) w) := by
  (go_enter Tryz.func59, Tryz.ntmps59; try dsimp only [List.append])
  go_wp2_with fail
  go_ret
  exact gives_of rfl (Below.refl _ _)
def keyF (k id : Int) : Int := mixF (IntKind.u64.wrap (k + IntKind.u64.wrap (id * 11400714819323198485)))
set_option maxRecDepth 100000 in
set_option maxHeartbeats 400000 in
theorem seal_Key (k id : Int) (w : World) (h0 : 0 ≤ id) (h1 : id ≤ 9223372036854775807) : Calls Tryz.prog 38 #[.int .u64 k, .int .i64 id] w (Gives (.int .u64 (keyF k id)) w) := by
  (go_enter Tryz.func38, Tryz.ntmps38; try dsimp only [List.append])
  go_wp2_with fail
  refine (seal_Mix _ _).mono ?_
  rintro e w1 hg
  obtain ⟨rfl, hb⟩ := hg.below
  clear hg
  have hz := hb.size
  (try simp only [World.size_alloc, World.size_setCell, World.size_drew, size_put] at hz)
  have hB : Below w.heap.size w w1 := below_step (by (repeat' (first | (with_reducible exact Below.refl _ _) | (with_reducible exact Nat.le_refl _) | (with_reducible assumption) | (with_reducible refine below_step ?_ ?_ hr) | (with_reducible refine below_over ?_ ?_ _) | (with_reducible refine Below.alloc ?_ ?_ _) | (with_reducible refine Below.setCell ?_ ?_ _) | (with_reducible refine below_put ?_ ?_ _) | (with_reducible refine Below.drew ?_) | (with_reducible refine below_drewN_ ?_ _) | (with_reducible refine le_drewN ?_ _) | (with_reducible refine over_le _ _ _ ?_) | (with_reducible refine le_alloc ?_ _) | (with_reducible refine le_setCell ?_ _ _) | (with_reducible refine le_put ?_ _ _) | (with_reducible refine le_drew ?_) | dsimp only | omega | ((try simp only [World.size_alloc, World.size_setCell, World.size_drew, size_put]); omega) | (simp; done)))) (by (first | omega | ((try simp only [World.size_alloc, World.size_setCell, World.size_drew, size_put]); omega))) hb
  clear hb
  go_wp2_with fail
  go_ret
  exact gives_of rfl (by go_light; (repeat' (first | (with_reducible exact Below.refl _ _) | (with_reducible exact Nat.le_refl _) | (with_reducible assumption) | (with_reducible refine below_step ?_ ?_ hr) | (with_reducible refine below_over ?_ ?_ _) | (with_reducible refine Below.alloc ?_ ?_ _) | (with_reducible refine Below.setCell ?_ ?_ _) | (with_reducible refine below_put ?_ ?_ _) | (with_reducible refine Below.drew ?_) | (with_reducible refine below_drewN_ ?_ _) | (with_reducible refine le_drewN ?_ _) | (with_reducible refine over_le _ _ _ ?_) | (with_reducible refine le_alloc ?_ _) | (with_reducible refine le_setCell ?_ _ _) | (with_reducible refine le_put ?_ _ _) | (with_reducible refine le_drew ?_) | dsimp only | omega | ((try simp only [World.size_alloc, World.size_setCell, World.size_drew, size_put]); omega) | (simp; done))))
def encB (n : Int) : List Value := [.int .u8 n]
theorem Rd.byte {w : World} {s : Sl} {xs : List Int} (h : Rd w encB s xs) {k : Nat} (hk : k < s.n) : ∃ b off x, s.a = some ⟨b, off, none⟩ ∧ b < w.heap.size ∧ Hid (xs.drop k = x :: xs.drop (k + 1)) ∧ Hid (xs[k]? = some x) ∧
    w.cell? ⟨b, off + k, none⟩ = some (.int .u8 x) := by
  obtain ⟨b, off, x, e, hb, h1, h2, hc⟩ := h.step hk
  exact ⟨b, off, x, e, hb, h1, h2, by have h := hc 0 _ rfl; simpa [encB] using h⟩
def isB (xs : List Int) : Prop := ∀ x ∈ xs, 0 ≤ x ∧ x ≤ 255
def blockL : Nat → Int → List Int → Int
  | _, a, [] => a
  | k, a, x :: r => blockL (k + 1) (bits BinOp.or IntKind.u64 a (IntKind.u64.wrap (x * 2 ^ (8 * k)))) r
def blockF (xs : List Int) : Int := blockL 0 0 xs
set_option maxRecDepth 100000 in
set_option maxHeartbeats 800000 in
theorem seal_block (s : Sl) (xs : List Int) (w : World) (hr : Rd w encB s xs) (hx : isB xs) (h8 : s.n ≤ 8) : Calls Tryz.prog 60 #[s.val] w (Gives (.int .u64 (blockF xs)) w) := by
  obtain ⟨A, n, c⟩ := s
  have Hr := Lib.hid hr
  have Hx := Lib.hid hx
  dsimp only at h8
  clear hr hx
  generalize hV : blockF xs = V
  have HV : Hid (blockL 0 0 xs = V) := hV
  clear hV
  simp only [Sl.val]
  (go_enter Tryz.func60, Tryz.ntmps60; try dsimp only [List.append])
  go_wp2_with fail
  go_loopw [3, 8] (fun u i wr => ∃ (k : Nat) (a : Int), k ≤ n ∧ i = .int .i64 k ∧ u = .int .u64 a ∧ Hid (blockL k a (xs.drop k) = V) ∧ Below w.heap.size w wr) (fun _ i _ => n - (intOf i).toNat)
  case atStart => exact ⟨0, 0, Nat.zero_le _, rfl, rfl, HV, Below.refl _ _⟩
  case round =>
    obtain ⟨k, a, hk, rfl, rfl, Hl, hBw⟩ := hrel
    have hzr := hBw.size
    by_cases hlt : k < n
    · obtain ⟨b, off, x, rfl, hbw, Hy, Hy0, hc0⟩ := Hr.out.byte hlt
      obtain ⟨x0, x1⟩ := Hx.out x (List.mem_of_getElem? Hy0.out)
      have e0 := (hBw.cell (p := ⟨b, _, none⟩) hbw).trans hc0
      have HS : Hid (blockL (k + 1) (bits BinOp.or IntKind.u64 a (IntKind.u64.wrap (x * 2 ^ (8 * k)))) (xs.drop (k + 1)) = V) := by show _ = _; rw [← Hl.out, Hy.out, blockL]
      clear hc0
      go_wp2_with fail
      exact ⟨⟨k + 1, _, by omega, by go_num, rfl, HS, hBw⟩, by simp [intOf]; omega⟩
    · have HE : Hid (V = a) := by show _ = _; rw [← Hl.out, Hr.out.done_ hlt]; rfl
      go_wp2_with fail
      go_ret
      exact gives_of (by rw [HE.out]; rfl) (by go_light; (repeat' (first | (with_reducible exact Below.refl _ _) | (with_reducible exact Nat.le_refl _) | (with_reducible assumption) | (with_reducible refine below_step ?_ ?_ hr) | (with_reducible refine below_over ?_ ?_ _) | (with_reducible refine Below.alloc ?_ ?_ _) | (with_reducible refine Below.setCell ?_ ?_ _) | (with_reducible refine below_put ?_ ?_ _) | (with_reducible refine Below.drew ?_) | (with_reducible refine below_drewN_ ?_ _) | (with_reducible refine le_drewN ?_ _) | (with_reducible refine over_le _ _ _ ?_) | (with_reducible refine le_alloc ?_ _) | (with_reducible refine le_setCell ?_ _ _) | (with_reducible refine le_put ?_ _ _) | (with_reducible refine le_drew ?_) | dsimp only | omega | ((try simp only [World.size_alloc, World.size_setCell, World.size_drew, size_put]); omega) | (simp; done))))
theorem Rd.sub {α : Type} {w : World} {enc : α → List Value} {b off n c i m size : Nat} {xs : List α} (h : Rd w enc ⟨some ⟨b, off, none⟩, n, c⟩ xs) (him : i + m ≤ n) (hs : ∀ x, (enc x).length = size) :
    Rd w enc ⟨some ⟨b, off + i * size, none⟩, m, c - i⟩ ((xs.drop i).take m) := by
  have h1 : xs.length = n := h.len
  have h2 : n ≤ c := h.cap
  have h3 : c ≤ maxLen := h.max
  refine ⟨by rw [List.length_take, List.length_drop, h1]; dsimp only; omega, by dsimp only; omega, by dsimp only; omega, fun hn => ?_⟩
  dsimp only at hn
  obtain ⟨b', off', e, hb, hc⟩ := h.cells (show 0 < n by omega)
  cases e
  refine ⟨b, off + i * size, rfl, hb, fun k x hx j u hu => ?_⟩
  rw [List.getElem?_take] at hx
  split at hx
  · rw [List.getElem?_drop] at hx
    have := hc (i + k) x hx j u hu
    rw [hs] at this ⊢
    rw [Nat.add_mul] at this
    have e : off + (i * size + k * size + j) = off + i * size + (k * size + j) := by omega
    rw [e] at this
    exact this
  · cases hx
def tagN : Nat → Int → List Int → Int
  | 0, h, _ => h
  | _ + 1, h, [] => h
  | f + 1, h, x :: r => tagN f (mixF (bits BinOp.xor IntKind.u64 h (blockF ((x :: r).take 8)))) ((x :: r).drop 8)
def tagF (key : Int) (xs : List Int) : Int := mixF (bits BinOp.xor IntKind.u64 (tagN xs.length (mixF key) xs) xs.length)
theorem tagN_nil (f : Nat) (h : Int) : tagN f h [] = h := by cases f <;> rfl
theorem tagN_step {f : Nat} {h : Int} {ys : List Int} (hy : ys ≠ []) : tagN (f + 1) h ys = tagN f (mixF (bits BinOp.xor IntKind.u64 h (blockF (ys.take 8)))) (ys.drop 8) := by
  cases ys with
  | nil => exact absurd rfl hy
  | cons x r => rfl
set_option maxRecDepth 100000 in
set_option maxHeartbeats 1600000 in
theorem seal_Tag (key : Int) (s : Sl) (xs : List Int) (w : World) (hr : Rd w encB s xs) (hx : isB xs) (hn : s.n ≤ 1000000) : Calls Tryz.prog 37 #[.int .u64 key, s.val] w (Gives (.int .u64 (tagF key xs)) w) := by
  obtain ⟨A, n, c⟩ := s
  have Hr := Lib.hid hr
  have Hx := Lib.hid hx
  have Hn : Hid (xs.length = n) := hr.len
  have hcap : n ≤ c := hr.cap
  have hcm : c ≤ 9223372036854775807 := hr.max
  dsimp only at hn
  clear hr hx
  obtain ⟨T, hT⟩ : ∃ T, T = tagN xs.length (mixF key) xs := ⟨_, rfl⟩
  have HV : Hid (mixF (bits BinOp.xor IntKind.u64 T n) = tagF key xs) := by show _ = _; rw [tagF, ← hT, Hn.out]
  have HT : Hid (tagN n (mixF key) (xs.drop 0) = T) := by show _ = _; rw [hT, Hn.out]; rfl
  generalize tagF key xs = V at HV
  clear hT
  simp only [Sl.val]
  (go_enter Tryz.func37, Tryz.ntmps37; try dsimp only [List.append])
  go_wp2_with fail
  refine (seal_Mix key _).mono ?_
  rintro e w1 hg
  obtain ⟨rfl, hb⟩ := hg.below
  clear hg
  have hz := hb.size
  (try simp only [World.size_alloc, World.size_setCell, World.size_drew, size_put] at hz)
  have hB : Below w.heap.size w w1 := below_step (by (repeat' (first | (with_reducible exact Below.refl _ _) | (with_reducible exact Nat.le_refl _) | (with_reducible assumption) | (with_reducible refine below_step ?_ ?_ hr) | (with_reducible refine below_over ?_ ?_ _) | (with_reducible refine Below.alloc ?_ ?_ _) | (with_reducible refine Below.setCell ?_ ?_ _) | (with_reducible refine below_put ?_ ?_ _) | (with_reducible refine Below.drew ?_) | (with_reducible refine below_drewN_ ?_ _) | (with_reducible refine le_drewN ?_ _) | (with_reducible refine over_le _ _ _ ?_) | (with_reducible refine le_alloc ?_ _) | (with_reducible refine le_setCell ?_ _ _) | (with_reducible refine le_put ?_ _ _) | (with_reducible refine le_drew ?_) | dsimp only | omega | ((try simp only [World.size_alloc, World.size_setCell, World.size_drew, size_put]); omega) | (simp; done)))) (by (first | omega | ((try simp only [World.size_alloc, World.size_setCell, World.size_drew, size_put]); omega))) hb
  clear hb
  have hB1 := hB
  go_wp2_with fail
  go_loopw [5, 6] (fun u i wr => ∃ (k f : Nat) (h : Int), k ≤ n + 8 ∧ i = .int .i64 k ∧ u = .int .u64 h ∧ n ≤ k + f ∧ Hid (tagN f h (xs.drop k) = T) ∧ Below w1.heap.size w1 wr) (fun _ i _ => n + 8 - (intOf i).toNat)
  case atStart => exact ⟨0, n, _, by omega, rfl, rfl, by omega, HT, Below.refl _ _⟩
  case round =>
    obtain ⟨k, f, h, hk, rfl, rfl, hf, Hl, hBr⟩ := hrel
    have hzr := hBr.size
    have hBw : Below w.heap.size w wr := hB1.trans (hBr.mono (by omega))
    by_cases hlt : k < n
    · obtain ⟨b, off, rfl, hbw, -⟩ := Hr.out.cells (show 0 < n by omega)
      obtain ⟨g, rfl⟩ : ∃ g, f = g + 1 := ⟨f - 1, by omega⟩
      have hne : xs.drop k ≠ [] := by rw [Ne, List.drop_eq_nil_iff, Hn.out]; omega
      have HS : Hid (tagN g (mixF (bits BinOp.xor IntKind.u64 h (blockF ((xs.drop k).take 8)))) (xs.drop (k + 8)) = T) := by show _ = _; rw [← Hl.out, tagN_step hne, List.drop_drop]
      have hxs : isB ((xs.drop k).take 8) := fun y hy => Hx.out y (List.mem_of_mem_drop (List.mem_of_mem_take hy))
      have Hxs := Lib.hid hxs
      clear hne hxs
      by_cases h8 : n < k + 8
      · have h8i : (n : Int) < (k : Int) + 8 := by omega
        have He : Hid ((xs.drop k).take 8 = (xs.drop k).take (n - k)) := by show _ = _; rw [List.take_of_length_le (by rw [List.length_drop, Hn.out]; omega), List.take_of_length_le (by rw [List.length_drop, Hn.out]; omega)]
        have Hc := Lib.hid (fun w' (hb : Below w.heap.size w w') => seal_block ⟨some ⟨b, off + k, none⟩, n - k, c - k⟩ ((xs.drop k).take 8) w' (by rw [He.out]; have h := (Rd.sub (i := k) (m := n - k) Hr.out (by omega) (fun _ => rfl)).toW hb; rwa [Nat.mul_one] at h) Hxs.out (by dsimp only; omega))
        go_wp2_with fail
        refine (Hc.out _ (by (repeat' (first | (with_reducible exact Below.refl _ _) | (with_reducible exact Nat.le_refl _) | (with_reducible assumption) | (with_reducible refine below_step ?_ ?_ hr) | (with_reducible refine below_over ?_ ?_ _) | (with_reducible refine Below.alloc ?_ ?_ _) | (with_reducible refine Below.setCell ?_ ?_ _) | (with_reducible refine below_put ?_ ?_ _) | (with_reducible refine Below.drew ?_) | (with_reducible refine below_drewN_ ?_ _) | (with_reducible refine le_drewN ?_ _) | (with_reducible refine over_le _ _ _ ?_) | (with_reducible refine le_alloc ?_ _) | (with_reducible refine le_setCell ?_ _ _) | (with_reducible refine le_put ?_ _ _) | (with_reducible refine le_drew ?_) | dsimp only | omega | ((try simp only [World.size_alloc, World.size_setCell, World.size_drew, size_put]); omega) | (simp; done))))).mono ?_
        rintro e w2 hg
        obtain ⟨rfl, hb⟩ := hg.below
        clear hg
        have hz := hb.size
        (try simp only [World.size_alloc, World.size_setCell, World.size_drew, size_put] at hz)
        have hB : Below wr.heap.size wr w2 := below_step (by (repeat' (first | (with_reducible exact Below.refl _ _) | (with_reducible exact Nat.le_refl _) | (with_reducible assumption) | (with_reducible refine below_step ?_ ?_ hr) | (with_reducible refine below_over ?_ ?_ _) | (with_reducible refine Below.alloc ?_ ?_ _) | (with_reducible refine Below.setCell ?_ ?_ _) | (with_reducible refine below_put ?_ ?_ _) | (with_reducible refine Below.drew ?_) | (with_reducible refine below_drewN_ ?_ _) | (with_reducible refine le_drewN ?_ _) | (with_reducible refine over_le _ _ _ ?_) | (with_reducible refine le_alloc ?_ _) | (with_reducible refine le_setCell ?_ _ _) | (with_reducible refine le_put ?_ _ _) | (with_reducible refine le_drew ?_) | dsimp only | omega | ((try simp only [World.size_alloc, World.size_setCell, World.size_drew, size_put]); omega) | (simp; done)))) (by (first | omega | ((try simp only [World.size_alloc, World.size_setCell, World.size_drew, size_put]); omega))) hb
        clear hb
        have hB2 := hB
        go_wp2_with fail
        refine (seal_Mix _ _).mono ?_
        rintro e w3 hg
        obtain ⟨rfl, hb⟩ := hg.below
        clear hg
        have hz := hb.size
        (try simp only [World.size_alloc, World.size_setCell, World.size_drew, size_put] at hz)
        have hB : Below w2.heap.size w2 w3 := below_step (by (repeat' (first | (with_reducible exact Below.refl _ _) | (with_reducible exact Nat.le_refl _) | (with_reducible assumption) | (with_reducible refine below_step ?_ ?_ hr) | (with_reducible refine below_over ?_ ?_ _) | (with_reducible refine Below.alloc ?_ ?_ _) | (with_reducible refine Below.setCell ?_ ?_ _) | (with_reducible refine below_put ?_ ?_ _) | (with_reducible refine Below.drew ?_) | (with_reducible refine below_drewN_ ?_ _) | (with_reducible refine le_drewN ?_ _) | (with_reducible refine over_le _ _ _ ?_) | (with_reducible refine le_alloc ?_ _) | (with_reducible refine le_setCell ?_ _ _) | (with_reducible refine le_put ?_ _ _) | (with_reducible refine le_drew ?_) | dsimp only | omega | ((try simp only [World.size_alloc, World.size_setCell, World.size_drew, size_put]); omega) | (simp; done)))) (by (first | omega | ((try simp only [World.size_alloc, World.size_setCell, World.size_drew, size_put]); omega))) hb
        clear hb
        have hB3 : Below w1.heap.size w1 w3 := hBr.trans ((hB2.trans (hB.mono (by omega))).mono (by omega))
        go_wp2_with fail
        go_roundw
        case rel => exact ⟨k + 8, g, _, by omega, by go_num, rfl, by omega, HS, by go_light; (repeat' (first | (with_reducible exact Below.refl _ _) | (with_reducible exact Nat.le_refl _) | (with_reducible assumption) | (with_reducible refine below_step ?_ ?_ hr) | (with_reducible refine below_over ?_ ?_ _) | (with_reducible refine Below.alloc ?_ ?_ _) | (with_reducible refine Below.setCell ?_ ?_ _) | (with_reducible refine below_put ?_ ?_ _) | (with_reducible refine Below.drew ?_) | (with_reducible refine below_drewN_ ?_ _) | (with_reducible refine le_drewN ?_ _) | (with_reducible refine over_le _ _ _ ?_) | (with_reducible refine le_alloc ?_ _) | (with_reducible refine le_setCell ?_ _ _) | (with_reducible refine le_put ?_ _ _) | (with_reducible refine le_drew ?_) | dsimp only | omega | ((try simp only [World.size_alloc, World.size_setCell, World.size_drew, size_put]); omega) | (simp; done)))⟩
        case measure => (simp [intOf] <;> omega)
      · have h8i : ¬ (n : Int) < (k : Int) + 8 := by omega
        have Hc := Lib.hid (fun w' (hb : Below w.heap.size w w') => seal_block ⟨some ⟨b, off + k, none⟩, 8, c - k⟩ ((xs.drop k).take 8) w' (by have h := (Rd.sub (i := k) (m := 8) Hr.out (by omega) (fun _ => rfl)).toW hb; rwa [Nat.mul_one] at h) Hxs.out (by dsimp only; omega))
        go_wp2_with fail
        refine (Hc.out _ (by (repeat' (first | (with_reducible exact Below.refl _ _) | (with_reducible exact Nat.le_refl _) | (with_reducible assumption) | (with_reducible refine below_step ?_ ?_ hr) | (with_reducible refine below_over ?_ ?_ _) | (with_reducible refine Below.alloc ?_ ?_ _) | (with_reducible refine Below.setCell ?_ ?_ _) | (with_reducible refine below_put ?_ ?_ _) | (with_reducible refine Below.drew ?_) | (with_reducible refine below_drewN_ ?_ _) | (with_reducible refine le_drewN ?_ _) | (with_reducible refine over_le _ _ _ ?_) | (with_reducible refine le_alloc ?_ _) | (with_reducible refine le_setCell ?_ _ _) | (with_reducible refine le_put ?_ _ _) | (with_reducible refine le_drew ?_) | dsimp only | omega | ((try simp only [World.size_alloc, World.size_setCell, World.size_drew, size_put]); omega) | (simp; done))))).mono ?_
        rintro e w2 hg
        obtain ⟨rfl, hb⟩ := hg.below
        clear hg
        have hz := hb.size
        (try simp only [World.size_alloc, World.size_setCell, World.size_drew, size_put] at hz)
        have hB : Below wr.heap.size wr w2 := below_step (by (repeat' (first | (with_reducible exact Below.refl _ _) | (with_reducible exact Nat.le_refl _) | (with_reducible assumption) | (with_reducible refine below_step ?_ ?_ hr) | (with_reducible refine below_over ?_ ?_ _) | (with_reducible refine Below.alloc ?_ ?_ _) | (with_reducible refine Below.setCell ?_ ?_ _) | (with_reducible refine below_put ?_ ?_ _) | (with_reducible refine Below.drew ?_) | (with_reducible refine below_drewN_ ?_ _) | (with_reducible refine le_drewN ?_ _) | (with_reducible refine over_le _ _ _ ?_) | (with_reducible refine le_alloc ?_ _) | (with_reducible refine le_setCell ?_ _ _) | (with_reducible refine le_put ?_ _ _) | (with_reducible refine le_drew ?_) | dsimp only | omega | ((try simp only [World.size_alloc, World.size_setCell, World.size_drew, size_put]); omega) | (simp; done)))) (by (first | omega | ((try simp only [World.size_alloc, World.size_setCell, World.size_drew, size_put]); omega))) hb
        clear hb
        have hB2 := hB
        go_wp2_with fail
        refine (seal_Mix _ _).mono ?_
        rintro e w3 hg
        obtain ⟨rfl, hb⟩ := hg.below
        clear hg
        have hz := hb.size
        (try simp only [World.size_alloc, World.size_setCell, World.size_drew, size_put] at hz)
        have hB : Below w2.heap.size w2 w3 := below_step (by (repeat' (first | (with_reducible exact Below.refl _ _) | (with_reducible exact Nat.le_refl _) | (with_reducible assumption) | (with_reducible refine below_step ?_ ?_ hr) | (with_reducible refine below_over ?_ ?_ _) | (with_reducible refine Below.alloc ?_ ?_ _) | (with_reducible refine Below.setCell ?_ ?_ _) | (with_reducible refine below_put ?_ ?_ _) | (with_reducible refine Below.drew ?_) | (with_reducible refine below_drewN_ ?_ _) | (with_reducible refine le_drewN ?_ _) | (with_reducible refine over_le _ _ _ ?_) | (with_reducible refine le_alloc ?_ _) | (with_reducible refine le_setCell ?_ _ _) | (with_reducible refine le_put ?_ _ _) | (with_reducible refine le_drew ?_) | dsimp only | omega | ((try simp only [World.size_alloc, World.size_setCell, World.size_drew, size_put]); omega) | (simp; done)))) (by (first | omega | ((try simp only [World.size_alloc, World.size_setCell, World.size_drew, size_put]); omega))) hb
        clear hb
        have hB3 : Below w1.heap.size w1 w3 := hBr.trans ((hB2.trans (hB.mono (by omega))).mono (by omega))
        go_wp2_with fail
        go_roundw
        case rel => exact ⟨k + 8, g, _, by omega, by go_num, rfl, by omega, HS, by go_light; (repeat' (first | (with_reducible exact Below.refl _ _) | (with_reducible exact Nat.le_refl _) | (with_reducible assumption) | (with_reducible refine below_step ?_ ?_ hr) | (with_reducible refine below_over ?_ ?_ _) | (with_reducible refine Below.alloc ?_ ?_ _) | (with_reducible refine Below.setCell ?_ ?_ _) | (with_reducible refine below_put ?_ ?_ _) | (with_reducible refine Below.drew ?_) | (with_reducible refine below_drewN_ ?_ _) | (with_reducible refine le_drewN ?_ _) | (with_reducible refine over_le _ _ _ ?_) | (with_reducible refine le_alloc ?_ _) | (with_reducible refine le_setCell ?_ _ _) | (with_reducible refine le_put ?_ _ _) | (with_reducible refine le_drew ?_) | dsimp only | omega | ((try simp only [World.size_alloc, World.size_setCell, World.size_drew, size_put]); omega) | (simp; done)))⟩
        case measure => (simp [intOf] <;> omega)
    · have HE : Hid (V = mixF (bits BinOp.xor IntKind.u64 h n)) := by
        show _ = _
        have h1 := Hl.out
        rw [List.drop_eq_nil_of_le (by rw [Hn.out]; omega), tagN_nil] at h1
        rw [← HV.out, h1]
      go_wp2_with fail
      refine (seal_Mix _ _).mono ?_
      rintro e w2 hg
      obtain ⟨rfl, hb⟩ := hg.below
      clear hg
      have hz := hb.size
      (try simp only [World.size_alloc, World.size_setCell, World.size_drew, size_put] at hz)
      have hB : Below wr.heap.size wr w2 := below_step (by (repeat' (first | (with_reducible exact Below.refl _ _) | (with_reducible exact Nat.le_refl _) | (with_reducible assumption) | (with_reducible refine below_step ?_ ?_ hr) | (with_reducible refine below_over ?_ ?_ _) | (with_reducible refine Below.alloc ?_ ?_ _) | (with_reducible refine Below.setCell ?_ ?_ _) | (with_reducible refine below_put ?_ ?_ _) | (with_reducible refine Below.drew ?_) | (with_reducible refine below_drewN_ ?_ _) | (with_reducible refine le_drewN ?_ _) | (with_reducible refine over_le _ _ _ ?_) | (with_reducible refine le_alloc ?_ _) | (with_reducible refine le_setCell ?_ _ _) | (with_reducible refine le_put ?_ _ _) | (with_reducible refine le_drew ?_) | dsimp only | omega | ((try simp only [World.size_alloc, World.size_setCell, World.size_drew, size_put]); omega) | (simp; done)))) (by (first | omega | ((try simp only [World.size_alloc, World.size_setCell, World.size_drew, size_put]); omega))) hb
      clear hb
      have hBw2 : Below w.heap.size w w2 := hBw.trans (hB.mono (by omega))
      go_wp2_with fail
      go_ret
      exact gives_of (by rw [HE.out]; rfl) (by go_light; (repeat' (first | (with_reducible exact Below.refl _ _) | (with_reducible exact Nat.le_refl _) | (with_reducible assumption) | (with_reducible refine below_step ?_ ?_ hr) | (with_reducible refine below_over ?_ ?_ _) | (with_reducible refine Below.alloc ?_ ?_ _) | (with_reducible refine Below.setCell ?_ ?_ _) | (with_reducible refine below_put ?_ ?_ _) | (with_reducible refine Below.drew ?_) | (with_reducible refine below_drewN_ ?_ _) | (with_reducible refine le_drewN ?_ _) | (with_reducible refine over_le _ _ _ ?_) | (with_reducible refine le_alloc ?_ _) | (with_reducible refine le_setCell ?_ _ _) | (with_reducible refine le_put ?_ _ _) | (with_reducible refine le_drew ?_) | dsimp only | omega | ((try simp only [World.size_alloc, World.size_setCell, World.size_drew, size_put]); omega) | (simp; done))))
end Go.Proofs.YtfajjgkhanjcfaaGreat
