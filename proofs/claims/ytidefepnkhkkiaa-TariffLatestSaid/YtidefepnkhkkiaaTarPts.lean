/- Tariffs: the tariff of a time, and what rides count. -/
import Derived.Test.YtidefepnkhkkiaaTarRight
namespace Go.Proofs.Ytidefepnkhkkiaa
set_option linter.unusedSimpArgs false
set_option linter.unusedVariables false
open Go.RowKit
def leAt (xs : List TF) (t : Int) (k : Nat) : Bool := match xs[k]? with
  | some x => decide (x.from_ ≤ t)
  | none => false
/-- The last place before k whose tariff begins at t or earlier. -/
def lastN (xs : List TF) (t : Int) : Nat → Option Nat
  | 0 => none
  | k + 1 => if leAt xs t k = true then some k else lastN xs t k
def idxV : Option Nat → Int
  | none => -1
  | some k => k
def idxF (xs : List TF) (t : Int) : Option Nat := lastN xs t xs.length
theorem leAt_some {xs : List TF} {t : Int} {k : Nat} {x : TF} (h : xs[k]? = some x) : leAt xs t k = decide (x.from_ ≤ t) := by unfold leAt; rw [h]
theorem lastN_lt {xs : List TF} {t : Int} : ∀ {k q : Nat}, lastN xs t k = some q → q < k ∧ leAt xs t q = true
  | 0, q, h => by cases h
  | k + 1, q, h => by
    unfold lastN at h
    split at h
    · cases h; exact ⟨by omega, ‹_›⟩
    · have := lastN_lt h; exact ⟨by omega, this.2⟩
theorem idxF_some {xs : List TF} {t : Int} {q : Nat} (h : idxF xs t = some q) : ∃ x, xs[q]? = some x ∧ x.from_ ≤ t := by
  obtain ⟨h1, h2⟩ := lastN_lt h
  have hx : xs[q]? = some xs[q] := List.getElem?_eq_getElem h1
  refine ⟨_, hx, ?_⟩
  rw [leAt_some hx] at h2
  simpa using h2
set_option maxRecDepth 100000 in
set_option maxHeartbeats 800000 in
theorem tariff_index (s : Sl) (xs : List TF) (t : Int) (w : World) (hs : TFs w s xs) : Calls Try.prog 26 #[s.val, .int .i64 t] w fun e w' => e = .returned (.int .i64 (idxV (idxF xs t))) ∧ w = w' := by
  obtain ⟨A, n, c⟩ := s
  have hmax : n ≤ 9223372036854775807 := hs.rd.bound
  have Hs := Lib.hid hs
  clear hs
  have Hn : Hid (xs.length = n) := Hs.out.rd.len
  generalize hV : idxF xs t = V
  have HV : Hid (lastN xs t n = V) := by show _ = _; rw [← Hn.out]; exact hV
  clear hV
  simp only [Sl.val]
  (go_enter Try.func26, Try.ntmps26; try dsimp only [List.append])
  go_wp2
  go_loop [5] (fun i => ∃ (k : Nat) (z : Int), k ≤ n ∧ z + 1 = k ∧ i = .int .i64 z ∧ Hid (lastN xs t k = V)) (fun i => (intOf i + 1).toNat)
  case atStart => exact ⟨n, (n : Int) - 1, Nat.le_refl _, by omega, rfl, HV⟩
  case round =>
    obtain ⟨k, z, hk, hz, rfl, Hl⟩ := hrel
    by_cases hk0 : k = 0
    · obtain rfl : z = -1 := by omega
      subst hk0
      have HE : Hid (V = none) := by show _ = _; rw [← Hl.out]; rfl
      clear hz
      go_wp2
      go_ret
      exact ⟨by rw [HE.out]; rfl, rfl⟩
    · obtain ⟨q, rfl⟩ : ∃ q, k = q + 1 := ⟨k - 1, by omega⟩
      obtain rfl : z = (q : Int) := by omega
      clear hz hk0
      obtain ⟨b, off, x, rfl, hbw, -, Hx0, hc0, hc1⟩ := Hs.out.rd.tf (show q < n by omega)
      clear hc1
      by_cases hx : x.from_ ≤ t
      · have HE : Hid (V = some q) := by show _ = _; rw [← Hl.out, lastN, if_pos (by rw [leAt_some Hx0.out]; simpa using hx)]
        go_wp2
        go_ret
        exact ⟨by rw [HE.out]; rfl, rfl⟩
      · have HE : Hid (lastN xs t q = V) := by show _ = _; rw [← Hl.out, lastN, if_neg (by rw [leAt_some Hx0.out]; simpa using hx)]
        go_wp2
        go_round
        case rel => exact ⟨q, (q : Int) - 1, by omega, by omega, rfl, HE⟩
        case measure => (simp [intOf] <;> omega)
abbrev zeroTF : TF := ⟨0, ⟨none, 0, 0⟩, []⟩
/-- The tariff of a time, the zero value if there is none. -/
def atX (xs : List TF) : Option Nat → TF
  | none => zeroTF
  | some q => (xs[q]?).getD zeroTF
theorem atX_at {w : World} {s : Sl} {xs : List TF} (h : TFs w s xs) (o : Option Nat) : (atX xs o).at_ w := by
  have hz : zeroTF.at_ w := ⟨Rd.nil_ _ _, fun x hx => by cases hx⟩
  cases o with
  | none => exact hz
  | some q =>
    show ((xs[q]?).getD zeroTF).at_ w
    cases hq : xs[q]? with
    | none => exact hz
    | some x => exact h.all x (List.mem_of_getElem? hq)
set_option maxRecDepth 100000 in
set_option maxHeartbeats 800000 in
theorem ref33_At (s : Sl) (xs : List TF) (t : Int) (w : World) (hs : TFs w s xs) : Calls Try.prog 16 #[s.val, .int .i64 t] w (Gives (.tuple #[(atX xs (idxF xs t)).val, .bool (idxF xs t).isSome]) w) := by
  obtain ⟨A, n, c⟩ := s
  have hmax : n ≤ 9223372036854775807 := hs.rd.bound
  have Hs := Lib.hid hs
  clear hs
  have Hn : Hid (xs.length = n) := Hs.out.rd.len
  generalize hV : idxF xs t = V
  have HV : Hid (lastN xs t n = V) := by show _ = _; rw [← Hn.out]; exact hV
  clear hV
  generalize hR : Value.tuple #[(atX xs V).val, .bool V.isSome] = R
  have HR := Lib.hid hR
  clear hR
  simp only [Sl.val]
  (go_enter Try.func16, Try.ntmps16; try dsimp only [List.append])
  go_wp2
  go_loop [6] (fun i => ∃ (k : Nat) (z : Int), k ≤ n ∧ z + 1 = k ∧ i = .int .i64 z ∧ Hid (lastN xs t k = V)) (fun i => (intOf i + 1).toNat)
  case atStart => exact ⟨n, (n : Int) - 1, Nat.le_refl _, by omega, rfl, HV⟩
  case round =>
    obtain ⟨k, z, hk, hz, rfl, Hl⟩ := hrel
    by_cases hk0 : k = 0
    · obtain rfl : z = -1 := by omega
      subst hk0
      have HE : Hid (V = none) := by show _ = _; rw [← Hl.out]; rfl
      clear hz
      go_wp2
      go_returns
      exact gives_of (congrArg Ending.returned (by go_light; rw [← HR.out, HE.out]; rfl)) (by go_light; (repeat' (first | (with_reducible exact Below.refl _ _) | (with_reducible exact Nat.le_refl _) | (with_reducible assumption) | (with_reducible refine below_step ?_ ?_ hr) | (with_reducible refine below_over ?_ ?_ _) | (with_reducible refine Below.alloc ?_ ?_ _) | (with_reducible refine Below.setCell ?_ ?_ _) | (with_reducible refine below_put ?_ ?_ _) | (with_reducible refine Below.drew ?_) | (with_reducible refine below_drewN_ ?_ _) | (with_reducible refine le_drewN ?_ _) | (with_reducible refine over_le _ _ _ ?_) | (with_reducible refine le_alloc ?_ _) | (with_reducible refine le_setCell ?_ _ _) | (with_reducible refine le_put ?_ _ _) | (with_reducible refine le_drew ?_) | dsimp only | omega | ((try simp only [World.size_alloc, World.size_setCell, World.size_drew, size_put]); omega) | (simp; done))))
    · obtain ⟨q, rfl⟩ : ∃ q, k = q + 1 := ⟨k - 1, by omega⟩
      obtain rfl : z = (q : Int) := by omega
      clear hz hk0
      obtain ⟨b, off, x, rfl, hbw, -, Hx0, hc0, hc1⟩ := Hs.out.rd.tf (show q < n by omega)
      by_cases hx : x.from_ ≤ t
      · have HE : Hid (V = some q) := by show _ = _; rw [← Hl.out, lastN, if_pos (by rw [leAt_some Hx0.out]; simpa using hx)]
        go_wp2
        go_returns
        exact gives_of (congrArg Ending.returned (by go_light; rw [← HR.out, HE.out]; show _ = Value.tuple #[((xs[q]?).getD zeroTF).val, _]; rw [Hx0.out]; rfl)) (by go_light; (repeat' (first | (with_reducible exact Below.refl _ _) | (with_reducible exact Nat.le_refl _) | (with_reducible assumption) | (with_reducible refine below_step ?_ ?_ hr) | (with_reducible refine below_over ?_ ?_ _) | (with_reducible refine Below.alloc ?_ ?_ _) | (with_reducible refine Below.setCell ?_ ?_ _) | (with_reducible refine below_put ?_ ?_ _) | (with_reducible refine Below.drew ?_) | (with_reducible refine below_drewN_ ?_ _) | (with_reducible refine le_drewN ?_ _) | (with_reducible refine over_le _ _ _ ?_) | (with_reducible refine le_alloc ?_ _) | (with_reducible refine le_setCell ?_ _ _) | (with_reducible refine le_put ?_ _ _) | (with_reducible refine le_drew ?_) | dsimp only | omega | ((try simp only [World.size_alloc, World.size_setCell, World.size_drew, size_put]); omega) | (simp; done))))
      · have HE : Hid (lastN xs t q = V) := by show _ = _; rw [← Hl.out, lastN, if_neg (by rw [leAt_some Hx0.out]; simpa using hx)]
        go_wp2
        go_round
        case rel => exact ⟨q, (q : Int) - 1, by omega, by omega, rfl, HE⟩
        case measure => (simp [intOf] <;> omega)
def cntR (r : RT) (t : Int) : Int := if inF r.peak t = true then r.points + r.points * r.extra / 1000 else r.points
def rateAt (lift t : Int) : List RT → Int
  | [] => 0
  | r :: rs => if r.lift = lift then cntR r t else rateAt lift t rs
def ptsF (xs : List TF) (r : RD) : Int := rateAt r.lift r.at_ (atX xs (idxF xs r.at_)).rates
structure RT.good (r : RT) : Prop where
  p0 : 1 ≤ r.points
  p1 : r.points ≤ 10000
  e0 : 0 ≤ r.extra
  e1 : r.extra ≤ 1000
theorem RT.good.mul {r : RT} (h : r.good) : 0 ≤ r.points * r.extra ∧ r.points * r.extra ≤ 10000000 := by
  have h0 := h.p0; have h1 := h.p1; have h2 := h.e0; have h3 := h.e1
  refine ⟨Int.mul_nonneg (by omega) h2, ?_⟩
  calc r.points * r.extra ≤ 10000 * r.extra := Int.mul_le_mul_of_nonneg_right h1 h2
    _ ≤ 10000 * 1000 := Int.mul_le_mul_of_nonneg_left h3 (by omega)
    _ = 10000000 := by decide
def goodTs (xs : List TF) : Prop := ∀ x ∈ xs, ∀ r ∈ x.rates, r.good
theorem atX_good {xs : List TF} (h : goodTs xs) (o : Option Nat) : ∀ r ∈ (atX xs o).rates, r.good := by
  cases o with
  | none => intro r hr; cases hr
  | some q =>
    show ∀ r ∈ ((xs[q]?).getD zeroTF).rates, _
    cases hq : xs[q]? with
    | none => intro r hr; cases hr
    | some x => exact h x (List.mem_of_getElem? hq)
set_option maxRecDepth 100000 in
set_option maxHeartbeats 1600000 in
theorem tariff_Points (s : Sl) (xs : List TF) (r : RD) (w : World) (hs : TFs w s xs) (hg : goodTs xs) : Calls Try.prog 18 #[s.val, r.val] w (Gives (.int .i64 (ptsF xs r)) w) := by
  obtain ⟨A, n, c⟩ := s
  obtain ⟨rg, rq, rs, rc, rp, rl, t⟩ := r
  have hmax : n ≤ 9223372036854775807 := hs.rd.bound
  have Hs := Lib.hid hs
  have Hg := Lib.hid hg
  clear hs hg
  generalize hV : ptsF xs ⟨rg, rq, rs, rc, rp, rl, t⟩ = V
  have HV : Hid (rateAt rl t (atX xs (idxF xs t)).rates = V) := hV
  clear hV
  simp only [Sl.val, RD.val]
  have Hix := fun w' (h : Below w.heap.size w w') => tariff_index ⟨A, n, c⟩ xs t w' (Hs.out.toW h)
  generalize ho : idxF xs t = o at HV Hix
  have Ho := Lib.hid ho
  have Hix := Lib.hid Hix
  clear ho
  cases o with
  | none =>
    have HE : Hid (V = 0) := by show _ = _; rw [← HV.out]; rfl
    (go_enter Try.func18, Try.ntmps18; try dsimp only [List.append])
    go_wp2_with fail
    refine (Hix.out _ (by (repeat' (first | (with_reducible exact Below.refl _ _) | (with_reducible exact Nat.le_refl _) | (with_reducible assumption) | (with_reducible refine below_step ?_ ?_ hr) | (with_reducible refine below_over ?_ ?_ _) | (with_reducible refine Below.alloc ?_ ?_ _) | (with_reducible refine Below.setCell ?_ ?_ _) | (with_reducible refine below_put ?_ ?_ _) | (with_reducible refine Below.drew ?_) | (with_reducible refine below_drewN_ ?_ _) | (with_reducible refine le_drewN ?_ _) | (with_reducible refine over_le _ _ _ ?_) | (with_reducible refine le_alloc ?_ _) | (with_reducible refine le_setCell ?_ _ _) | (with_reducible refine le_put ?_ _ _) | (with_reducible refine le_drew ?_) | dsimp only | omega | ((try simp only [World.size_alloc, World.size_setCell, World.size_drew, size_put]); omega) | (simp; done))))).mono ?_
    rintro e w1 ⟨rfl, rfl⟩
    simp only [idxV]
    go_wp2_with fail
    go_ret
    exact gives_of (ret_int HE.out.symm) (by go_light; (repeat' (first | (with_reducible exact Below.refl _ _) | (with_reducible exact Nat.le_refl _) | (with_reducible assumption) | (with_reducible refine below_step ?_ ?_ hr) | (with_reducible refine below_over ?_ ?_ _) | (with_reducible refine Below.alloc ?_ ?_ _) | (with_reducible refine Below.setCell ?_ ?_ _) | (with_reducible refine below_put ?_ ?_ _) | (with_reducible refine Below.drew ?_) | (with_reducible refine below_drewN_ ?_ _) | (with_reducible refine le_drewN ?_ _) | (with_reducible refine over_le _ _ _ ?_) | (with_reducible refine le_alloc ?_ _) | (with_reducible refine le_setCell ?_ _ _) | (with_reducible refine le_put ?_ _ _) | (with_reducible refine le_drew ?_) | dsimp only | omega | ((try simp only [World.size_alloc, World.size_setCell, World.size_drew, size_put]); omega) | (simp; done))))
  | some q =>
    obtain ⟨x, hq, -⟩ := idxF_some Ho.out
    have HX : Hid (atX xs (some q) = x) := by show (xs[q]?).getD zeroTF = x; rw [hq]; rfl
    have hqn : q < n := by have := (List.getElem?_eq_some_iff.1 hq).1; have := Hs.out.rd.len; dsimp only at this; omega
    rw [HX.out] at HV
    have Hxa : Hid (x.at_ w) := Hs.out.all x (List.mem_of_getElem? hq)
    have Hxg : Hid (∀ r ∈ x.rates, r.good) := Hg.out x (List.mem_of_getElem? hq)
    obtain ⟨b, off, x', rfl, hbw, -, Hx0, hc0, hc1⟩ := Hs.out.rd.tf hqn
    obtain rfl : x = x' := by have h := Hx0.out; rw [hq] at h; cases h; rfl
    clear hq hc0 Hx0 HX Ho
    obtain ⟨xf, ⟨B, m, cm⟩, rs⟩ := x
    dsimp only at hc1 HV
    have hm : m ≤ 9223372036854775807 := Hxa.out.rd.bound
    (go_enter Try.func18, Try.ntmps18; try dsimp only [List.append])
    go_wp2_with fail
    refine (Hix.out _ (by (repeat' (first | (with_reducible exact Below.refl _ _) | (with_reducible exact Nat.le_refl _) | (with_reducible assumption) | (with_reducible refine below_step ?_ ?_ hr) | (with_reducible refine below_over ?_ ?_ _) | (with_reducible refine Below.alloc ?_ ?_ _) | (with_reducible refine Below.setCell ?_ ?_ _) | (with_reducible refine below_put ?_ ?_ _) | (with_reducible refine Below.drew ?_) | (with_reducible refine below_drewN_ ?_ _) | (with_reducible refine le_drewN ?_ _) | (with_reducible refine over_le _ _ _ ?_) | (with_reducible refine le_alloc ?_ _) | (with_reducible refine le_setCell ?_ _ _) | (with_reducible refine le_put ?_ _ _) | (with_reducible refine le_drew ?_) | dsimp only | omega | ((try simp only [World.size_alloc, World.size_setCell, World.size_drew, size_put]); omega) | (simp; done))))).mono ?_
    rintro e w1 ⟨rfl, rfl⟩
    simp only [idxV]
    go_wp2_with fail
    refine wp_letter (fun w1 hb => ?_)
    have hz := hb.size
    (try simp only [World.size_alloc, World.size_setCell, World.size_drew, size_put] at hz)
    have hB : Below w.heap.size w w1 := below_step (by (repeat' (first | (with_reducible exact Below.refl _ _) | (with_reducible exact Nat.le_refl _) | (with_reducible assumption) | (with_reducible refine below_step ?_ ?_ hr) | (with_reducible refine below_over ?_ ?_ _) | (with_reducible refine Below.alloc ?_ ?_ _) | (with_reducible refine Below.setCell ?_ ?_ _) | (with_reducible refine below_put ?_ ?_ _) | (with_reducible refine Below.drew ?_) | (with_reducible refine below_drewN_ ?_ _) | (with_reducible refine le_drewN ?_ _) | (with_reducible refine over_le _ _ _ ?_) | (with_reducible refine le_alloc ?_ _) | (with_reducible refine le_setCell ?_ _ _) | (with_reducible refine le_put ?_ _ _) | (with_reducible refine le_drew ?_) | dsimp only | omega | ((try simp only [World.size_alloc, World.size_setCell, World.size_drew, size_put]); omega) | (simp; done)))) (by (first | omega | ((try simp only [World.size_alloc, World.size_setCell, World.size_drew, size_put]); omega))) hb
    have Q' : w1.heap[w.heap.size]? = _ := hb.block (w.heap.size) (by (first | omega | ((try simp only [World.size_alloc, World.size_setCell, World.size_drew, size_put]); omega)))
    simp only [alloc_block_if, put_block_if, over_block_if, set_block_if, setObj_cells, drew_block, drewN_block, Option.map_some, List.setIfInBounds_toArray, List.set_cons_zero, List.set_cons_succ, World.size_alloc, World.size_setCell, size_put, World.size_drew, if_true, if_false, ↓IntWalk.iteOmega] at Q'
    have Q_0 := Q'
    clear Q'
    have q_0 := cell_of_block Q_0
    clear hb
    go_loopw [20] (fun i wr => ∃ k : Nat, k ≤ m ∧ i = .int .i64 k ∧ Hid (rateAt rl t (rs.drop k) = V) ∧ Below w1.heap.size w1 wr) (fun i _ => m - (intOf i).toNat)
    case atStart => exact ⟨0, Nat.zero_le _, rfl, HV, Below.refl _ _⟩
    case round =>
      obtain ⟨k, hk, rfl, Hl, hBr⟩ := hrel
      have hzr := hBr.size
      have hBw : Below w.heap.size w wr := hB.trans (hBr.mono (by omega))
      have q_0r := cell_of_block ((hBr.block _ (by omega)).trans Q_0)
      by_cases hlt : k < m
      · obtain ⟨b2, off2, y, rfl, hbw2, Hy, Hy0, hd0, hd1, hd2, hd3⟩ := Hxa.out.rd.rt hlt
        have e0 := (hBw.cell (p := ⟨b2, _, none⟩) hbw2).trans hd0
        have e1 := (hBw.cell (p := ⟨b2, _, none⟩) hbw2).trans hd1
        have e2 := (hBw.cell (p := ⟨b2, _, none⟩) hbw2).trans hd2
        have e3 := (hBw.cell (p := ⟨b2, _, none⟩) hbw2).trans hd3
        clear hd0 hd1 hd2 hd3
        have Hyg := Lib.hid (Hxg.out y (List.mem_of_getElem? Hy0.out))
        have Hya := Lib.hid (Hxa.out.all y (List.mem_of_getElem? Hy0.out))
        obtain ⟨m0, m1⟩ := Hyg.out.mul
        have p0 := Hyg.out.p0; have p1 := Hyg.out.p1
        rw [Hy.out] at Hl
        by_cases hyl : y.lift = rl
        · have hyb : (y.lift != rl) = false := by simpa using hyl
          cases hin : inF y.peak t
          · have HE : Hid (V = y.points) := by show _ = _; rw [← Hl.out, rateAt, if_pos hyl, cntR, if_neg (by rw [hin]; simp)]
            clear hyl
            go_wp2_with fail
            refine ((hin ▸ clock_In y.sp y.peak t _ (Hya.out.toW (by (repeat' (first | (with_reducible exact Below.refl _ _) | (with_reducible exact Nat.le_refl _) | (with_reducible assumption) | (with_reducible refine below_step ?_ ?_ hr) | (with_reducible refine below_over ?_ ?_ _) | (with_reducible refine Below.alloc ?_ ?_ _) | (with_reducible refine Below.setCell ?_ ?_ _) | (with_reducible refine below_put ?_ ?_ _) | (with_reducible refine Below.drew ?_) | (with_reducible refine below_drewN_ ?_ _) | (with_reducible refine le_drewN ?_ _) | (with_reducible refine over_le _ _ _ ?_) | (with_reducible refine le_alloc ?_ _) | (with_reducible refine le_setCell ?_ _ _) | (with_reducible refine le_put ?_ _ _) | (with_reducible refine le_drew ?_) | dsimp only | omega | ((try simp only [World.size_alloc, World.size_setCell, World.size_drew, size_put]); omega) | (simp; done))))))).mono ?_
            rintro e w2 hg
            obtain ⟨rfl, hb⟩ := hg.below
            clear hg
            have hz := hb.size
            (try simp only [World.size_alloc, World.size_setCell, World.size_drew, size_put] at hz)
            have hB : Below w.heap.size w w2 := below_step (by (repeat' (first | (with_reducible exact Below.refl _ _) | (with_reducible exact Nat.le_refl _) | (with_reducible assumption) | (with_reducible refine below_step ?_ ?_ hr) | (with_reducible refine below_over ?_ ?_ _) | (with_reducible refine Below.alloc ?_ ?_ _) | (with_reducible refine Below.setCell ?_ ?_ _) | (with_reducible refine below_put ?_ ?_ _) | (with_reducible refine Below.drew ?_) | (with_reducible refine below_drewN_ ?_ _) | (with_reducible refine le_drewN ?_ _) | (with_reducible refine over_le _ _ _ ?_) | (with_reducible refine le_alloc ?_ _) | (with_reducible refine le_setCell ?_ _ _) | (with_reducible refine le_put ?_ _ _) | (with_reducible refine le_drew ?_) | dsimp only | omega | ((try simp only [World.size_alloc, World.size_setCell, World.size_drew, size_put]); omega) | (simp; done)))) (by (first | omega | ((try simp only [World.size_alloc, World.size_setCell, World.size_drew, size_put]); omega))) hb
            have Q' : w2.heap[wr.heap.size]? = _ := hb.block (wr.heap.size) (by (first | omega | ((try simp only [World.size_alloc, World.size_setCell, World.size_drew, size_put]); omega)))
            simp only [alloc_block_if, put_block_if, over_block_if, set_block_if, setObj_cells, drew_block, drewN_block, Option.map_some, List.setIfInBounds_toArray, List.set_cons_zero, List.set_cons_succ, World.size_alloc, World.size_setCell, size_put, World.size_drew, if_true, if_false, ↓IntWalk.iteOmega] at Q'
            have Qwr_0 := Q'
            clear Q'
            have qwr_0 := cell_of_block Qwr_0
            clear hb
            go_wp2_with fail
            go_ret
            exact gives_of (ret_int HE.out.symm) (by go_light; (repeat' (first | (with_reducible exact Below.refl _ _) | (with_reducible exact Nat.le_refl _) | (with_reducible assumption) | (with_reducible refine below_step ?_ ?_ hr) | (with_reducible refine below_over ?_ ?_ _) | (with_reducible refine Below.alloc ?_ ?_ _) | (with_reducible refine Below.setCell ?_ ?_ _) | (with_reducible refine below_put ?_ ?_ _) | (with_reducible refine Below.drew ?_) | (with_reducible refine below_drewN_ ?_ _) | (with_reducible refine le_drewN ?_ _) | (with_reducible refine over_le _ _ _ ?_) | (with_reducible refine le_alloc ?_ _) | (with_reducible refine le_setCell ?_ _ _) | (with_reducible refine le_put ?_ _ _) | (with_reducible refine le_drew ?_) | dsimp only | omega | ((try simp only [World.size_alloc, World.size_setCell, World.size_drew, size_put]); omega) | (simp; done))))
          · have HE : Hid (V = y.points + y.points * y.extra / 1000) := by show _ = _; rw [← Hl.out, rateAt, if_pos hyl, cntR, if_pos hin]
            clear hyl
            go_wp2_with fail
            refine ((hin ▸ clock_In y.sp y.peak t _ (Hya.out.toW (by (repeat' (first | (with_reducible exact Below.refl _ _) | (with_reducible exact Nat.le_refl _) | (with_reducible assumption) | (with_reducible refine below_step ?_ ?_ hr) | (with_reducible refine below_over ?_ ?_ _) | (with_reducible refine Below.alloc ?_ ?_ _) | (with_reducible refine Below.setCell ?_ ?_ _) | (with_reducible refine below_put ?_ ?_ _) | (with_reducible refine Below.drew ?_) | (with_reducible refine below_drewN_ ?_ _) | (with_reducible refine le_drewN ?_ _) | (with_reducible refine over_le _ _ _ ?_) | (with_reducible refine le_alloc ?_ _) | (with_reducible refine le_setCell ?_ _ _) | (with_reducible refine le_put ?_ _ _) | (with_reducible refine le_drew ?_) | dsimp only | omega | ((try simp only [World.size_alloc, World.size_setCell, World.size_drew, size_put]); omega) | (simp; done))))))).mono ?_
            rintro e w2 hg
            obtain ⟨rfl, hb⟩ := hg.below
            clear hg
            have hz := hb.size
            (try simp only [World.size_alloc, World.size_setCell, World.size_drew, size_put] at hz)
            have hB : Below w.heap.size w w2 := below_step (by (repeat' (first | (with_reducible exact Below.refl _ _) | (with_reducible exact Nat.le_refl _) | (with_reducible assumption) | (with_reducible refine below_step ?_ ?_ hr) | (with_reducible refine below_over ?_ ?_ _) | (with_reducible refine Below.alloc ?_ ?_ _) | (with_reducible refine Below.setCell ?_ ?_ _) | (with_reducible refine below_put ?_ ?_ _) | (with_reducible refine Below.drew ?_) | (with_reducible refine below_drewN_ ?_ _) | (with_reducible refine le_drewN ?_ _) | (with_reducible refine over_le _ _ _ ?_) | (with_reducible refine le_alloc ?_ _) | (with_reducible refine le_setCell ?_ _ _) | (with_reducible refine le_put ?_ _ _) | (with_reducible refine le_drew ?_) | dsimp only | omega | ((try simp only [World.size_alloc, World.size_setCell, World.size_drew, size_put]); omega) | (simp; done)))) (by (first | omega | ((try simp only [World.size_alloc, World.size_setCell, World.size_drew, size_put]); omega))) hb
            have Q' : w2.heap[wr.heap.size]? = _ := hb.block (wr.heap.size) (by (first | omega | ((try simp only [World.size_alloc, World.size_setCell, World.size_drew, size_put]); omega)))
            simp only [alloc_block_if, put_block_if, over_block_if, set_block_if, setObj_cells, drew_block, drewN_block, Option.map_some, List.setIfInBounds_toArray, List.set_cons_zero, List.set_cons_succ, World.size_alloc, World.size_setCell, size_put, World.size_drew, if_true, if_false, ↓IntWalk.iteOmega] at Q'
            have Qwr_0 := Q'
            clear Q'
            have qwr_0 := cell_of_block Qwr_0
            clear hb
            go_wp2_with fail
            go_ret
            exact gives_of (ret_int HE.out.symm) (by go_light; (repeat' (first | (with_reducible exact Below.refl _ _) | (with_reducible exact Nat.le_refl _) | (with_reducible assumption) | (with_reducible refine below_step ?_ ?_ hr) | (with_reducible refine below_over ?_ ?_ _) | (with_reducible refine Below.alloc ?_ ?_ _) | (with_reducible refine Below.setCell ?_ ?_ _) | (with_reducible refine below_put ?_ ?_ _) | (with_reducible refine Below.drew ?_) | (with_reducible refine below_drewN_ ?_ _) | (with_reducible refine le_drewN ?_ _) | (with_reducible refine over_le _ _ _ ?_) | (with_reducible refine le_alloc ?_ _) | (with_reducible refine le_setCell ?_ _ _) | (with_reducible refine le_put ?_ _ _) | (with_reducible refine le_drew ?_) | dsimp only | omega | ((try simp only [World.size_alloc, World.size_setCell, World.size_drew, size_put]); omega) | (simp; done))))
        · have hyb : (y.lift != rl) = true := by simpa using hyl
          have HE : Hid (rateAt rl t (rs.drop (k + 1)) = V) := by show _ = _; rw [← Hl.out, rateAt, if_neg hyl]
          clear hyl
          go_wp2_with fail
          go_roundw
          case rel => exact ⟨k + 1, by omega, by go_num, HE, by go_light; (repeat' (first | (with_reducible exact Below.refl _ _) | (with_reducible exact Nat.le_refl _) | (with_reducible assumption) | (with_reducible refine below_step ?_ ?_ hr) | (with_reducible refine below_over ?_ ?_ _) | (with_reducible refine Below.alloc ?_ ?_ _) | (with_reducible refine Below.setCell ?_ ?_ _) | (with_reducible refine below_put ?_ ?_ _) | (with_reducible refine Below.drew ?_) | (with_reducible refine below_drewN_ ?_ _) | (with_reducible refine le_drewN ?_ _) | (with_reducible refine over_le _ _ _ ?_) | (with_reducible refine le_alloc ?_ _) | (with_reducible refine le_setCell ?_ _ _) | (with_reducible refine le_put ?_ _ _) | (with_reducible refine le_drew ?_) | dsimp only | omega | ((try simp only [World.size_alloc, World.size_setCell, World.size_drew, size_put]); omega) | (simp; done)))⟩
          case measure => (simp [intOf] <;> omega)
      · have HE : Hid (V = 0) := by show _ = _; rw [← Hl.out, Hxa.out.rd.done_ hlt]; rfl
        go_wp2_with fail
        go_ret
        exact gives_of (ret_int HE.out.symm) (by go_light; (repeat' (first | (with_reducible exact Below.refl _ _) | (with_reducible exact Nat.le_refl _) | (with_reducible assumption) | (with_reducible refine below_step ?_ ?_ hr) | (with_reducible refine below_over ?_ ?_ _) | (with_reducible refine Below.alloc ?_ ?_ _) | (with_reducible refine Below.setCell ?_ ?_ _) | (with_reducible refine below_put ?_ ?_ _) | (with_reducible refine Below.drew ?_) | (with_reducible refine below_drewN_ ?_ _) | (with_reducible refine le_drewN ?_ _) | (with_reducible refine over_le _ _ _ ?_) | (with_reducible refine le_alloc ?_ _) | (with_reducible refine le_setCell ?_ _ _) | (with_reducible refine le_put ?_ _ _) | (with_reducible refine le_drew ?_) | dsimp only | omega | ((try simp only [World.size_alloc, World.size_setCell, World.size_drew, size_put]); omega) | (simp; done))))
end Go.Proofs.Ytidefepnkhkkiaa
