/- Products: the program's Area and Open and the reference's functions, each as a plain function. No conditions beyond what the types give. -/
import Derived.Test.YtfajjgkhanjcfaaGreatClock
namespace Go.Proofs.YtfajjgkhanjcfaaGreat
set_option linter.unusedSimpArgs false
set_option linter.unusedVariables false
open Go.RowKit

structure PD where
  id : Int
  kind : Int
  units : Int
  least : Int
  most : Int
  so : Sl
  sh : Sl
  sf : Int
  st : Int
  price : Int
  ops : List Int
  hours : List Hrs
abbrev PD.val (p : PD) : Value := .agg #[.int .i64 p.id, .int .i64 p.kind, .int .i64 p.units, .int .i64 p.least, .int .i64 p.most, .slice p.so.a p.so.n p.so.c, .slice p.sh.a p.sh.n p.sh.c, .int .i64 p.sf, .int .i64 p.st, .int .i64 p.price]
def PD.enc (p : PD) : List Value := [.int .i64 p.id, .int .i64 p.kind, .int .i64 p.units, .int .i64 p.least, .int .i64 p.most, .slice p.so.a p.so.n p.so.c, .slice p.sh.a p.sh.n p.sh.c, .int .i64 p.sf, .int .i64 p.st, .int .i64 p.price]
structure PD.at_ (w : World) (p : PD) : Prop where
  ops : Rd w encI p.so p.ops
  hours : Rd w Hrs.enc p.sh p.hours
theorem PD.at_.toW {w w' : World} {p : PD} (h : p.at_ w) (hb : Below w.heap.size w w') : p.at_ w' := ⟨h.ops.toW hb, h.hours.toW hb⟩

def idxL (v : Int) : Int → List Int → Int
  | _, [] => -1
  | k, x :: r => if v = x then k else idxL v (k + 1) r
def hasF : List Int → Int → Bool
  | [], _ => false
  | x :: r, v => if x = v then true else hasF r v
theorem idxL_has (v : Int) (l : List Int) (k : Int) (hk : 0 ≤ k) : decide (0 ≤ idxL v k l) = hasF l v := by
  induction l generalizing k with
  | nil => rfl
  | cons x r ih =>
    by_cases h : v = x
    · subst h; simp [idxL, hasF, hk]
    · have h' : ¬ x = v := fun e => h e.symm
      simp only [idxL, hasF, if_neg h, if_neg h']
      exact ih (k + 1) (by omega)

set_option maxRecDepth 100000 in
set_option maxHeartbeats 400000 in
theorem slices_Index (s : Sl) (xs : List Int) (v : Int) (w : World) (hr : Rd w encI s xs) : Calls Tryz.prog 75 #[s.val, .int .i64 v] w fun e w' => e = .returned (.int .i64 (idxL v 0 xs)) ∧ w = w' := by
  obtain ⟨A, n, c⟩ := s
  have hmax : n ≤ 9223372036854775807 := hr.bound
  have Hr := Lib.hid hr
  clear hr
  simp only [Sl.val]
  (go_enter Tryz.func75, Tryz.ntmps75; try dsimp only [List.append])
  go_wp2
  go_loop [5, 8] (fun _ i => ∃ k : Nat, k ≤ n ∧ i = .int .i64 k ∧ Hid (idxL v k (xs.drop k) = idxL v 0 xs)) (fun _ i => n - (intOf i).toNat)
  case atStart => exact ⟨0, Nat.zero_le _, rfl, rfl⟩
  case round =>
    obtain ⟨k, hk, rfl, Hl⟩ := hrel
    by_cases hlt : k < n
    · obtain ⟨b, off, x, rfl, _, Hx, -, hc⟩ := Hr.out.int hlt
      go_wp2
      · go_ret
        exact ⟨ret_int (by go_light; rw [← Hl.out, Hx.out]; clear Hx Hl Hr; simp_all [idxL]), rfl⟩
      · go_round
        case rel => exact ⟨k + 1, by omega, by go_num, Lib.hid (by go_light; rw [← Hl.out, Hx.out]; clear Hx Hl Hr; simp_all [idxL])⟩
        case measure => simp [intOf]; omega
    · go_wp2
      go_ret
      exact ⟨ret_int (by rw [← Hl.out, Hr.out.done_ hlt]; rfl), rfl⟩
set_option maxRecDepth 100000 in
set_option maxHeartbeats 400000 in
theorem slices_Contains (s : Sl) (xs : List Int) (v : Int) (w : World) (hr : Rd w encI s xs) : Calls Tryz.prog 52 #[s.val, .int .i64 v] w fun e w' => e = .returned (.bool (hasF xs v)) ∧ w = w' := by
  have Hr := Lib.hid hr
  clear hr
  (go_enter Tryz.func52, Tryz.ntmps52; try dsimp only [List.append])
  go_wp2_with (go_at_call 75; refine (slices_Index _ _ _ _ Hr.out).mono ?_; rintro e w' ⟨rfl, rfl⟩)
  go_ret
  exact ⟨ret_bool (idxL_has _ _ _ (by omega)), rfl⟩
set_option maxRecDepth 100000 in
set_option maxHeartbeats 400000 in
theorem product_Area (p : PD) (v : Int) (w : World) (hp : p.at_ w) : Calls Tryz.prog 53 #[p.val, .int .i64 v] w (Gives (.bool (hasF p.ops v)) w) := by
  have Hr := Lib.hid hp.ops
  clear hp
  (go_enter Tryz.func53, Tryz.ntmps53; try dsimp only [List.append])
  go_wp2_with (go_at_call 52; refine (slices_Contains p.so _ _ _ (Hr.out.toW (by (repeat' (first | (with_reducible exact Below.refl _ _) | (with_reducible exact Nat.le_refl _) | (with_reducible assumption) | (with_reducible refine below_step ?_ ?_ hr) | (with_reducible refine below_over ?_ ?_ _) | (with_reducible refine Below.alloc ?_ ?_ _) | (with_reducible refine Below.setCell ?_ ?_ _) | (with_reducible refine below_put ?_ ?_ _) | (with_reducible refine Below.drew ?_) | (with_reducible refine below_drewN_ ?_ _) | (with_reducible refine le_drewN ?_ _) | (with_reducible refine over_le _ _ _ ?_) | (with_reducible refine le_alloc ?_ _) | (with_reducible refine le_setCell ?_ _ _) | (with_reducible refine le_put ?_ _ _) | (with_reducible refine le_drew ?_) | dsimp only | omega | ((try simp only [World.size_alloc, World.size_setCell, World.size_drew, size_put]); omega) | (simp; done)))))).mono ?_; rintro e w' ⟨rfl, rfl⟩)
  go_ret
  exact gives_of rfl (by go_light; (repeat' (first | (with_reducible exact Below.refl _ _) | (with_reducible exact Nat.le_refl _) | (with_reducible assumption) | (with_reducible refine below_step ?_ ?_ hr) | (with_reducible refine below_over ?_ ?_ _) | (with_reducible refine Below.alloc ?_ ?_ _) | (with_reducible refine Below.setCell ?_ ?_ _) | (with_reducible refine below_put ?_ ?_ _) | (with_reducible refine Below.drew ?_) | (with_reducible refine below_drewN_ ?_ _) | (with_reducible refine le_drewN ?_ _) | (with_reducible refine over_le _ _ _ ?_) | (with_reducible refine le_alloc ?_ _) | (with_reducible refine le_setCell ?_ _ _) | (with_reducible refine le_put ?_ _ _) | (with_reducible refine le_drew ?_) | dsimp only | omega | ((try simp only [World.size_alloc, World.size_setCell, World.size_drew, size_put]); omega) | (simp; done))))
def openF (p : PD) (t : Int) : Bool := p.hours.isEmpty || inF p.hours t
set_option maxRecDepth 100000 in
set_option maxHeartbeats 400000 in
theorem product_Open (p : PD) (t : Int) (w : World) (hp : p.at_ w) : Calls Tryz.prog 54 #[p.val, .int .i64 t] w (Gives (.bool (openF p t)) w) := by
  have Hr := Lib.hid hp.hours
  have Hl := Lib.hid hp.hours.len
  clear hp
  by_cases h0 : p.sh.n = 0
  · have hb : ((p.sh.n : Int) == 0) = true := by simp [h0]
    have H0 := Lib.hid h0
    clear h0
    (go_enter Tryz.func54, Tryz.ntmps54; try dsimp only [List.append])
    go_wp2
    go_ret
    exact gives_of (ret_bool (by have := Hl.out; rw [H0.out] at this; simp [openF, List.eq_nil_of_length_eq_zero this])) (by go_light; (repeat' (first | (with_reducible exact Below.refl _ _) | (with_reducible exact Nat.le_refl _) | (with_reducible assumption) | (with_reducible refine below_step ?_ ?_ hr) | (with_reducible refine below_over ?_ ?_ _) | (with_reducible refine Below.alloc ?_ ?_ _) | (with_reducible refine Below.setCell ?_ ?_ _) | (with_reducible refine below_put ?_ ?_ _) | (with_reducible refine Below.drew ?_) | (with_reducible refine below_drewN_ ?_ _) | (with_reducible refine le_drewN ?_ _) | (with_reducible refine over_le _ _ _ ?_) | (with_reducible refine le_alloc ?_ _) | (with_reducible refine le_setCell ?_ _ _) | (with_reducible refine le_put ?_ _ _) | (with_reducible refine le_drew ?_) | dsimp only | omega | ((try simp only [World.size_alloc, World.size_setCell, World.size_drew, size_put]); omega) | (simp; done))))
  · have hb : ((p.sh.n : Int) == 0) = false := by simp; omega
    (go_enter Tryz.func54, Tryz.ntmps54; try dsimp only [List.append])
    go_wp2_with (go_at_call 76; refine (clock_In p.sh _ _ _ (Hr.out.toW (by (repeat' (first | (with_reducible exact Below.refl _ _) | (with_reducible exact Nat.le_refl _) | (with_reducible assumption) | (with_reducible refine below_step ?_ ?_ hr) | (with_reducible refine below_over ?_ ?_ _) | (with_reducible refine Below.alloc ?_ ?_ _) | (with_reducible refine Below.setCell ?_ ?_ _) | (with_reducible refine below_put ?_ ?_ _) | (with_reducible refine Below.drew ?_) | (with_reducible refine below_drewN_ ?_ _) | (with_reducible refine le_drewN ?_ _) | (with_reducible refine over_le _ _ _ ?_) | (with_reducible refine le_alloc ?_ _) | (with_reducible refine le_setCell ?_ _ _) | (with_reducible refine le_put ?_ _ _) | (with_reducible refine le_drew ?_) | dsimp only | omega | ((try simp only [World.size_alloc, World.size_setCell, World.size_drew, size_put]); omega) | (simp; done)))))).mono ?_; rintro e w' ⟨rfl, x, hw⟩; have hz := size_of hw; (try simp only [World.size_alloc, World.size_setCell, World.size_drew] at hz); subst hw)
    go_ret
    refine gives_of (ret_bool ?_) (by go_light; (repeat' (first | (with_reducible exact Below.refl _ _) | (with_reducible exact Nat.le_refl _) | (with_reducible assumption) | (with_reducible refine below_step ?_ ?_ hr) | (with_reducible refine below_over ?_ ?_ _) | (with_reducible refine Below.alloc ?_ ?_ _) | (with_reducible refine Below.setCell ?_ ?_ _) | (with_reducible refine below_put ?_ ?_ _) | (with_reducible refine Below.drew ?_) | (with_reducible refine below_drewN_ ?_ _) | (with_reducible refine le_drewN ?_ _) | (with_reducible refine over_le _ _ _ ?_) | (with_reducible refine le_alloc ?_ _) | (with_reducible refine le_setCell ?_ _ _) | (with_reducible refine le_put ?_ _ _) | (with_reducible refine le_drew ?_) | dsimp only | omega | ((try simp only [World.size_alloc, World.size_setCell, World.size_drew, size_put]); omega) | (simp; done))))
    have := Hl.out
    have hne : p.hours.isEmpty = false := by cases hh : p.hours with
      | nil => rw [hh] at this; simp at this; omega
      | cons _ _ => rfl
    simp [openF, hne]
set_option maxRecDepth 100000 in
set_option maxHeartbeats 400000 in
theorem ref22_Open (p : PD) (t : Int) (w : World) (hp : p.at_ w) : Calls Tryz.prog 65 #[p.val, .int .i64 t] w (Gives (.bool (openF p t)) w) := by
  have Hr := Lib.hid hp.hours
  have Hl := Lib.hid hp.hours.len
  clear hp
  by_cases h0 : p.sh.n = 0
  · have hb : ((p.sh.n : Int) == 0) = true := by simp [h0]
    have H0 := Lib.hid h0
    clear h0
    (go_enter Tryz.func65, Tryz.ntmps65; try dsimp only [List.append])
    go_wp2
    go_ret
    exact gives_of (ret_bool (by have := Hl.out; rw [H0.out] at this; simp [openF, List.eq_nil_of_length_eq_zero this])) (by go_light; (repeat' (first | (with_reducible exact Below.refl _ _) | (with_reducible exact Nat.le_refl _) | (with_reducible assumption) | (with_reducible refine below_step ?_ ?_ hr) | (with_reducible refine below_over ?_ ?_ _) | (with_reducible refine Below.alloc ?_ ?_ _) | (with_reducible refine Below.setCell ?_ ?_ _) | (with_reducible refine below_put ?_ ?_ _) | (with_reducible refine Below.drew ?_) | (with_reducible refine below_drewN_ ?_ _) | (with_reducible refine le_drewN ?_ _) | (with_reducible refine over_le _ _ _ ?_) | (with_reducible refine le_alloc ?_ _) | (with_reducible refine le_setCell ?_ _ _) | (with_reducible refine le_put ?_ _ _) | (with_reducible refine le_drew ?_) | dsimp only | omega | ((try simp only [World.size_alloc, World.size_setCell, World.size_drew, size_put]); omega) | (simp; done))))
  · have hb : ((p.sh.n : Int) == 0) = false := by simp; omega
    (go_enter Tryz.func65, Tryz.ntmps65; try dsimp only [List.append])
    go_wp2_with (go_at_call 79; refine (ref02_In p.sh _ _ _ (Hr.out.toW (by (repeat' (first | (with_reducible exact Below.refl _ _) | (with_reducible exact Nat.le_refl _) | (with_reducible assumption) | (with_reducible refine below_step ?_ ?_ hr) | (with_reducible refine below_over ?_ ?_ _) | (with_reducible refine Below.alloc ?_ ?_ _) | (with_reducible refine Below.setCell ?_ ?_ _) | (with_reducible refine below_put ?_ ?_ _) | (with_reducible refine Below.drew ?_) | (with_reducible refine below_drewN_ ?_ _) | (with_reducible refine le_drewN ?_ _) | (with_reducible refine over_le _ _ _ ?_) | (with_reducible refine le_alloc ?_ _) | (with_reducible refine le_setCell ?_ _ _) | (with_reducible refine le_put ?_ _ _) | (with_reducible refine le_drew ?_) | dsimp only | omega | ((try simp only [World.size_alloc, World.size_setCell, World.size_drew, size_put]); omega) | (simp; done)))))).mono ?_; rintro e w' ⟨rfl, x, hw⟩; have hz := size_of hw; (try simp only [World.size_alloc, World.size_setCell, World.size_drew] at hz); subst hw)
    go_ret
    refine gives_of (ret_bool ?_) (by go_light; (repeat' (first | (with_reducible exact Below.refl _ _) | (with_reducible exact Nat.le_refl _) | (with_reducible assumption) | (with_reducible refine below_step ?_ ?_ hr) | (with_reducible refine below_over ?_ ?_ _) | (with_reducible refine Below.alloc ?_ ?_ _) | (with_reducible refine Below.setCell ?_ ?_ _) | (with_reducible refine below_put ?_ ?_ _) | (with_reducible refine Below.drew ?_) | (with_reducible refine below_drewN_ ?_ _) | (with_reducible refine le_drewN ?_ _) | (with_reducible refine over_le _ _ _ ?_) | (with_reducible refine le_alloc ?_ _) | (with_reducible refine le_setCell ?_ _ _) | (with_reducible refine le_put ?_ _ _) | (with_reducible refine le_drew ?_) | dsimp only | omega | ((try simp only [World.size_alloc, World.size_setCell, World.size_drew, size_put]); omega) | (simp; done))))
    have := Hl.out
    have hne : p.hours.isEmpty = false := by cases hh : p.hours with
      | nil => rw [hh] at this; simp at this; omega
      | cons _ _ => rfl
    simp [openF, hne]
set_option maxRecDepth 100000 in
set_option maxHeartbeats 400000 in
theorem ref22_Area (p : PD) (v : Int) (w : World) (hp : p.at_ w) : Calls Tryz.prog 64 #[p.val, .int .i64 v] w (Gives (.bool (hasF p.ops v)) w) := by
  obtain ⟨pid, kind, units, least, most, ⟨A, n, c⟩, sh, sf, st, price, xs, hours⟩ := p
  have hmax : n ≤ 9223372036854775807 := hp.ops.bound
  have Hr := Lib.hid hp.ops
  clear hp
  simp only [PD.val]
  (go_enter Tryz.func64, Tryz.ntmps64; try dsimp only [List.append])
  go_wp2
  go_loop [5] (fun i => ∃ k : Nat, k ≤ n ∧ i = .int .i64 k ∧ Hid (hasF (xs.drop k) v = hasF xs v)) (fun i => n - (intOf i).toNat)
  case atStart => exact ⟨0, Nat.zero_le _, rfl, rfl⟩
  case round =>
    obtain ⟨k, hk, rfl, Hl⟩ := hrel
    by_cases hlt : k < n
    · obtain ⟨b, off, x, rfl, hbw, Hx, -, hc⟩ := Hr.out.int hlt
      go_wp2
      · go_ret
        exact gives_of (ret_bool (by go_light; rw [← Hl.out, Hx.out]; clear Hx Hl Hr; simp_all [hasF])) (by go_light; (repeat' (first | (with_reducible exact Below.refl _ _) | (with_reducible exact Nat.le_refl _) | (with_reducible assumption) | (with_reducible refine below_step ?_ ?_ hr) | (with_reducible refine below_over ?_ ?_ _) | (with_reducible refine Below.alloc ?_ ?_ _) | (with_reducible refine Below.setCell ?_ ?_ _) | (with_reducible refine below_put ?_ ?_ _) | (with_reducible refine Below.drew ?_) | (with_reducible refine below_drewN_ ?_ _) | (with_reducible refine le_drewN ?_ _) | (with_reducible refine over_le _ _ _ ?_) | (with_reducible refine le_alloc ?_ _) | (with_reducible refine le_setCell ?_ _ _) | (with_reducible refine le_put ?_ _ _) | (with_reducible refine le_drew ?_) | dsimp only | omega | ((try simp only [World.size_alloc, World.size_setCell, World.size_drew, size_put]); omega) | (simp; done))))
      · go_round
        case rel => exact ⟨k + 1, by omega, by go_num, Lib.hid (by go_light; rw [← Hl.out, Hx.out]; clear Hx Hl Hr; simp_all [hasF])⟩
        case measure => simp [intOf]; omega
    · go_wp2
      go_ret
      exact gives_of (ret_bool (by rw [← Hl.out, Hr.out.done_ hlt]; rfl)) (by go_light; (repeat' (first | (with_reducible exact Below.refl _ _) | (with_reducible exact Nat.le_refl _) | (with_reducible assumption) | (with_reducible refine below_step ?_ ?_ hr) | (with_reducible refine below_over ?_ ?_ _) | (with_reducible refine Below.alloc ?_ ?_ _) | (with_reducible refine Below.setCell ?_ ?_ _) | (with_reducible refine below_put ?_ ?_ _) | (with_reducible refine Below.drew ?_) | (with_reducible refine below_drewN_ ?_ _) | (with_reducible refine le_drewN ?_ _) | (with_reducible refine over_le _ _ _ ?_) | (with_reducible refine le_alloc ?_ _) | (with_reducible refine le_setCell ?_ _ _) | (with_reducible refine le_put ?_ _ _) | (with_reducible refine le_drew ?_) | dsimp only | omega | ((try simp only [World.size_alloc, World.size_setCell, World.size_drew, size_put]); omega) | (simp; done))))

def mostF (k : Int) : Int := if k = 0 then 604800 else 100
def rangeBad (p : PD) : Bool := decide (p.id < 1) || (decide (9999 < p.id) || ((!(p.kind == 0) && (!(p.kind == 1) && !(p.kind == 2))) || (decide (p.units < 1) || (decide (mostF p.kind < p.units) || (decide (p.least < 0) || (decide (120 < p.least) || (decide (p.most < 0) || (decide (120 < p.most) || (decide (p.price < 0) || decide (100000000 < p.price))))))))))
def twiceF (id : Int) : List PD → Bool
  | [] => false
  | p :: r => if p.id = id then true else twiceF id r
def argBad (p : PD) : Bool := p.ops.isEmpty || (!(hoursF p.hours) || (decide (p.sf < 0) || (decide (p.st ≤ p.sf) || decide (20000000 < p.st))))
def incL : Option Int → List Int → Bool
  | _, [] => true
  | none, x :: r => if x < 1 ∨ 8 < x then false else incL (some x) r
  | some y, x :: r => if (x < 1 ∨ 8 < x) ∨ x ≤ y then false else incL (some x) r
def oneF (p : PD) (es : List PD) : Int :=
  if rangeBad p = true then 2 else if twiceF p.id es = true then 7 else if p.most < p.least then 11 else if argBad p = true then 1 else if incL none p.ops = true then 0 else 1

theorem Rd.pd {w : World} {s : Sl} {xs : List PD} (h : Rd w PD.enc s xs) {k : Nat} (hk : k < s.n) : ∃ b off x, s.a = some ⟨b, off, none⟩ ∧ b < w.heap.size ∧ Hid (xs.drop k = x :: xs.drop (k + 1)) ∧ Hid (xs[k]? = some x) ∧
    w.cell? ⟨b, off + k * 10, none⟩ = some (.int .i64 x.id) ∧ w.cell? ⟨b, off + k * 10 + 1, none⟩ = some (.int .i64 x.kind) ∧ w.cell? ⟨b, off + k * 10 + 2, none⟩ = some (.int .i64 x.units) ∧
    w.cell? ⟨b, off + k * 10 + 3, none⟩ = some (.int .i64 x.least) ∧ w.cell? ⟨b, off + k * 10 + 4, none⟩ = some (.int .i64 x.most) ∧ w.cell? ⟨b, off + k * 10 + 5, none⟩ = some (.slice x.so.a x.so.n x.so.c) ∧
    w.cell? ⟨b, off + k * 10 + 6, none⟩ = some (.slice x.sh.a x.sh.n x.sh.c) ∧ w.cell? ⟨b, off + k * 10 + 7, none⟩ = some (.int .i64 x.sf) ∧ w.cell? ⟨b, off + k * 10 + 8, none⟩ = some (.int .i64 x.st) ∧ w.cell? ⟨b, off + k * 10 + 9, none⟩ = some (.int .i64 x.price) := by
  obtain ⟨b, off, x, e, hb, h1, h2, hc⟩ := h.step hk
  exact ⟨b, off, x, e, hb, h1, h2, hc 0 _ rfl, hc 1 _ rfl, hc 2 _ rfl, hc 3 _ rfl, hc 4 _ rfl, hc 5 _ rfl, hc 6 _ rfl, hc 7 _ rfl, hc 8 _ rfl, hc 9 _ rfl⟩

theorem kind4 (k : Int) : k = 0 ∨ k = 1 ∨ k = 2 ∨ ((k != 0) = true ∧ (k != 1) = true ∧ (k != 2) = true) := by
  by_cases h0 : k = 0
  · exact .inl h0
  by_cases h1 : k = 1
  · exact .inr (.inl h1)
  by_cases h2 : k = 2
  · exact .inr (.inr (.inl h2))
  exact .inr (.inr (.inr ⟨by simp [h0], by simp [h1], by simp [h2]⟩))
theorem range_facts {p : PD} (h : rangeBad p = false) : 1 ≤ p.id ∧ p.id ≤ 9999 ∧ (p.kind = 0 ∨ p.kind = 1 ∨ p.kind = 2) ∧ 1 ≤ p.units ∧ p.units ≤ mostF p.kind ∧ 0 ≤ p.least ∧ p.least ≤ 120 ∧ 0 ≤ p.most ∧ p.most ≤ 120 ∧ 0 ≤ p.price ∧ p.price ≤ 100000000 := by
  simp [rangeBad] at h
  obtain ⟨h1, h2, h3, h4, h5, h6, h7, h8, h9, h10, h11⟩ := h
  refine ⟨h1, h2, ?_, h4, h5, h6, h7, h8, h9, h10, h11⟩
  by_cases a : p.kind = 0
  · exact .inl a
  by_cases b : p.kind = 1
  · exact .inr (.inl b)
  · exact .inr (.inr (h3 a b))
end Go.Proofs.YtfajjgkhanjcfaaGreat
