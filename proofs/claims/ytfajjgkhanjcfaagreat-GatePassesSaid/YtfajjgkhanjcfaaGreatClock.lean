/- The clock's functions and the reference's: each returns what the plain function of the same name computes, and only makes memory. No conditions beyond what the types give. -/
import Derived.Test.YtfajjgkhanjcfaaGreatRows
import Derived.Test.YtfajjgkhanjcfaaGreatMA
namespace Go.Proofs.YtfajjgkhanjcfaaGreat
set_option linter.unusedSimpArgs false
set_option linter.unusedVariables false
open Go.RowKit

def isTimeB (t : Int) : Bool := decide (0 ≤ t) && decide (t ≤ 20000000)
def dayF (t : Int) : Int := if isTimeB t = true then t / 86400 else -1
def secF (t : Int) : Int := if isTimeB t = true then t % 86400 else -1
def wkF (t : Int) : Int := if isTimeB t = true then t / 86400 % 7 else -1
def bitF (a k : Int) : Bool := bits BinOp.and IntKind.i64 (a / 2 ^ k.toNat) 1 == 1
theorem isTimeB_t {t : Int} (h1 : 0 ≤ t) (h2 : t ≤ 20000000) : isTimeB t = true := by simp [isTimeB, h1, h2]
theorem isTimeB_f {t : Int} (h : ¬ (0 ≤ t ∧ t ≤ 20000000)) : isTimeB t = false := by simp [isTimeB]; omega

structure Hrs where
  days : Int
  from_ : Int
  till : Int
abbrev Hrs.val (h : Hrs) : Value := .agg #[.int .i64 h.days, .int .i64 h.from_, .int .i64 h.till]
def Hrs.enc (h : Hrs) : List Value := [.int .i64 h.days, .int .i64 h.from_, .int .i64 h.till]
def Hrs.on (h : Hrs) (t : Int) : Bool := bitF h.days (dayF t % 7) && (decide (h.from_ ≤ secF t) && decide (secF t < h.till))
def inL (t : Int) : List Hrs → Bool
  | [] => false
  | h :: r => if h.on t = true then true else inL t r
def inF (hs : List Hrs) (t : Int) : Bool := isTimeB t && inL t hs
def Hrs.ok (h : Hrs) : Bool := decide (1 ≤ h.days) && (decide (h.days ≤ 127) && (decide (0 ≤ h.from_) && (decide (h.from_ < h.till) && decide (h.till ≤ 86400))))
def okL : List Hrs → Bool
  | [] => true
  | h :: r => if h.ok = true then okL r else false
def hoursF (hs : List Hrs) : Bool := okL hs && decide (hs.length ≤ 16)

theorem Rd.hrs {w : World} {s : Sl} {xs : List Hrs} (h : Rd w Hrs.enc s xs) {k : Nat} (hk : k < s.n) : ∃ b off x, s.a = some ⟨b, off, none⟩ ∧ b < w.heap.size ∧ Hid (xs.drop k = x :: xs.drop (k + 1)) ∧ Hid (xs[k]? = some x) ∧
    w.cell? ⟨b, off + k * 3, none⟩ = some (.int .i64 x.days) ∧ w.cell? ⟨b, off + k * 3 + 1, none⟩ = some (.int .i64 x.from_) ∧ w.cell? ⟨b, off + k * 3 + 2, none⟩ = some (.int .i64 x.till) := by
  obtain ⟨b, off, x, e, hb, h1, h2, hc⟩ := h.step hk
  exact ⟨b, off, x, e, hb, h1, h2, hc 0 _ rfl, hc 1 _ rfl, hc 2 _ rfl⟩

set_option maxRecDepth 100000 in
set_option maxHeartbeats 400000 in
theorem clock_isTime (t : Int) (w : World) : Calls Tryz.prog 58 #[.int .i64 t] w fun e w' => e = .returned (.bool (isTimeB t)) ∧ w = w' := by
  (go_enter Tryz.func58, Tryz.ntmps58; try dsimp only [List.append])
  go_wp2
  all_goals go_ret
  · exact ⟨by simp [isTimeB, *], rfl⟩
  · exact ⟨by simp [isTimeB]; omega, rfl⟩
set_option maxRecDepth 100000 in
set_option maxHeartbeats 400000 in
theorem ref02_time (t : Int) (w : World) : Calls Tryz.prog 67 #[.int .i64 t] w fun e w' => e = .returned (.bool (isTimeB t)) ∧ w = w' := by
  (go_enter Tryz.func67, Tryz.ntmps67; try dsimp only [List.append])
  go_wp2
  all_goals go_ret
  · exact ⟨by simp [isTimeB, *], rfl⟩
  · exact ⟨by simp [isTimeB]; omega, rfl⟩
set_option maxRecDepth 100000 in
set_option maxHeartbeats 400000 in
theorem clock_Day (t : Int) (w : World) : Calls Tryz.prog 36 #[.int .i64 t] w fun e w' => e = .returned (.int .i64 (dayF t)) ∧ w = w' := by
  by_cases h : 0 ≤ t ∧ t ≤ 20000000
  · obtain ⟨h1, h2⟩ := h
    have hb := isTimeB_t h1 h2
    (go_enter Tryz.func36, Tryz.ntmps36; try dsimp only [List.append])
    go_wp2_with (go_at_call 58; refine (clock_isTime _ _).mono ?_; rintro e w' ⟨rfl, rfl⟩)
    go_ret
    exact ⟨by simp [dayF, hb], rfl⟩
  · have hb := isTimeB_f h
    (go_enter Tryz.func36, Tryz.ntmps36; try dsimp only [List.append])
    go_wp2_with (go_at_call 58; refine (clock_isTime _ _).mono ?_; rintro e w' ⟨rfl, rfl⟩)
    go_ret
    exact ⟨by simp [dayF, hb], rfl⟩
set_option maxRecDepth 100000 in
set_option maxHeartbeats 400000 in
theorem ref02_Day (t : Int) (w : World) : Calls Tryz.prog 44 #[.int .i64 t] w fun e w' => e = .returned (.int .i64 (dayF t)) ∧ w = w' := by
  by_cases h : 0 ≤ t ∧ t ≤ 20000000
  · obtain ⟨h1, h2⟩ := h
    have hb := isTimeB_t h1 h2
    (go_enter Tryz.func44, Tryz.ntmps44; try dsimp only [List.append])
    go_wp2_with (go_at_call 67; refine (ref02_time _ _).mono ?_; rintro e w' ⟨rfl, rfl⟩)
    go_ret
    exact ⟨by simp [dayF, hb], rfl⟩
  · have hb := isTimeB_f h
    (go_enter Tryz.func44, Tryz.ntmps44; try dsimp only [List.append])
    go_wp2_with (go_at_call 67; refine (ref02_time _ _).mono ?_; rintro e w' ⟨rfl, rfl⟩)
    go_ret
    exact ⟨by simp [dayF, hb], rfl⟩
set_option maxRecDepth 100000 in
set_option maxHeartbeats 400000 in
theorem clock_Second (t : Int) (w : World) : Calls Tryz.prog 86 #[.int .i64 t] w fun e w' => e = .returned (.int .i64 (secF t)) ∧ w = w' := by
  by_cases h : 0 ≤ t ∧ t ≤ 20000000
  · obtain ⟨h1, h2⟩ := h
    have hb := isTimeB_t h1 h2
    (go_enter Tryz.func86, Tryz.ntmps86; try dsimp only [List.append])
    go_wp2_with (go_at_call 58; refine (clock_isTime _ _).mono ?_; rintro e w' ⟨rfl, rfl⟩)
    go_ret
    exact ⟨by simp [secF, hb], rfl⟩
  · have hb := isTimeB_f h
    (go_enter Tryz.func86, Tryz.ntmps86; try dsimp only [List.append])
    go_wp2_with (go_at_call 58; refine (clock_isTime _ _).mono ?_; rintro e w' ⟨rfl, rfl⟩)
    go_ret
    exact ⟨by simp [secF, hb], rfl⟩
set_option maxRecDepth 100000 in
set_option maxHeartbeats 400000 in
theorem ref02_Second (t : Int) (w : World) : Calls Tryz.prog 89 #[.int .i64 t] w fun e w' => e = .returned (.int .i64 (secF t)) ∧ w = w' := by
  by_cases h : 0 ≤ t ∧ t ≤ 20000000
  · obtain ⟨h1, h2⟩ := h
    have hb := isTimeB_t h1 h2
    (go_enter Tryz.func89, Tryz.ntmps89; try dsimp only [List.append])
    go_wp2_with (go_at_call 67; refine (ref02_time _ _).mono ?_; rintro e w' ⟨rfl, rfl⟩)
    go_ret
    exact ⟨by simp [secF, hb], rfl⟩
  · have hb := isTimeB_f h
    (go_enter Tryz.func89, Tryz.ntmps89; try dsimp only [List.append])
    go_wp2_with (go_at_call 67; refine (ref02_time _ _).mono ?_; rintro e w' ⟨rfl, rfl⟩)
    go_ret
    exact ⟨by simp [secF, hb], rfl⟩
set_option maxRecDepth 100000 in
set_option maxHeartbeats 400000 in
theorem ref02_Weekday (t : Int) (w : World) : Calls Tryz.prog 88 #[.int .i64 t] w fun e w' => e = .returned (.int .i64 (wkF t)) ∧ w = w' := by
  by_cases h : 0 ≤ t ∧ t ≤ 20000000
  · obtain ⟨h1, h2⟩ := h
    have hb := isTimeB_t h1 h2
    (go_enter Tryz.func88, Tryz.ntmps88; try dsimp only [List.append])
    go_wp2_with (go_at_call 67; refine (ref02_time _ _).mono ?_; rintro e w' ⟨rfl, rfl⟩)
    go_ret
    exact ⟨by simp [wkF, hb], rfl⟩
  · have hb := isTimeB_f h
    (go_enter Tryz.func88, Tryz.ntmps88; try dsimp only [List.append])
    go_wp2_with (go_at_call 67; refine (ref02_time _ _).mono ?_; rintro e w' ⟨rfl, rfl⟩)
    go_ret
    exact ⟨by simp [wkF, hb], rfl⟩
set_option maxRecDepth 100000 in
set_option maxHeartbeats 400000 in
theorem clock_on (h : Hrs) (d : Int) (w : World) (h0 : 0 ≤ d) : Calls Tryz.prog 85 #[h.val, .int .i64 d] w (Gives (.bool (bitF h.days (d % 7))) w) := by
  (go_enter Tryz.func85, Tryz.ntmps85; try dsimp only [List.append])
  go_wp2
  go_ret
  exact gives_of rfl (by (repeat' (first | (with_reducible exact Below.refl _ _) | (with_reducible exact Nat.le_refl _) | (with_reducible assumption) | (with_reducible refine below_step ?_ ?_ hr) | (with_reducible refine below_over ?_ ?_ _) | (with_reducible refine Below.alloc ?_ ?_ _) | (with_reducible refine Below.setCell ?_ ?_ _) | (with_reducible refine below_put ?_ ?_ _) | (with_reducible refine Below.drew ?_) | (with_reducible refine below_drewN_ ?_ _) | (with_reducible refine le_drewN ?_ _) | (with_reducible refine over_le _ _ _ ?_) | (with_reducible refine le_alloc ?_ _) | (with_reducible refine le_setCell ?_ _ _) | (with_reducible refine le_put ?_ _ _) | (with_reducible refine le_drew ?_) | dsimp only | omega | ((try simp only [World.size_alloc, World.size_setCell, World.size_drew, size_put]); omega) | (simp; done))))
set_option maxRecDepth 100000 in
set_option maxHeartbeats 400000 in
theorem ref02_on (a d : Int) (w : World) (h0 : 0 ≤ d) (h1 : d ≤ 6) : Calls Tryz.prog 87 #[.int .i64 a, .int .i64 d] w fun e w' => e = .returned (.bool (bitF a d)) ∧ w = w' := by
  (go_enter Tryz.func87, Tryz.ntmps87; try dsimp only [List.append])
  go_wp2
  go_ret
  exact ⟨rfl, rfl⟩
set_option maxRecDepth 100000 in
set_option maxHeartbeats 800000 in
theorem clock_In (s : Sl) (hs : List Hrs) (t : Int) (w : World) (hr : Rd w Hrs.enc s hs) : Calls Tryz.prog 76 #[s.val, .int .i64 t] w (Gives (.bool (inF hs t)) w) := by
  obtain ⟨A, n, c⟩ := s
  have hmax : n ≤ 9223372036854775807 := hr.bound
  have Hr := Lib.hid hr
  clear hr
  simp only [Sl.val]
  by_cases h : 0 ≤ t ∧ t ≤ 20000000
  · obtain ⟨h1, h2⟩ := h
    have hb := isTimeB_t h1 h2
    (go_enter Tryz.func76, Tryz.ntmps76; try dsimp only [List.append])
    go_wp2_with (go_at_call 58; refine (clock_isTime _ _).mono ?_; rintro e w' ⟨rfl, rfl⟩)
    go_loopw [6, 12] (fun _ i wr => ∃ k : Nat, k ≤ n ∧ i = .int .i64 k ∧ Hid (inL t (hs.drop k) = inL t hs) ∧ ∃ x, wr = Over w x) (fun _ i _ => n - (intOf i).toNat)
    case atStart => exact ⟨0, Nat.zero_le _, rfl, rfl, over_ex (Below.refl _ _)⟩
    case round =>
      obtain ⟨k, hk, rfl, Hl, x0, rfl⟩ := hrel
      by_cases hlt : k < n
      · obtain ⟨b, off, x, rfl, hbw, Hx, -, hc0, hc1, hc2⟩ := Hr.out.hrs hlt
        have hd : 0 ≤ dayF t := by simp only [dayF, hb, if_true]; omega
        go_wp2_with fail
        all_goals refine wp_region_over (by kernel_rfl) (by kernel_rfl) ?_
        repeat (any_goals (first | go_big_quiet_step ((first | (go_at_call 36; exact quiet_same (clock_Day _ _)) | (go_at_call 85; exact quiet_gives (clock_on x _ _ hd)) | (go_at_call 86; exact quiet_same (clock_Second _ _)))) | (refine wpQuiet_step (fun K hK => ?_); go_simp; split <;> (refine hK _ ?_; clear hK K)) | quiet_step ((first | (go_at_call 36; exact quiet_same (clock_Day _ _)) | (go_at_call 85; exact quiet_gives (clock_on x _ _ hd)) | (go_at_call 86; exact quiet_same (clock_Second _ _))))))
        all_goals (refine wpQuiet_nil ?_; intro _ hw'; obtain ⟨xq, hw''⟩ := hw'; have hz := size_of hw''; (try simp only [World.size_alloc, World.size_setCell, World.size_drew] at hz); subst hw'')
        all_goals go_wp2
        all_goals first
          | (go_ret
             refine gives_of (ret_bool ?_) ?_
             · go_light; rw [inF, hb, ← Hl.out, Hx.out]; clear Hl Hx Hr; simp_all [inL, Hrs.on]
             · go_light; (repeat' (first | (with_reducible exact Below.refl _ _) | (with_reducible exact Nat.le_refl _) | (with_reducible assumption) | (with_reducible refine below_step ?_ ?_ hr) | (with_reducible refine below_over ?_ ?_ _) | (with_reducible refine Below.alloc ?_ ?_ _) | (with_reducible refine Below.setCell ?_ ?_ _) | (with_reducible refine below_put ?_ ?_ _) | (with_reducible refine Below.drew ?_) | (with_reducible refine below_drewN_ ?_ _) | (with_reducible refine le_drewN ?_ _) | (with_reducible refine over_le _ _ _ ?_) | (with_reducible refine le_alloc ?_ _) | (with_reducible refine le_setCell ?_ _ _) | (with_reducible refine le_put ?_ _ _) | (with_reducible refine le_drew ?_) | dsimp only | omega | ((try simp only [World.size_alloc, World.size_setCell, World.size_drew, size_put]); omega) | (simp; done))))
          | (go_roundw
             case rel =>
               refine ⟨k + 1, by omega, by go_num, Lib.hid ?_, ?_⟩
               · go_light; rw [← Hl.out, Hx.out]; clear Hl Hx Hr; simp_all [inL, Hrs.on] <;> (intros; omega)
               · go_light; exact over_ex (by (repeat' (first | (with_reducible exact Below.refl _ _) | (with_reducible exact Nat.le_refl _) | (with_reducible assumption) | (with_reducible refine below_step ?_ ?_ hr) | (with_reducible refine below_over ?_ ?_ _) | (with_reducible refine Below.alloc ?_ ?_ _) | (with_reducible refine Below.setCell ?_ ?_ _) | (with_reducible refine below_put ?_ ?_ _) | (with_reducible refine Below.drew ?_) | (with_reducible refine below_drewN_ ?_ _) | (with_reducible refine le_drewN ?_ _) | (with_reducible refine over_le _ _ _ ?_) | (with_reducible refine le_alloc ?_ _) | (with_reducible refine le_setCell ?_ _ _) | (with_reducible refine le_put ?_ _ _) | (with_reducible refine le_drew ?_) | dsimp only | omega | ((try simp only [World.size_alloc, World.size_setCell, World.size_drew, size_put]); omega) | (simp; done))))
             case measure => simp [intOf]; omega)
      · go_wp2
        go_ret
        exact gives_of (ret_bool (by rw [inF, hb, ← Hl.out, Hr.out.done_ hlt]; rfl)) (over_below _ _)
  · have hb := isTimeB_f h
    (go_enter Tryz.func76, Tryz.ntmps76; try dsimp only [List.append])
    go_wp2_with (go_at_call 58; refine (clock_isTime _ _).mono ?_; rintro e w' ⟨rfl, rfl⟩)
    go_ret
    exact gives_of (ret_bool (by rw [inF, hb]; rfl)) (Below.refl _ _)
set_option maxRecDepth 100000 in
set_option maxHeartbeats 800000 in
theorem ref02_In (s : Sl) (hs : List Hrs) (t : Int) (w : World) (hr : Rd w Hrs.enc s hs) : Calls Tryz.prog 79 #[s.val, .int .i64 t] w (Gives (.bool (inF hs t)) w) := by
  obtain ⟨A, n, c⟩ := s
  have hmax : n ≤ 9223372036854775807 := hr.bound
  have Hr := Lib.hid hr
  clear hr
  simp only [Sl.val]
  by_cases h : 0 ≤ t ∧ t ≤ 20000000
  · obtain ⟨h1, h2⟩ := h
    have hb := isTimeB_t h1 h2
    have hw0 : 0 ≤ wkF t := by simp only [wkF, hb, if_true]; omega
    have hw6 : wkF t ≤ 6 := by simp only [wkF, hb, if_true]; omega
    have Hw : Hid (wkF t = dayF t % 7) := by simp only [Hid, wkF, dayF, hb, if_true]
    (go_enter Tryz.func79, Tryz.ntmps79; try dsimp only [List.append])
    go_wp2_with (go_at_call 67; refine (ref02_time _ _).mono ?_; rintro e w' ⟨rfl, rfl⟩)
    go_loopw [5] (fun i wr => ∃ k : Nat, k ≤ n ∧ i = .int .i64 k ∧ Hid (inL t (hs.drop k) = inL t hs) ∧ ∃ x, wr = Over w x) (fun i _ => n - (intOf i).toNat)
    case atStart => exact ⟨0, Nat.zero_le _, rfl, rfl, over_ex (Below.refl _ _)⟩
    case round =>
      obtain ⟨k, hk, rfl, Hl, x0, rfl⟩ := hrel
      by_cases hlt : k < n
      · obtain ⟨b, off, x, rfl, hbw, Hx, -, hc0, hc1, hc2⟩ := Hr.out.hrs hlt
        go_wp2_with fail
        all_goals refine wp_region_over (by kernel_rfl) (by kernel_rfl) ?_
        repeat (any_goals (first | go_big_quiet_step ((first | (go_at_call 88; exact quiet_same (ref02_Weekday _ _)) | (go_at_call 87; exact quiet_same (ref02_on _ _ _ hw0 hw6)) | (go_at_call 89; exact quiet_same (ref02_Second _ _)))) | (refine wpQuiet_step (fun K hK => ?_); go_simp; split <;> (refine hK _ ?_; clear hK K)) | quiet_step ((first | (go_at_call 88; exact quiet_same (ref02_Weekday _ _)) | (go_at_call 87; exact quiet_same (ref02_on _ _ _ hw0 hw6)) | (go_at_call 89; exact quiet_same (ref02_Second _ _))))))
        all_goals (refine wpQuiet_nil ?_; intro _ hw'; obtain ⟨xq, hw''⟩ := hw'; have hz := size_of hw''; (try simp only [World.size_alloc, World.size_setCell, World.size_drew] at hz); subst hw'')
        all_goals go_wp2
        all_goals first
          | (go_ret
             refine gives_of (ret_bool ?_) ?_
             · go_light; rw [inF, hb, ← Hl.out, Hx.out]; rw [Hw.out] at *; clear Hl Hx Hr Hw; simp_all [inL, Hrs.on]
             · go_light; (repeat' (first | (with_reducible exact Below.refl _ _) | (with_reducible exact Nat.le_refl _) | (with_reducible assumption) | (with_reducible refine below_step ?_ ?_ hr) | (with_reducible refine below_over ?_ ?_ _) | (with_reducible refine Below.alloc ?_ ?_ _) | (with_reducible refine Below.setCell ?_ ?_ _) | (with_reducible refine below_put ?_ ?_ _) | (with_reducible refine Below.drew ?_) | (with_reducible refine below_drewN_ ?_ _) | (with_reducible refine le_drewN ?_ _) | (with_reducible refine over_le _ _ _ ?_) | (with_reducible refine le_alloc ?_ _) | (with_reducible refine le_setCell ?_ _ _) | (with_reducible refine le_put ?_ _ _) | (with_reducible refine le_drew ?_) | dsimp only | omega | ((try simp only [World.size_alloc, World.size_setCell, World.size_drew, size_put]); omega) | (simp; done))))
          | (go_roundw
             case rel =>
               refine ⟨k + 1, by omega, by go_num, Lib.hid ?_, ?_⟩
               · go_light; rw [← Hl.out, Hx.out]; rw [Hw.out] at *; clear Hl Hx Hr Hw; simp_all [inL, Hrs.on] <;> (intros; omega)
               · go_light; exact over_ex (by (repeat' (first | (with_reducible exact Below.refl _ _) | (with_reducible exact Nat.le_refl _) | (with_reducible assumption) | (with_reducible refine below_step ?_ ?_ hr) | (with_reducible refine below_over ?_ ?_ _) | (with_reducible refine Below.alloc ?_ ?_ _) | (with_reducible refine Below.setCell ?_ ?_ _) | (with_reducible refine below_put ?_ ?_ _) | (with_reducible refine Below.drew ?_) | (with_reducible refine below_drewN_ ?_ _) | (with_reducible refine le_drewN ?_ _) | (with_reducible refine over_le _ _ _ ?_) | (with_reducible refine le_alloc ?_ _) | (with_reducible refine le_setCell ?_ _ _) | (with_reducible refine le_put ?_ _ _) | (with_reducible refine le_drew ?_) | dsimp only | omega | ((try simp only [World.size_alloc, World.size_setCell, World.size_drew, size_put]); omega) | (simp; done))))
             case measure => simp [intOf]; omega)
      · go_wp2
        go_ret
        exact gives_of (ret_bool (by rw [inF, hb, ← Hl.out, Hr.out.done_ hlt]; rfl)) (over_below _ _)
  · have hb := isTimeB_f h
    (go_enter Tryz.func79, Tryz.ntmps79; try dsimp only [List.append])
    go_wp2_with (go_at_call 67; refine (ref02_time _ _).mono ?_; rintro e w' ⟨rfl, rfl⟩)
    go_ret
    exact gives_of (ret_bool (by rw [inF, hb]; rfl)) (Below.refl _ _)
set_option maxRecDepth 100000 in
set_option maxHeartbeats 800000 in
theorem ref02_Right (s : Sl) (hs : List Hrs) (w : World) (hr : Rd w Hrs.enc s hs) : Calls Tryz.prog 57 #[s.val] w (Gives (.bool (hoursF hs)) w) := by
  obtain ⟨A, n, c⟩ := s
  have hmax : n ≤ 9223372036854775807 := hr.bound
  have Hr := Lib.hid hr
  clear hr
  simp only [Sl.val]
  by_cases h : n ≤ 16
  · (go_enter Tryz.func57, Tryz.ntmps57; try dsimp only [List.append])
    go_wp2
    go_loopw [3] (fun i wr => ∃ k : Nat, k ≤ n ∧ i = .int .i64 k ∧ Hid (okL (hs.drop k) = okL hs) ∧ ∃ x, wr = Over w x) (fun i _ => n - (intOf i).toNat)
    case atStart => exact ⟨0, Nat.zero_le _, rfl, rfl, over_ex (Below.refl _ _)⟩
    case round =>
      obtain ⟨k, hk, rfl, Hl, x0, rfl⟩ := hrel
      by_cases hlt : k < n
      · obtain ⟨b, off, x, rfl, hbw, Hx, -, hc0, hc1, hc2⟩ := Hr.out.hrs hlt
        go_wp2_with fail
        all_goals refine wp_region_over (by kernel_rfl) (by kernel_rfl) ?_
        repeat (any_goals (first | go_big_quiet_step ((fail)) | (refine wpQuiet_step (fun K hK => ?_); go_simp; split <;> (refine hK _ ?_; clear hK K)) | quiet_step ((fail))))
        all_goals (refine wpQuiet_nil ?_; intro _ hw'; obtain ⟨xq, hw''⟩ := hw'; have hz := size_of hw''; (try simp only [World.size_alloc, World.size_setCell, World.size_drew] at hz); subst hw'')
        all_goals go_wp2
        all_goals first
          | (go_ret
             refine gives_of (ret_bool ?_) ?_
             · go_light; rw [hoursF, ← Hl.out, Hx.out]; clear Hl Hx Hr; simp_all [okL, Hrs.ok] <;> (intros; omega)
             · go_light; (repeat' (first | (with_reducible exact Below.refl _ _) | (with_reducible exact Nat.le_refl _) | (with_reducible assumption) | (with_reducible refine below_step ?_ ?_ hr) | (with_reducible refine below_over ?_ ?_ _) | (with_reducible refine Below.alloc ?_ ?_ _) | (with_reducible refine Below.setCell ?_ ?_ _) | (with_reducible refine below_put ?_ ?_ _) | (with_reducible refine Below.drew ?_) | (with_reducible refine below_drewN_ ?_ _) | (with_reducible refine le_drewN ?_ _) | (with_reducible refine over_le _ _ _ ?_) | (with_reducible refine le_alloc ?_ _) | (with_reducible refine le_setCell ?_ _ _) | (with_reducible refine le_put ?_ _ _) | (with_reducible refine le_drew ?_) | dsimp only | omega | ((try simp only [World.size_alloc, World.size_setCell, World.size_drew, size_put]); omega) | (simp; done))))
          | (go_roundw
             case rel =>
               refine ⟨k + 1, by omega, by go_num, Lib.hid ?_, ?_⟩
               · go_light; rw [← Hl.out, Hx.out]; clear Hl Hx Hr; simp_all [okL, Hrs.ok] <;> (intros; omega)
               · go_light; exact over_ex (by (repeat' (first | (with_reducible exact Below.refl _ _) | (with_reducible exact Nat.le_refl _) | (with_reducible assumption) | (with_reducible refine below_step ?_ ?_ hr) | (with_reducible refine below_over ?_ ?_ _) | (with_reducible refine Below.alloc ?_ ?_ _) | (with_reducible refine Below.setCell ?_ ?_ _) | (with_reducible refine below_put ?_ ?_ _) | (with_reducible refine Below.drew ?_) | (with_reducible refine below_drewN_ ?_ _) | (with_reducible refine le_drewN ?_ _) | (with_reducible refine over_le _ _ _ ?_) | (with_reducible refine le_alloc ?_ _) | (with_reducible refine le_setCell ?_ _ _) | (with_reducible refine le_put ?_ _ _) | (with_reducible refine le_drew ?_) | dsimp only | omega | ((try simp only [World.size_alloc, World.size_setCell, World.size_drew, size_put]); omega) | (simp; done))))
             case measure => simp [intOf]; omega)
      · go_wp2
        go_ret
        exact gives_of (ret_bool (by rw [hoursF, ← Hl.out, Hr.out.done_ hlt, Hr.out.len]; simp [okL, h])) (over_below _ _)
  · (go_enter Tryz.func57, Tryz.ntmps57; try dsimp only [List.append])
    go_wp2
    go_ret
    exact gives_of (ret_bool (by rw [hoursF, Hr.out.len]; simp [h])) (Below.refl _ _)
end Go.Proofs.YtfajjgkhanjcfaaGreat
