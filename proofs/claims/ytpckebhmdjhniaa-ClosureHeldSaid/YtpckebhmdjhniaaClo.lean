/- Closures: keys, ranges, the search of a key; Right, of the program and of the reference. -/
import Derived.Test.YtpckebhmdjhniaaOwnI
import Derived.Test.YtpckebhmdjhniaaArgs
import Derived.Laws.StructEq
namespace Go.Proofs.Ytpckebhmdjhniaa
set_option linter.unusedSimpArgs false
set_option linter.unusedVariables false
open Go.RowKit
structure KV where
  kind : Int
  target : Int
  by_ : Int
deriving DecidableEq
abbrev KV.val (q : KV) : Value := .agg #[.int .i64 q.kind, .int .i64 q.target, .int .i64 q.by_]
structure CV where
  kind : Int
  target : Int
  by_ : Int
  since : Int
deriving DecidableEq
abbrev CV.val (r : CV) : Value := .agg #[.int .i64 r.kind, .int .i64 r.target, .int .i64 r.by_, .int .i64 r.since]
def CV.enc (r : CV) : List Value := [.int .i64 r.kind, .int .i64 r.target, .int .i64 r.by_, .int .i64 r.since]
def CV.key (c : CV) : KV := ⟨c.kind, c.target, c.by_⟩
theorem Rd.cv {w : World} {s : Sl} {xs : List CV} (h : Rd w CV.enc s xs) {k : Nat} (hk : k < s.n) : ∃ b off x, s.a = some ⟨b, off, none⟩ ∧ b < w.heap.size ∧ Hid (xs.drop k = x :: xs.drop (k + 1)) ∧ Hid (xs[k]? = some x) ∧
    w.cell? ⟨b, off + k * 4, none⟩ = some (.int .i64 x.kind) ∧ w.cell? ⟨b, off + k * 4 + 1, none⟩ = some (.int .i64 x.target) ∧ w.cell? ⟨b, off + k * 4 + 2, none⟩ = some (.int .i64 x.by_) ∧ w.cell? ⟨b, off + k * 4 + 3, none⟩ = some (.int .i64 x.since) := by
  obtain ⟨b, off, x, e, hb, h1, h2, hc⟩ := h.step hk
  exact ⟨b, off, x, e, hb, h1, h2, hc 0 _ rfl, hc 1 _ rfl, hc 2 _ rfl, hc 3 _ rfl⟩
/-! Equal closures, equal keys. -/
def eqC (x y : CV) : Bool := x.kind == y.kind && (x.target == y.target && (x.by_ == y.by_ && x.since == y.since))
theorem eqC_iff (x y : CV) : eqC x y = true ↔ x = y := by
  obtain ⟨a, b, c, d⟩ := x
  obtain ⟨a', b', c', d'⟩ := y
  simp [eqC]
@[go_sem] theorem eqC_self (x : CV) : eqC x x = true := (eqC_iff x x).2 rfl
theorem eqC_ne {x y : CV} (h : ¬ x = y) : eqC x y = false := by
  cases h2 : eqC x y
  · rfl
  · exact absurd ((eqC_iff _ _).1 h2) h
@[go_sem high] theorem run_eqInC (x y : CV) (w : World) : (Op.equalIn 10000 28 (.agg #[.int .i64 x.kind, .int .i64 x.target, .int .i64 x.by_, .int .i64 x.since]) (.agg #[.int .i64 y.kind, .int .i64 y.target, .int .i64 y.by_, .int .i64 y.since])).run Try.prog w = .ok (eqC x y) w := by
  rw [run_equalIn_agg _ _ _ _ _ (by kernel_rfl) (by kernel_rfl)]
  simp [Program.fieldsOf, Try.underlying28, Op.eqFields, go_sem]
  by_cases h1 : x.kind = y.kind <;> by_cases h2 : x.target = y.target <;> by_cases h3 : x.by_ = y.by_ <;> by_cases h4 : x.since = y.since <;> simp [h1, h2, h3, h4, eqC]
@[go_sem high] theorem run_eqlC (x y : CV) (w : World) : (binOp .eql 28 (.agg #[.int .i64 x.kind, .int .i64 x.target, .int .i64 x.by_, .int .i64 x.since]) (.agg #[.int .i64 y.kind, .int .i64 y.target, .int .i64 y.by_, .int .i64 y.since])).run Try.prog w = .ok (.bool (eqC x y)) w := by
  rw [run_eql_struct, run_eqInC]
  rfl
@[go_sem high] theorem run_neqC (x y : CV) (w : World) : (binOp .neq 28 (.agg #[.int .i64 x.kind, .int .i64 x.target, .int .i64 x.by_, .int .i64 x.since]) (.agg #[.int .i64 y.kind, .int .i64 y.target, .int .i64 y.by_, .int .i64 y.since])).run Try.prog w = .ok (.bool (!eqC x y)) w := by
  rw [run_neq_struct, run_eqInC]
  rfl
@[go_sem high] theorem guard_eqC (op : BinOp) (x y : Operand) (xs ys : Array Value) (w : World) : (eqGuard op 28 x y (.agg xs) (.agg ys)).run Try.prog w = .ok () w := run_eqGuard_agg w op _ x y xs ys (by kernel_rfl)
def eqK (x y : KV) : Bool := x.kind == y.kind && (x.target == y.target && x.by_ == y.by_)
theorem eqK_iff (x y : KV) : eqK x y = true ↔ x = y := by
  obtain ⟨a, b, c⟩ := x
  obtain ⟨a', b', c'⟩ := y
  simp [eqK]
theorem eqK_t {x y : KV} (h : x = y) : eqK x y = true := (eqK_iff x y).2 h
theorem eqK_ne {x y : KV} (h : ¬ x = y) : eqK x y = false := by
  cases h2 : eqK x y
  · rfl
  · exact absurd ((eqK_iff _ _).1 h2) h
@[go_sem high] theorem run_eqInK (x y : KV) (w : World) : (Op.equalIn 10000 64 (.agg #[.int .i64 x.kind, .int .i64 x.target, .int .i64 x.by_]) (.agg #[.int .i64 y.kind, .int .i64 y.target, .int .i64 y.by_])).run Try.prog w = .ok (eqK x y) w := by
  rw [run_equalIn_agg _ _ _ _ _ (by kernel_rfl) (by kernel_rfl)]
  simp [Program.fieldsOf, Try.underlying64, Op.eqFields, go_sem]
  by_cases h1 : x.kind = y.kind <;> by_cases h2 : x.target = y.target <;> by_cases h3 : x.by_ = y.by_ <;> simp [h1, h2, h3, eqK]
@[go_sem high] theorem run_eqlK (x y : KV) (w : World) : (binOp .eql 64 (.agg #[.int .i64 x.kind, .int .i64 x.target, .int .i64 x.by_]) (.agg #[.int .i64 y.kind, .int .i64 y.target, .int .i64 y.by_])).run Try.prog w = .ok (.bool (eqK x y)) w := by
  rw [run_eql_struct, run_eqInK]
  rfl
@[go_sem high] theorem guard_eqK (op : BinOp) (x y : Operand) (xs ys : Array Value) (w : World) : (eqGuard op 64 x y (.agg xs) (.agg ys)).run Try.prog w = .ok () w := run_eqGuard_agg w op _ x y xs ys (by kernel_rfl)
/-! Ranges. -/
def mayF (c : CV) : Bool := decide (1 ≤ c.kind) && (decide (c.kind ≤ 3) && (decide (1 ≤ c.target) && (decide (c.target ≤ 9999) && (decide (1 ≤ c.by_) && (decide (c.by_ ≤ 6) && (decide (0 ≤ c.since) && decide (c.since ≤ 20000000)))))))
theorem may_of {c : CV} (h : mayF c = true) : 1 ≤ c.kind ∧ c.kind ≤ 3 ∧ 1 ≤ c.target ∧ c.target ≤ 9999 ∧ 1 ≤ c.by_ ∧ c.by_ ≤ 6 ∧ 0 ≤ c.since ∧ c.since ≤ 20000000 := by
  simp [mayF] at h; omega
set_option maxRecDepth 100000 in
set_option maxHeartbeats 800000 in
theorem closure_inRange (c : CV) (w : World) : Calls Try.prog 29 #[c.val] w (Gives (.bool (mayF c)) w) := by
  cases hm : mayF c
  · have HM := Lib.hid hm
    clear hm
    (go_enter Try.func29, Try.ntmps29; try dsimp only [List.append])
    go_wp2
    all_goals first
      | (exfalso; go_light; have h := HM.out; simp [mayF] at h; omega)
      | (go_ret; exact gives_of (ret_bool (by first | rfl | (simp; omega) | (go_light; have h := HM.out; simp [mayF] at h; simp; omega))) (by go_light; (repeat' (first | (with_reducible exact Below.refl _ _) | (with_reducible exact Nat.le_refl _) | (with_reducible assumption) | (with_reducible refine below_step ?_ ?_ hr) | (with_reducible refine below_over ?_ ?_ _) | (with_reducible refine Below.alloc ?_ ?_ _) | (with_reducible refine Below.setCell ?_ ?_ _) | (with_reducible refine below_put ?_ ?_ _) | (with_reducible refine Below.drew ?_) | (with_reducible refine below_drewN_ ?_ _) | (with_reducible refine le_drewN ?_ _) | (with_reducible refine over_le _ _ _ ?_) | (with_reducible refine le_alloc ?_ _) | (with_reducible refine le_setCell ?_ _ _) | (with_reducible refine le_put ?_ _ _) | (with_reducible refine le_drew ?_) | dsimp only | omega | ((try simp only [World.size_alloc, World.size_setCell, World.size_drew, size_put]); omega) | (simp; done)))))
  · obtain ⟨h1, h2, h3, h4, h5, h6, h7, h8⟩ := may_of hm
    clear hm
    (go_enter Try.func29, Try.ntmps29; try dsimp only [List.append])
    go_wp2
    go_ret
    exact gives_of rfl (by go_light; (repeat' (first | (with_reducible exact Below.refl _ _) | (with_reducible exact Nat.le_refl _) | (with_reducible assumption) | (with_reducible refine below_step ?_ ?_ hr) | (with_reducible refine below_over ?_ ?_ _) | (with_reducible refine Below.alloc ?_ ?_ _) | (with_reducible refine Below.setCell ?_ ?_ _) | (with_reducible refine below_put ?_ ?_ _) | (with_reducible refine Below.drew ?_) | (with_reducible refine below_drewN_ ?_ _) | (with_reducible refine le_drewN ?_ _) | (with_reducible refine over_le _ _ _ ?_) | (with_reducible refine le_alloc ?_ _) | (with_reducible refine le_setCell ?_ _ _) | (with_reducible refine le_put ?_ _ _) | (with_reducible refine le_drew ?_) | dsimp only | omega | ((try simp only [World.size_alloc, World.size_setCell, World.size_drew, size_put]); omega) | (simp; done))))
set_option maxRecDepth 100000 in
set_option maxHeartbeats 800000 in
theorem ref52_may (c : CV) (w : World) : Calls Try.prog 32 #[c.val] w (Gives (.bool (mayF c)) w) := by
  cases hm : mayF c
  · have HM := Lib.hid hm
    clear hm
    (go_enter Try.func32, Try.ntmps32; try dsimp only [List.append])
    go_wp2
    all_goals first
      | (exfalso; go_light; have h := HM.out; simp [mayF] at h; omega)
      | (go_ret; exact gives_of (ret_bool (by first | rfl | (simp; omega) | (go_light; have h := HM.out; simp [mayF] at h; simp; omega))) (by go_light; (repeat' (first | (with_reducible exact Below.refl _ _) | (with_reducible exact Nat.le_refl _) | (with_reducible assumption) | (with_reducible refine below_step ?_ ?_ hr) | (with_reducible refine below_over ?_ ?_ _) | (with_reducible refine Below.alloc ?_ ?_ _) | (with_reducible refine Below.setCell ?_ ?_ _) | (with_reducible refine below_put ?_ ?_ _) | (with_reducible refine Below.drew ?_) | (with_reducible refine below_drewN_ ?_ _) | (with_reducible refine le_drewN ?_ _) | (with_reducible refine over_le _ _ _ ?_) | (with_reducible refine le_alloc ?_ _) | (with_reducible refine le_setCell ?_ _ _) | (with_reducible refine le_put ?_ _ _) | (with_reducible refine le_drew ?_) | dsimp only | omega | ((try simp only [World.size_alloc, World.size_setCell, World.size_drew, size_put]); omega) | (simp; done)))))
  · obtain ⟨h1, h2, h3, h4, h5, h6, h7, h8⟩ := may_of hm
    clear hm
    (go_enter Try.func32, Try.ntmps32; try dsimp only [List.append])
    go_wp2
    go_ret
    exact gives_of rfl (by go_light; (repeat' (first | (with_reducible exact Below.refl _ _) | (with_reducible exact Nat.le_refl _) | (with_reducible assumption) | (with_reducible refine below_step ?_ ?_ hr) | (with_reducible refine below_over ?_ ?_ _) | (with_reducible refine Below.alloc ?_ ?_ _) | (with_reducible refine Below.setCell ?_ ?_ _) | (with_reducible refine below_put ?_ ?_ _) | (with_reducible refine Below.drew ?_) | (with_reducible refine below_drewN_ ?_ _) | (with_reducible refine le_drewN ?_ _) | (with_reducible refine over_le _ _ _ ?_) | (with_reducible refine le_alloc ?_ _) | (with_reducible refine le_setCell ?_ _ _) | (with_reducible refine le_put ?_ _ _) | (with_reducible refine le_drew ?_) | dsimp only | omega | ((try simp only [World.size_alloc, World.size_setCell, World.size_drew, size_put]); omega) | (simp; done))))
/-! The first closure with a key. -/
def placeF (q : KV) : List CV → Int → Int
  | [], _ => -1
  | c :: r, k => if c.key = q then k else placeF q r (k + 1)
set_option maxRecDepth 100000 in
set_option maxHeartbeats 800000 in
theorem closure_keyOf (c : CV) (w : World) : Calls Try.prog 31 #[c.val] w (Gives c.key.val w) := by
  (go_enter Try.func31, Try.ntmps31; try dsimp only [List.append])
  go_wp2
  refine bodyPost_ret (v := c.key.val) (by simp [results, Try.results31, go_sem, CV.key]) rfl ?_
  exact gives_of rfl (by go_light; (repeat' (first | (with_reducible exact Below.refl _ _) | (with_reducible exact Nat.le_refl _) | (with_reducible assumption) | (with_reducible refine below_step ?_ ?_ hr) | (with_reducible refine below_over ?_ ?_ _) | (with_reducible refine Below.alloc ?_ ?_ _) | (with_reducible refine Below.setCell ?_ ?_ _) | (with_reducible refine below_put ?_ ?_ _) | (with_reducible refine Below.drew ?_) | (with_reducible refine below_drewN_ ?_ _) | (with_reducible refine le_drewN ?_ _) | (with_reducible refine over_le _ _ _ ?_) | (with_reducible refine le_alloc ?_ _) | (with_reducible refine le_setCell ?_ _ _) | (with_reducible refine le_put ?_ _ _) | (with_reducible refine le_drew ?_) | dsimp only | omega | ((try simp only [World.size_alloc, World.size_setCell, World.size_drew, size_put]); omega) | (simp; done))))
abbrev keyB (q : KV) : Obj := .cells #[.int .i64 q.kind, .int .i64 q.target, .int .i64 q.by_] 64
abbrev findV (B : Nat) : Value := .func (.func 44) #[] #[.pointer (some ⟨B, 0, none⟩)]
set_option maxRecDepth 100000 in
set_option maxHeartbeats 800000 in
theorem closure_find1 (c : CV) (q : KV) (B : Nat) (w : World) (hB : w.heap[B]? = some (keyB q)) : Calls Try.prog 44 #[c.val, .pointer (some ⟨B, 0, none⟩)] w (Gives (.bool (eqK c.key q)) w) := by
  have qB := cell_of_block hB
  have hlt : B < w.heap.size := (Array.getElem?_eq_some_iff.1 hB).1
  clear hB
  (go_enter Try.func44, Try.ntmps44; try dsimp only [List.append])
  go_wp2_with fail
  all_goals refine wp_region_over (by kernel_rfl) (by kernel_rfl) ?_
  repeat (any_goals (first | go_big_quiet_step ((first | (go_at_call 31; exact quiet_gives (closure_keyOf c _)))) | (refine wpQuiet_step (fun K hK => ?_); go_simp; split <;> (refine hK _ ?_; clear hK K)) | quiet_step ((first | (go_at_call 31; exact quiet_gives (closure_keyOf c _))))))
  all_goals (refine wpQuiet_nil ?_; intro _ hw'; obtain ⟨xq, hw''⟩ := hw'; have hz := size_of hw''; (try simp only [World.size_alloc, World.size_setCell, World.size_drew] at hz); subst hw'')
  go_wp2_with fail
  go_ret
  exact gives_of rfl (by go_light; (repeat' (first | (with_reducible exact Below.refl _ _) | (with_reducible exact Nat.le_refl _) | (with_reducible assumption) | (with_reducible refine below_step ?_ ?_ hr) | (with_reducible refine below_over ?_ ?_ _) | (with_reducible refine Below.alloc ?_ ?_ _) | (with_reducible refine Below.setCell ?_ ?_ _) | (with_reducible refine below_put ?_ ?_ _) | (with_reducible refine Below.drew ?_) | (with_reducible refine below_drewN_ ?_ _) | (with_reducible refine le_drewN ?_ _) | (with_reducible refine over_le _ _ _ ?_) | (with_reducible refine le_alloc ?_ _) | (with_reducible refine le_setCell ?_ _ _) | (with_reducible refine le_put ?_ _ _) | (with_reducible refine le_drew ?_) | dsimp only | omega | ((try simp only [World.size_alloc, World.size_setCell, World.size_drew, size_put]); omega) | (simp; done))))
end Go.Proofs.Ytpckebhmdjhniaa
