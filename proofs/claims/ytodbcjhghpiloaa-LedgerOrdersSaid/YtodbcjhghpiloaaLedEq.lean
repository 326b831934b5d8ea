/- Ledger: whether two postings are equal; the reference's equality of lists, at equal things. -/
import Derived.Test.YtodbcjhghpiloaaLed
import Derived.Laws.StructEq
namespace Go.Proofs.Ytodbcjhghpiloaa
set_option linter.unusedSimpArgs false
set_option linter.unusedVariables false
open Go.RowKit
def eqP (x y : PV) : Bool := x.ref == y.ref && (x.from_ == y.from_ && (x.to_ == y.to_ && x.amount == y.amount))
theorem eqP_iff (x y : PV) : eqP x y = true ↔ x = y := by
  obtain ⟨a, b, c, d⟩ := x
  obtain ⟨a', b', c', d'⟩ := y
  simp [eqP]
@[go_sem] theorem eqP_self (x : PV) : eqP x x = true := (eqP_iff x x).2 rfl
theorem eqP_ne {x y : PV} (h : ¬ x = y) : eqP x y = false := by
  cases h2 : eqP x y
  · rfl
  · exact absurd ((eqP_iff _ _).1 h2) h
theorem run_eqInP (x y : PV) (w : World) : (Op.equalIn 10000 28 x.val y.val).run Try.prog w = .ok (eqP x y) w := by
  rw [run_equalIn_agg _ _ _ _ _ (by kernel_rfl) (by kernel_rfl)]
  simp [Program.fieldsOf, Try.underlying28, Op.eqFields, go_sem]
  by_cases h1 : x.ref = y.ref <;> by_cases h2 : x.from_ = y.from_ <;> by_cases h3 : x.to_ = y.to_ <;> by_cases h4 : x.amount = y.amount <;> simp [h1, h2, h3, h4, eqP]
@[go_sem high] theorem run_eqInP' (x y : PV) (w : World) : (Op.equalIn 10000 28 (.agg #[.int .i64 x.ref, .int .i64 x.from_, .int .i64 x.to_, .int .i64 x.amount]) (.agg #[.int .i64 y.ref, .int .i64 y.from_, .int .i64 y.to_, .int .i64 y.amount])).run Try.prog w = .ok (eqP x y) w := run_eqInP x y w
@[go_sem high] theorem run_eqlP (x y : PV) (w : World) : (binOp .eql 28 (.agg #[.int .i64 x.ref, .int .i64 x.from_, .int .i64 x.to_, .int .i64 x.amount]) (.agg #[.int .i64 y.ref, .int .i64 y.from_, .int .i64 y.to_, .int .i64 y.amount])).run Try.prog w = .ok (.bool (eqP x y)) w := by
  rw [run_eql_struct]
  have h := run_eqInP x y w
  simp only [PV.val] at h
  rw [h]
  rfl
@[go_sem high] theorem run_neqP (x y : PV) (w : World) : (binOp .neq 28 (.agg #[.int .i64 x.ref, .int .i64 x.from_, .int .i64 x.to_, .int .i64 x.amount]) (.agg #[.int .i64 y.ref, .int .i64 y.from_, .int .i64 y.to_, .int .i64 y.amount])).run Try.prog w = .ok (.bool (!eqP x y)) w := by
  rw [run_neq_struct]
  have h := run_eqInP x y w
  simp only [PV.val] at h
  rw [h]
  rfl
@[go_sem high] theorem guard_eqP (op : BinOp) (x y : Operand) (xs ys : Array Value) (w : World) : (eqGuard op 28 x y (.agg xs) (.agg ys)).run Try.prog w = .ok () w := run_eqGuard_agg w op _ x y xs ys (by kernel_rfl)
set_option maxRecDepth 100000 in
set_option maxHeartbeats 800000 in
theorem ref09_SameInts (s t : Sl) (xs : List Int) (w : World) (hs : Rd w encI s xs) (ht : Rd w encI t xs) : Calls Try.prog 20 #[s.val, t.val] w (Gives (.bool true) w) := by
  obtain ⟨A, n, c⟩ := s
  obtain ⟨B, m, d⟩ := t
  have Hx := Lib.hid hs
  have Hy := Lib.hid ht
  have hmn : m = n := by have h1 := Hx.out.len; have h2 := Hy.out.len; dsimp only at h1 h2; omega
  subst hmn
  have hmax : m ≤ 9223372036854775807 := Hx.out.bound
  clear hs ht
  simp only [Sl.val]
  (go_enter Try.func20, Try.ntmps20; try dsimp only [List.append])
  go_wp2_with fail
  go_loopw [5] (fun i wr => ∃ k : Nat, k ≤ m ∧ i = .int .i64 k ∧ Below w.heap.size w wr) (fun i _ => m - (intOf i).toNat)
  case atStart => exact ⟨0, Nat.zero_le _, rfl, Below.refl _ _⟩
  case round =>
    obtain ⟨k, hk, rfl, hBw⟩ := hrel
    have hzr := hBw.size
    by_cases hlt : k < m
    · obtain ⟨b, off, u, rfl, hbw, -, Hu, hc0⟩ := Hx.out.int hlt
      obtain ⟨b', off', u', rfl, hbw', -, Hu', hd0⟩ := Hy.out.int hlt
      obtain rfl : u = u' := by have h1 := Hu.out; have h2 := Hu'.out; rw [h1] at h2; cases h2; rfl
      have e0 := (hBw.cell (p := ⟨b, _, none⟩) hbw).trans hc0
      have e3 := (hBw.cell (p := ⟨b', _, none⟩) hbw').trans hd0
      clear hc0 hd0
      go_wp2_with fail
      all_goals refine wp_region_over (by kernel_rfl) (by kernel_rfl) ?_
      repeat (any_goals (first | go_big_quiet_step ((fail)) | (refine wpQuiet_step (fun K hK => ?_); go_simp; split <;> (refine hK _ ?_; clear hK K)) | quiet_step ((fail))))
      all_goals (refine wpQuiet_nil ?_; intro _ hw'; obtain ⟨xq, hw''⟩ := hw'; have hz := size_of hw''; (try simp only [World.size_alloc, World.size_setCell, World.size_drew] at hz); subst hw'')
      go_wp2_with fail
      go_roundw
      case rel => exact ⟨k + 1, by omega, by go_num, by go_light; (repeat' (first | (with_reducible exact Below.refl _ _) | (with_reducible exact Nat.le_refl _) | (with_reducible assumption) | (with_reducible refine below_step ?_ ?_ hr) | (with_reducible refine below_over ?_ ?_ _) | (with_reducible refine Below.alloc ?_ ?_ _) | (with_reducible refine Below.setCell ?_ ?_ _) | (with_reducible refine below_put ?_ ?_ _) | (with_reducible refine Below.drew ?_) | (with_reducible refine below_drewN_ ?_ _) | (with_reducible refine le_drewN ?_ _) | (with_reducible refine over_le _ _ _ ?_) | (with_reducible refine le_alloc ?_ _) | (with_reducible refine le_setCell ?_ _ _) | (with_reducible refine le_put ?_ _ _) | (with_reducible refine le_drew ?_) | dsimp only | omega | ((try simp only [World.size_alloc, World.size_setCell, World.size_drew, size_put]); omega) | (simp; done)))⟩
      case measure => (simp [intOf] <;> omega)
    · go_wp2_with fail
      go_ret
      exact gives_of rfl (by go_light; (repeat' (first | (with_reducible exact Below.refl _ _) | (with_reducible exact Nat.le_refl _) | (with_reducible assumption) | (with_reducible refine below_step ?_ ?_ hr) | (with_reducible refine below_over ?_ ?_ _) | (with_reducible refine Below.alloc ?_ ?_ _) | (with_reducible refine Below.setCell ?_ ?_ _) | (with_reducible refine below_put ?_ ?_ _) | (with_reducible refine Below.drew ?_) | (with_reducible refine below_drewN_ ?_ _) | (with_reducible refine le_drewN ?_ _) | (with_reducible refine over_le _ _ _ ?_) | (with_reducible refine le_alloc ?_ _) | (with_reducible refine le_setCell ?_ _ _) | (with_reducible refine le_put ?_ _ _) | (with_reducible refine le_drew ?_) | dsimp only | omega | ((try simp only [World.size_alloc, World.size_setCell, World.size_drew, size_put]); omega) | (simp; done))))
set_option maxRecDepth 100000 in
set_option maxHeartbeats 800000 in
theorem ref09_Same (s t : Sl) (xs : List PV) (w : World) (hs : Rd w PV.enc s xs) (ht : Rd w PV.enc t xs) : Calls Try.prog 15 #[s.val, t.val] w (Gives (.bool true) w) := by
  obtain ⟨A, n, c⟩ := s
  obtain ⟨B, m, d⟩ := t
  have Hx := Lib.hid hs
  have Hy := Lib.hid ht
  have hmn : m = n := by have h1 := Hx.out.len; have h2 := Hy.out.len; dsimp only at h1 h2; omega
  subst hmn
  have hmax : m ≤ 9223372036854775807 := Hx.out.bound
  clear hs ht
  simp only [Sl.val]
  (go_enter Try.func15, Try.ntmps15; try dsimp only [List.append])
  go_wp2_with fail
  go_loopw [5] (fun i wr => ∃ k : Nat, k ≤ m ∧ i = .int .i64 k ∧ Below w.heap.size w wr) (fun i _ => m - (intOf i).toNat)
  case atStart => exact ⟨0, Nat.zero_le _, rfl, Below.refl _ _⟩
  case round =>
    obtain ⟨k, hk, rfl, hBw⟩ := hrel
    have hzr := hBw.size
    by_cases hlt : k < m
    · obtain ⟨b, off, u, rfl, hbw, -, Hu, hc0, hc1, hc2, hc3⟩ := Hx.out.pv hlt
      obtain ⟨b', off', u', rfl, hbw', -, Hu', hd0, hd1, hd2, hd3⟩ := Hy.out.pv hlt
      obtain rfl : u = u' := by have h1 := Hu.out; have h2 := Hu'.out; rw [h1] at h2; cases h2; rfl
      have e0 := (hBw.cell (p := ⟨b, _, none⟩) hbw).trans hc0
      have e1 := (hBw.cell (p := ⟨b, _, none⟩) hbw).trans hc1
      have e2 := (hBw.cell (p := ⟨b, _, none⟩) hbw).trans hc2
      have e3 := (hBw.cell (p := ⟨b, _, none⟩) hbw).trans hc3
      have f0 := (hBw.cell (p := ⟨b', _, none⟩) hbw').trans hd0
      have f1 := (hBw.cell (p := ⟨b', _, none⟩) hbw').trans hd1
      have f2 := (hBw.cell (p := ⟨b', _, none⟩) hbw').trans hd2
      have f3 := (hBw.cell (p := ⟨b', _, none⟩) hbw').trans hd3
      clear hc0 hc1 hc2 hc3 hd0 hd1 hd2 hd3
      go_wp2_with fail
      all_goals refine wp_region_over (by kernel_rfl) (by kernel_rfl) ?_
      repeat (any_goals (first | go_big_quiet_step ((fail)) | (refine wpQuiet_step (fun K hK => ?_); go_simp; split <;> (refine hK _ ?_; clear hK K)) | quiet_step ((fail))))
      all_goals (refine wpQuiet_nil ?_; intro _ hw'; obtain ⟨xq, hw''⟩ := hw'; have hz := size_of hw''; (try simp only [World.size_alloc, World.size_setCell, World.size_drew] at hz); subst hw'')
      go_wp2_with fail
      go_roundw
      case rel => exact ⟨k + 1, by omega, by go_num, by go_light; (repeat' (first | (with_reducible exact Below.refl _ _) | (with_reducible exact Nat.le_refl _) | (with_reducible assumption) | (with_reducible refine below_step ?_ ?_ hr) | (with_reducible refine below_over ?_ ?_ _) | (with_reducible refine Below.alloc ?_ ?_ _) | (with_reducible refine Below.setCell ?_ ?_ _) | (with_reducible refine below_put ?_ ?_ _) | (with_reducible refine Below.drew ?_) | (with_reducible refine below_drewN_ ?_ _) | (with_reducible refine le_drewN ?_ _) | (with_reducible refine over_le _ _ _ ?_) | (with_reducible refine le_alloc ?_ _) | (with_reducible refine le_setCell ?_ _ _) | (with_reducible refine le_put ?_ _ _) | (with_reducible refine le_drew ?_) | dsimp only | omega | ((try simp only [World.size_alloc, World.size_setCell, World.size_drew, size_put]); omega) | (simp; done)))⟩
      case measure => (simp [intOf] <;> omega)
    · go_wp2_with fail
      go_ret
      exact gives_of rfl (by go_light; (repeat' (first | (with_reducible exact Below.refl _ _) | (with_reducible exact Nat.le_refl _) | (with_reducible assumption) | (with_reducible refine below_step ?_ ?_ hr) | (with_reducible refine below_over ?_ ?_ _) | (with_reducible refine Below.alloc ?_ ?_ _) | (with_reducible refine Below.setCell ?_ ?_ _) | (with_reducible refine below_put ?_ ?_ _) | (with_reducible refine Below.drew ?_) | (with_reducible refine below_drewN_ ?_ _) | (with_reducible refine le_drewN ?_ _) | (with_reducible refine over_le _ _ _ ?_) | (with_reducible refine le_alloc ?_ _) | (with_reducible refine le_setCell ?_ _ _) | (with_reducible refine le_put ?_ _ _) | (with_reducible refine le_drew ?_) | dsimp only | omega | ((try simp only [World.size_alloc, World.size_setCell, World.size_drew, size_put]); omega) | (simp; done))))
/-- The index of the first that is p; -1 if there is none. -/
def idxP (p : PV) : List PV → Int → Int
  | [], _ => -1
  | x :: r, k => if x = p then k else idxP p r (k + 1)
theorem idxP_mem (p : PV) : ∀ (l : List PV) (k : Int), 0 ≤ k → decide (0 ≤ idxP p l k) = decide (p ∈ l)
  | [], k, hk => by simp [idxP]
  | x :: r, k, hk => by
    have ih := idxP_mem p r (k + 1) (by omega)
    unfold idxP
    by_cases h : x = p
    · rw [if_pos h]; simp [h, hk]
    · rw [if_neg h, ih]
      have h' : ¬ p = x := fun e => h e.symm
      simp [h']
set_option maxRecDepth 100000 in
set_option maxHeartbeats 800000 in
theorem index_posting (s : Sl) (xs : List PV) (p : PV) (w : World) (hs : Rd w PV.enc s xs) : Calls Try.prog 31 #[s.val, p.val] w (Gives (.int .i64 (idxP p xs 0)) w) := by
  obtain ⟨A, n, c⟩ := s
  have hmax : n ≤ 9223372036854775807 := hs.bound
  have Hs := Lib.hid hs
  clear hs
  simp only [Sl.val]
  generalize hV : idxP p xs 0 = V
  have HV := Lib.hid hV
  clear hV
  (go_enter Try.func31, Try.ntmps31; try dsimp only [List.append])
  go_wp2_with fail
  refine wp_letter (fun w1 hb => ?_)
  have hz := hb.size
  (try simp only [World.size_alloc, World.size_setCell, World.size_drew, size_put] at hz)
  have hB : Below w.heap.size w w1 := below_step (by (repeat' (first | (with_reducible exact Below.refl _ _) | (with_reducible exact Nat.le_refl _) | (with_reducible assumption) | (with_reducible refine below_step ?_ ?_ hr) | (with_reducible refine below_over ?_ ?_ _) | (with_reducible refine Below.alloc ?_ ?_ _) | (with_reducible refine Below.setCell ?_ ?_ _) | (with_reducible refine below_put ?_ ?_ _) | (with_reducible refine Below.drew ?_) | (with_reducible refine below_drewN_ ?_ _) | (with_reducible refine le_drewN ?_ _) | (with_reducible refine over_le _ _ _ ?_) | (with_reducible refine le_alloc ?_ _) | (with_reducible refine le_setCell ?_ _ _) | (with_reducible refine le_put ?_ _ _) | (with_reducible refine le_drew ?_) | dsimp only | omega | ((try simp only [World.size_alloc, World.size_setCell, World.size_drew, size_put]); omega) | (simp; done)))) (by (first | omega | ((try simp only [World.size_alloc, World.size_setCell, World.size_drew, size_put]); omega))) hb
  have Q' : w1.heap[w.heap.size]? = _ := hb.block (w.heap.size) (by (first | omega | ((try simp only [World.size_alloc, World.size_setCell, World.size_drew, size_put]); omega)))
  simp only [alloc_block_if, put_block_if, over_block_if, set_block_if, setObj_cells, drew_block, drewN_block, Option.map_some, List.setIfInBounds_toArray, List.set_cons_zero, List.set_cons_succ, World.size_alloc, World.size_setCell, size_put, World.size_drew, if_true, if_false, ↓IntWalk.iteOmega] at Q'
  have Q_0 := Q'
  clear Q'
  have q_0 := cell_of_block Q_0
  clear hb
  have hBo := hB
  go_loopw [8] (fun i wr => ∃ k : Nat, k ≤ n ∧ i = .int .i64 k ∧ Hid (idxP p (xs.drop k) k = V) ∧ Below w1.heap.size w1 wr) (fun i _ => n - (intOf i).toNat)
  case atStart => exact ⟨0, Nat.zero_le _, rfl, HV, Below.refl _ _⟩
  case round =>
    obtain ⟨k, hk, rfl, Hl, hBr⟩ := hrel
    have hzr := hBr.size
    have hBw : Below w.heap.size w wr := hBo.trans (hBr.mono (by omega))
    have q_0r := cell_of_block ((hBr.block _ (by omega)).trans Q_0)
    clear q_0
    by_cases hlt : k < n
    · obtain ⟨b, off, x, rfl, hbw, Hx, Hx0, hc0, hc1, hc2, hc3⟩ := Hs.out.pv hlt
      have e0 := (hBw.cell (p := ⟨b, _, none⟩) hbw).trans hc0
      have e1 := (hBw.cell (p := ⟨b, _, none⟩) hbw).trans hc1
      have e2 := (hBw.cell (p := ⟨b, _, none⟩) hbw).trans hc2
      have e3 := (hBw.cell (p := ⟨b, _, none⟩) hbw).trans hc3
      clear hc0 hc1 hc2 hc3
      rw [Hx.out] at Hl
      by_cases he : x = p
      · subst he
        have HE : Hid (V = k) := by have h := Hl.out; rw [idxP, if_pos rfl] at h; exact h.symm
        go_wp2_with fail
        all_goals refine wp_region_over (by kernel_rfl) (by kernel_rfl) ?_
        repeat (any_goals (first | go_big_quiet_step ((fail)) | (refine wpQuiet_step (fun K hK => ?_); go_simp; split <;> (refine hK _ ?_; clear hK K)) | quiet_step ((fail))))
        all_goals (refine wpQuiet_nil ?_; intro _ hw'; obtain ⟨xq, hw''⟩ := hw'; have hz := size_of hw''; (try simp only [World.size_alloc, World.size_setCell, World.size_drew] at hz); subst hw'')
        go_wp2_with fail
        go_ret
        exact gives_of (ret_int HE.out.symm) (by go_light; (repeat' (first | (with_reducible exact Below.refl _ _) | (with_reducible exact Nat.le_refl _) | (with_reducible assumption) | (with_reducible refine below_step ?_ ?_ hr) | (with_reducible refine below_over ?_ ?_ _) | (with_reducible refine Below.alloc ?_ ?_ _) | (with_reducible refine Below.setCell ?_ ?_ _) | (with_reducible refine below_put ?_ ?_ _) | (with_reducible refine Below.drew ?_) | (with_reducible refine below_drewN_ ?_ _) | (with_reducible refine le_drewN ?_ _) | (with_reducible refine over_le _ _ _ ?_) | (with_reducible refine le_alloc ?_ _) | (with_reducible refine le_setCell ?_ _ _) | (with_reducible refine le_put ?_ _ _) | (with_reducible refine le_drew ?_) | dsimp only | omega | ((try simp only [World.size_alloc, World.size_setCell, World.size_drew, size_put]); omega) | (simp; done))))
      · have HE : Hid (idxP p (xs.drop (k + 1)) ((k + 1 : Nat) : Int) = V) := by have h := Hl.out; rw [idxP, if_neg he] at h; exact h
        have heq : eqP p x = false := eqP_ne (fun e => he e.symm)
        clear he
        go_wp2_with fail
        all_goals refine wp_region_over (by kernel_rfl) (by kernel_rfl) ?_
        repeat (any_goals (first | go_big_quiet_step ((fail)) | (refine wpQuiet_step (fun K hK => ?_); go_simp; split <;> (refine hK _ ?_; clear hK K)) | quiet_step ((fail))))
        all_goals (refine wpQuiet_nil ?_; intro _ hw'; obtain ⟨xq, hw''⟩ := hw'; have hz := size_of hw''; (try simp only [World.size_alloc, World.size_setCell, World.size_drew] at hz); subst hw'')
        go_wp2_with fail
        go_roundw
        case rel => exact ⟨k + 1, by omega, by go_num, HE, by go_light; (repeat' (first | (with_reducible exact Below.refl _ _) | (with_reducible exact Nat.le_refl _) | (with_reducible assumption) | (with_reducible refine below_step ?_ ?_ hr) | (with_reducible refine below_over ?_ ?_ _) | (with_reducible refine Below.alloc ?_ ?_ _) | (with_reducible refine Below.setCell ?_ ?_ _) | (with_reducible refine below_put ?_ ?_ _) | (with_reducible refine Below.drew ?_) | (with_reducible refine below_drewN_ ?_ _) | (with_reducible refine le_drewN ?_ _) | (with_reducible refine over_le _ _ _ ?_) | (with_reducible refine le_alloc ?_ _) | (with_reducible refine le_setCell ?_ _ _) | (with_reducible refine le_put ?_ _ _) | (with_reducible refine le_drew ?_) | dsimp only | omega | ((try simp only [World.size_alloc, World.size_setCell, World.size_drew, size_put]); omega) | (simp; done)))⟩
        case measure => (simp [intOf] <;> omega)
    · have HE : Hid (V = -1) := by have h := Hl.out; rw [Hs.out.done_ hlt] at h; exact h.symm
      go_wp2_with fail
      go_ret
      exact gives_of (ret_int HE.out.symm) (by go_light; (repeat' (first | (with_reducible exact Below.refl _ _) | (with_reducible exact Nat.le_refl _) | (with_reducible assumption) | (with_reducible refine below_step ?_ ?_ hr) | (with_reducible refine below_over ?_ ?_ _) | (with_reducible refine Below.alloc ?_ ?_ _) | (with_reducible refine Below.setCell ?_ ?_ _) | (with_reducible refine below_put ?_ ?_ _) | (with_reducible refine Below.drew ?_) | (with_reducible refine below_drewN_ ?_ _) | (with_reducible refine le_drewN ?_ _) | (with_reducible refine over_le _ _ _ ?_) | (with_reducible refine le_alloc ?_ _) | (with_reducible refine le_setCell ?_ _ _) | (with_reducible refine le_put ?_ _ _) | (with_reducible refine le_drew ?_) | dsimp only | omega | ((try simp only [World.size_alloc, World.size_setCell, World.size_drew, size_put]); omega) | (simp; done))))
set_option maxRecDepth 100000 in
set_option maxHeartbeats 800000 in
theorem contains_posting (s : Sl) (xs : List PV) (p : PV) (w : World) (hs : Rd w PV.enc s xs) : Calls Try.prog 28 #[s.val, p.val] w (Gives (.bool (decide (p ∈ xs))) w) := by
  have Hs := Lib.hid hs
  have Hc := Lib.hid (fun w' (h : Below w.heap.size w w') => index_posting s xs p w' (Hs.out.toW h))
  have HV := Lib.hid (idxP_mem p xs 0 (Int.le_refl _))
  clear hs
  generalize hv : decide (p ∈ xs) = V at HV
  clear hv
  generalize idxP p xs 0 = I at Hc HV
  (go_enter Try.func28, Try.ntmps28; try dsimp only [List.append])
  go_wp2_with fail
  refine (Hc.out _ (by (repeat' (first | (with_reducible exact Below.refl _ _) | (with_reducible exact Nat.le_refl _) | (with_reducible assumption) | (with_reducible refine below_step ?_ ?_ hr) | (with_reducible refine below_over ?_ ?_ _) | (with_reducible refine Below.alloc ?_ ?_ _) | (with_reducible refine Below.setCell ?_ ?_ _) | (with_reducible refine below_put ?_ ?_ _) | (with_reducible refine Below.drew ?_) | (with_reducible refine below_drewN_ ?_ _) | (with_reducible refine le_drewN ?_ _) | (with_reducible refine over_le _ _ _ ?_) | (with_reducible refine le_alloc ?_ _) | (with_reducible refine le_setCell ?_ _ _) | (with_reducible refine le_put ?_ _ _) | (with_reducible refine le_drew ?_) | dsimp only | omega | ((try simp only [World.size_alloc, World.size_setCell, World.size_drew, size_put]); omega) | (simp; done))))).mono ?_
  rintro e w1 hg
  obtain ⟨rfl, hb⟩ := hg.below
  clear hg
  have hz := hb.size
  (try simp only [World.size_alloc, World.size_setCell, World.size_drew, size_put] at hz)
  have hB : Below w.heap.size w w1 := below_step (by (repeat' (first | (with_reducible exact Below.refl _ _) | (with_reducible exact Nat.le_refl _) | (with_reducible assumption) | (with_reducible refine below_step ?_ ?_ hr) | (with_reducible refine below_over ?_ ?_ _) | (with_reducible refine Below.alloc ?_ ?_ _) | (with_reducible refine Below.setCell ?_ ?_ _) | (with_reducible refine below_put ?_ ?_ _) | (with_reducible refine Below.drew ?_) | (with_reducible refine below_drewN_ ?_ _) | (with_reducible refine le_drewN ?_ _) | (with_reducible refine over_le _ _ _ ?_) | (with_reducible refine le_alloc ?_ _) | (with_reducible refine le_setCell ?_ _ _) | (with_reducible refine le_put ?_ _ _) | (with_reducible refine le_drew ?_) | dsimp only | omega | ((try simp only [World.size_alloc, World.size_setCell, World.size_drew, size_put]); omega) | (simp; done)))) (by (first | omega | ((try simp only [World.size_alloc, World.size_setCell, World.size_drew, size_put]); omega))) hb
  have Q' : w1.heap[w.heap.size]? = _ := hb.block (w.heap.size) (by (first | omega | ((try simp only [World.size_alloc, World.size_setCell, World.size_drew, size_put]); omega)))
  simp only [alloc_block_if, put_block_if, over_block_if, set_block_if, setObj_cells, drew_block, drewN_block, Option.map_some, List.setIfInBounds_toArray, List.set_cons_zero, List.set_cons_succ, World.size_alloc, World.size_setCell, size_put, World.size_drew, if_true, if_false, ↓IntWalk.iteOmega] at Q'
  have Q_0 := Q'
  clear Q'
  have q_0 := cell_of_block Q_0
  clear hb
  go_wp2_with fail
  go_ret
  exact gives_of (ret_bool HV.out) (by go_light; (repeat' (first | (with_reducible exact Below.refl _ _) | (with_reducible exact Nat.le_refl _) | (with_reducible assumption) | (with_reducible refine below_step ?_ ?_ hr) | (with_reducible refine below_over ?_ ?_ _) | (with_reducible refine Below.alloc ?_ ?_ _) | (with_reducible refine Below.setCell ?_ ?_ _) | (with_reducible refine below_put ?_ ?_ _) | (with_reducible refine Below.drew ?_) | (with_reducible refine below_drewN_ ?_ _) | (with_reducible refine le_drewN ?_ _) | (with_reducible refine over_le _ _ _ ?_) | (with_reducible refine le_alloc ?_ _) | (with_reducible refine le_setCell ?_ _ _) | (with_reducible refine le_put ?_ _ _) | (with_reducible refine le_drew ?_) | dsimp only | omega | ((try simp only [World.size_alloc, World.size_setCell, World.size_drew, size_put]); omega) | (simp; done))))
end Go.Proofs.Ytodbcjhghpiloaa
