/-
  TopUses: for every product, number of units and list of visits the statement's function returns true. No condition.
-/
import Derived.Test.YtoafgpeghokhgaaRows
import Derived.Test.YtoafgpeghokhgaaUsesL
import Derived.Test.YtoafgpeghokhgaaOrdQ
import Derived.Below
namespace Go.Proofs.Ytoafgpeghokhgaa.lawUsesTop
set_option linter.unusedSimpArgs false
set_option linter.unusedVariables false
open Go.ChangeShapes Go.WideShapes Go.ChangeAt Go.RowKit
abbrev pdB (p : PD) : Obj := .cells #[.int .i64 p.id, .int .i64 p.kind, .int .i64 p.units, .int .i64 p.least, .int .i64 p.most, .slice p.so.a p.so.n p.so.c, .slice p.sh.a p.sh.n p.sh.c, .int .i64 p.sf, .int .i64 p.st, .int .i64 p.price] 40
abbrev mvB (m : MV) : Obj := .cells #[.int .i64 m.serial, .int .i64 m.counter, .int .i64 m.product, .int .i64 m.first, .int .i64 m.left, .int .i64 m.today, .int .i64 m.lift, .int .i64 m.at_, .int .u64 m.tag] 30
theorem rd_one {p : PD} {w : World} {b : Nat} (h : w.heap[b]? = some (pdB p)) : Rd w PD.enc ⟨some ⟨b, 0, none⟩, 1, 1⟩ [p] := rd_lit 10 (fun _ => rfl) [p] h (by simp [PD.enc]) rfl (by simp [maxLen])
theorem at_one {p : PD} {w : World} (h : p.at_ w) : ∀ q ∈ [p], q.at_ w := fun q hq => by
  have e : q = p := by simpa using hq
  rw [e]; exact h
section
variable {p : PD} {units : Int} {s : Sl} {vs : List V3} {w : World}
set_option maxRecDepth 100000 in
set_option maxHeartbeats 3200000 in
theorem bad (hp : p.at_ w) (h : (right22 [p] != 0) = true) : Calls Try.prog 4 #[p.val, .int .i64 units, s.val] w fun e w' => e = .returned (.bool true) ∧ Below w.heap.size w w' := by
  have Hp := Lib.hid hp
  have Hr22 := Lib.hid (fun w' s (hs : Rd w' PD.enc s [p]) (hb : Below w.heap.size w w') => ref22_Right s [p] w' hs (at_one (hp.toW hb)))
  generalize right22 [p] = R at Hr22 h
  clear hp
  (go_enter Try.func4, Try.ntmps4; try dsimp only [List.append])
  go_upto_region 4 with (go_at_call 5; refine (top_alive _).mono ?_; rintro e w1 hg; obtain ⟨rfl, hb⟩ := hg.below; clear hg; have hz := hb.size; (try simp only [World.size_alloc, World.size_setCell, World.size_drew, size_put] at hz); have hB : Below w.heap.size w w1 := below_step (by (repeat' (first | (with_reducible exact Below.refl _ _) | (with_reducible exact Nat.le_refl _) | (with_reducible assumption) | (with_reducible refine below_step ?_ ?_ hr) | (with_reducible refine below_over ?_ ?_ _) | (with_reducible refine Below.alloc ?_ ?_ _) | (with_reducible refine Below.setCell ?_ ?_ _) | (with_reducible refine below_put ?_ ?_ _) | (with_reducible refine Below.drew ?_) | (with_reducible refine below_drewN_ ?_ _) | (with_reducible refine le_drewN ?_ _) | (with_reducible refine over_le _ _ _ ?_) | (with_reducible refine le_alloc ?_ _) | (with_reducible refine le_setCell ?_ _ _) | (with_reducible refine le_put ?_ _ _) | (with_reducible refine le_drew ?_) | dsimp only | omega | ((try simp only [World.size_alloc, World.size_setCell, World.size_drew, size_put]); omega) | (simp; done)))) (by (first | omega | ((try simp only [World.size_alloc, World.size_setCell, World.size_drew, size_put]); omega))) hb; have Q' : w1.heap[w.heap.size]? = _ := hb.block (w.heap.size) (by (first | omega | ((try simp only [World.size_alloc, World.size_setCell, World.size_drew, size_put]); omega))); simp only [alloc_block_if, put_block_if, over_block_if, set_block_if, setObj_cells, drew_block, drewN_block, Option.map_some, List.setIfInBounds_toArray, List.set_cons_zero, List.set_cons_succ, World.size_alloc, World.size_setCell, size_put, World.size_drew, if_true, if_false, ↓IntWalk.iteOmega] at Q'; have Q_0 := Q'; clear Q'; have q_0 := cell_of_block Q_0; clear hb)
  have hB1 := hB
  refine wp_letter (fun w2 hb => ?_)
  have hz := hb.size
  (try simp only [World.size_alloc, World.size_setCell, World.size_drew, size_put] at hz)
  have hB : Below w1.heap.size w1 w2 := below_step (by (repeat' (first | (with_reducible exact Below.refl _ _) | (with_reducible exact Nat.le_refl _) | (with_reducible assumption) | (with_reducible refine below_step ?_ ?_ hr) | (with_reducible refine below_over ?_ ?_ _) | (with_reducible refine Below.alloc ?_ ?_ _) | (with_reducible refine Below.setCell ?_ ?_ _) | (with_reducible refine below_put ?_ ?_ _) | (with_reducible refine Below.drew ?_) | (with_reducible refine below_drewN_ ?_ _) | (with_reducible refine le_drewN ?_ _) | (with_reducible refine over_le _ _ _ ?_) | (with_reducible refine le_alloc ?_ _) | (with_reducible refine le_setCell ?_ _ _) | (with_reducible refine le_put ?_ _ _) | (with_reducible refine le_drew ?_) | dsimp only | omega | ((try simp only [World.size_alloc, World.size_setCell, World.size_drew, size_put]); omega) | (simp; done)))) (by (first | omega | ((try simp only [World.size_alloc, World.size_setCell, World.size_drew, size_put]); omega))) hb
  have Q' : w2.heap[w.heap.size]? = _ := hb.block (w.heap.size) (by (first | omega | ((try simp only [World.size_alloc, World.size_setCell, World.size_drew, size_put]); omega)))
  simp only [alloc_block_if, put_block_if, over_block_if, set_block_if, setObj_cells, drew_block, drewN_block, Option.map_some, List.setIfInBounds_toArray, List.set_cons_zero, List.set_cons_succ, World.size_alloc, World.size_setCell, size_put, World.size_drew, if_true, if_false, ↓IntWalk.iteOmega, Q_0] at Q'
  clear Q_0
  have Q_0 := Q'
  clear Q'
  have Q' : w2.heap[w1.heap.size]? = _ := hb.block (w1.heap.size) (by (first | omega | ((try simp only [World.size_alloc, World.size_setCell, World.size_drew, size_put]); omega)))
  simp only [alloc_block_if, put_block_if, over_block_if, set_block_if, setObj_cells, drew_block, drewN_block, Option.map_some, List.setIfInBounds_toArray, List.set_cons_zero, List.set_cons_succ, World.size_alloc, World.size_setCell, size_put, World.size_drew, if_true, if_false, ↓IntWalk.iteOmega] at Q'
  have Qw1_0 := Q'
  clear Q'
  have q_0 := cell_of_block Q_0
  have qw1_0 := cell_of_block Qw1_0
  clear hb
  have hB2 : Below w.heap.size w w2 := hB1.trans (hB.mono hB1.size)
  go_wp2_with (go_at_call 7; refine (Hr22.out _ ⟨some ⟨w1.heap.size, 0, none⟩, 1, 1⟩ (rd_one Qw1_0) hB2).mono ?_; rintro e w3 hg; obtain ⟨rfl, hb⟩ := hg.below; clear hg; have hz := hb.size; (try simp only [World.size_alloc, World.size_setCell, World.size_drew, size_put] at hz); have hB : Below w2.heap.size w2 w3 := below_step (by (repeat' (first | (with_reducible exact Below.refl _ _) | (with_reducible exact Nat.le_refl _) | (with_reducible assumption) | (with_reducible refine below_step ?_ ?_ hr) | (with_reducible refine below_over ?_ ?_ _) | (with_reducible refine Below.alloc ?_ ?_ _) | (with_reducible refine Below.setCell ?_ ?_ _) | (with_reducible refine below_put ?_ ?_ _) | (with_reducible refine Below.drew ?_) | (with_reducible refine below_drewN_ ?_ _) | (with_reducible refine le_drewN ?_ _) | (with_reducible refine over_le _ _ _ ?_) | (with_reducible refine le_alloc ?_ _) | (with_reducible refine le_setCell ?_ _ _) | (with_reducible refine le_put ?_ _ _) | (with_reducible refine le_drew ?_) | dsimp only | omega | ((try simp only [World.size_alloc, World.size_setCell, World.size_drew, size_put]); omega) | (simp; done)))) (by (first | omega | ((try simp only [World.size_alloc, World.size_setCell, World.size_drew, size_put]); omega))) hb; have Q' : w3.heap[w.heap.size]? = _ := hb.block (w.heap.size) (by (first | omega | ((try simp only [World.size_alloc, World.size_setCell, World.size_drew, size_put]); omega))); simp only [alloc_block_if, put_block_if, over_block_if, set_block_if, setObj_cells, drew_block, drewN_block, Option.map_some, List.setIfInBounds_toArray, List.set_cons_zero, List.set_cons_succ, World.size_alloc, World.size_setCell, size_put, World.size_drew, if_true, if_false, ↓IntWalk.iteOmega, Q_0] at Q'; clear Q_0; have Q_0 := Q'; clear Q'; have Q' : w3.heap[w1.heap.size]? = _ := hb.block (w1.heap.size) (by (first | omega | ((try simp only [World.size_alloc, World.size_setCell, World.size_drew, size_put]); omega))); simp only [alloc_block_if, put_block_if, over_block_if, set_block_if, setObj_cells, drew_block, drewN_block, Option.map_some, List.setIfInBounds_toArray, List.set_cons_zero, List.set_cons_succ, World.size_alloc, World.size_setCell, size_put, World.size_drew, if_true, if_false, ↓IntWalk.iteOmega, Qw1_0] at Q'; clear Qw1_0; have Qw1_0 := Q'; clear Q'; have q_0 := cell_of_block Q_0; have qw1_0 := cell_of_block Qw1_0; clear hb)
  have hB3 : Below w.heap.size w w3 := hB2.trans (hB.mono hB2.size)
  go_ret
  exact ⟨rfl, by go_light; (repeat' (first | (with_reducible exact Below.refl _ _) | (with_reducible exact Nat.le_refl _) | (with_reducible assumption) | (with_reducible refine below_step ?_ ?_ hr) | (with_reducible refine below_over ?_ ?_ _) | (with_reducible refine Below.alloc ?_ ?_ _) | (with_reducible refine Below.setCell ?_ ?_ _) | (with_reducible refine below_put ?_ ?_ _) | (with_reducible refine Below.drew ?_) | (with_reducible refine below_drewN_ ?_ _) | (with_reducible refine le_drewN ?_ _) | (with_reducible refine over_le _ _ _ ?_) | (with_reducible refine le_alloc ?_ _) | (with_reducible refine le_setCell ?_ _ _) | (with_reducible refine le_put ?_ _ _) | (with_reducible refine le_drew ?_) | dsimp only | omega | ((try simp only [World.size_alloc, World.size_setCell, World.size_drew, size_put]); omega) | (simp; done)))⟩
set_option maxRecDepth 100000 in
set_option maxHeartbeats 3200000 in
theorem long (hp : p.at_ w) (h : right22 [p] = 0) (h60 : 60 < s.n) : Calls Try.prog 4 #[p.val, .int .i64 units, s.val] w fun e w' => e = .returned (.bool true) ∧ Below w.heap.size w w' := by
  have Hr22 := Lib.hid (fun w' s (hs : Rd w' PD.enc s [p]) (hb : Below w.heap.size w w') => h ▸ ref22_Right s [p] w' hs (at_one (hp.toW hb)))
  have hl : decide ((60 : Int) < (s.n : Int)) = true := by simp; omega
  clear hp h h60
  (go_enter Try.func4, Try.ntmps4; try dsimp only [List.append])
  go_upto_region 4 with (go_at_call 5; refine (top_alive _).mono ?_; rintro e w1 hg; obtain ⟨rfl, hb⟩ := hg.below; clear hg; have hz := hb.size; (try simp only [World.size_alloc, World.size_setCell, World.size_drew, size_put] at hz); have hB : Below w.heap.size w w1 := below_step (by (repeat' (first | (with_reducible exact Below.refl _ _) | (with_reducible exact Nat.le_refl _) | (with_reducible assumption) | (with_reducible refine below_step ?_ ?_ hr) | (with_reducible refine below_over ?_ ?_ _) | (with_reducible refine Below.alloc ?_ ?_ _) | (with_reducible refine Below.setCell ?_ ?_ _) | (with_reducible refine below_put ?_ ?_ _) | (with_reducible refine Below.drew ?_) | (with_reducible refine below_drewN_ ?_ _) | (with_reducible refine le_drewN ?_ _) | (with_reducible refine over_le _ _ _ ?_) | (with_reducible refine le_alloc ?_ _) | (with_reducible refine le_setCell ?_ _ _) | (with_reducible refine le_put ?_ _ _) | (with_reducible refine le_drew ?_) | dsimp only | omega | ((try simp only [World.size_alloc, World.size_setCell, World.size_drew, size_put]); omega) | (simp; done)))) (by (first | omega | ((try simp only [World.size_alloc, World.size_setCell, World.size_drew, size_put]); omega))) hb; have Q' : w1.heap[w.heap.size]? = _ := hb.block (w.heap.size) (by (first | omega | ((try simp only [World.size_alloc, World.size_setCell, World.size_drew, size_put]); omega))); simp only [alloc_block_if, put_block_if, over_block_if, set_block_if, setObj_cells, drew_block, drewN_block, Option.map_some, List.setIfInBounds_toArray, List.set_cons_zero, List.set_cons_succ, World.size_alloc, World.size_setCell, size_put, World.size_drew, if_true, if_false, ↓IntWalk.iteOmega] at Q'; have Q_0 := Q'; clear Q'; have q_0 := cell_of_block Q_0; clear hb)
  have hB1 := hB
  refine wp_letter (fun w2 hb => ?_)
  have hz := hb.size
  (try simp only [World.size_alloc, World.size_setCell, World.size_drew, size_put] at hz)
  have hB : Below w1.heap.size w1 w2 := below_step (by (repeat' (first | (with_reducible exact Below.refl _ _) | (with_reducible exact Nat.le_refl _) | (with_reducible assumption) | (with_reducible refine below_step ?_ ?_ hr) | (with_reducible refine below_over ?_ ?_ _) | (with_reducible refine Below.alloc ?_ ?_ _) | (with_reducible refine Below.setCell ?_ ?_ _) | (with_reducible refine below_put ?_ ?_ _) | (with_reducible refine Below.drew ?_) | (with_reducible refine below_drewN_ ?_ _) | (with_reducible refine le_drewN ?_ _) | (with_reducible refine over_le _ _ _ ?_) | (with_reducible refine le_alloc ?_ _) | (with_reducible refine le_setCell ?_ _ _) | (with_reducible refine le_put ?_ _ _) | (with_reducible refine le_drew ?_) | dsimp only | omega | ((try simp only [World.size_alloc, World.size_setCell, World.size_drew, size_put]); omega) | (simp; done)))) (by (first | omega | ((try simp only [World.size_alloc, World.size_setCell, World.size_drew, size_put]); omega))) hb
  have Q' : w2.heap[w.heap.size]? = _ := hb.block (w.heap.size) (by (first | omega | ((try simp only [World.size_alloc, World.size_setCell, World.size_drew, size_put]); omega)))
  simp only [alloc_block_if, put_block_if, over_block_if, set_block_if, setObj_cells, drew_block, drewN_block, Option.map_some, List.setIfInBounds_toArray, List.set_cons_zero, List.set_cons_succ, World.size_alloc, World.size_setCell, size_put, World.size_drew, if_true, if_false, ↓IntWalk.iteOmega, Q_0] at Q'
  clear Q_0
  have Q_0 := Q'
  clear Q'
  have Q' : w2.heap[w1.heap.size]? = _ := hb.block (w1.heap.size) (by (first | omega | ((try simp only [World.size_alloc, World.size_setCell, World.size_drew, size_put]); omega)))
  simp only [alloc_block_if, put_block_if, over_block_if, set_block_if, setObj_cells, drew_block, drewN_block, Option.map_some, List.setIfInBounds_toArray, List.set_cons_zero, List.set_cons_succ, World.size_alloc, World.size_setCell, size_put, World.size_drew, if_true, if_false, ↓IntWalk.iteOmega] at Q'
  have Qw1_0 := Q'
  clear Q'
  have q_0 := cell_of_block Q_0
  have qw1_0 := cell_of_block Qw1_0
  clear hb
  have hB2 : Below w.heap.size w w2 := hB1.trans (hB.mono hB1.size)
  go_wp2_with (go_at_call 7; refine (Hr22.out _ ⟨some ⟨w1.heap.size, 0, none⟩, 1, 1⟩ (rd_one Qw1_0) hB2).mono ?_; rintro e w3 hg; obtain ⟨rfl, hb⟩ := hg.below; clear hg; have hz := hb.size; (try simp only [World.size_alloc, World.size_setCell, World.size_drew, size_put] at hz); have hB : Below w2.heap.size w2 w3 := below_step (by (repeat' (first | (with_reducible exact Below.refl _ _) | (with_reducible exact Nat.le_refl _) | (with_reducible assumption) | (with_reducible refine below_step ?_ ?_ hr) | (with_reducible refine below_over ?_ ?_ _) | (with_reducible refine Below.alloc ?_ ?_ _) | (with_reducible refine Below.setCell ?_ ?_ _) | (with_reducible refine below_put ?_ ?_ _) | (with_reducible refine Below.drew ?_) | (with_reducible refine below_drewN_ ?_ _) | (with_reducible refine le_drewN ?_ _) | (with_reducible refine over_le _ _ _ ?_) | (with_reducible refine le_alloc ?_ _) | (with_reducible refine le_setCell ?_ _ _) | (with_reducible refine le_put ?_ _ _) | (with_reducible refine le_drew ?_) | dsimp only | omega | ((try simp only [World.size_alloc, World.size_setCell, World.size_drew, size_put]); omega) | (simp; done)))) (by (first | omega | ((try simp only [World.size_alloc, World.size_setCell, World.size_drew, size_put]); omega))) hb; have Q' : w3.heap[w.heap.size]? = _ := hb.block (w.heap.size) (by (first | omega | ((try simp only [World.size_alloc, World.size_setCell, World.size_drew, size_put]); omega))); simp only [alloc_block_if, put_block_if, over_block_if, set_block_if, setObj_cells, drew_block, drewN_block, Option.map_some, List.setIfInBounds_toArray, List.set_cons_zero, List.set_cons_succ, World.size_alloc, World.size_setCell, size_put, World.size_drew, if_true, if_false, ↓IntWalk.iteOmega, Q_0] at Q'; clear Q_0; have Q_0 := Q'; clear Q'; have Q' : w3.heap[w1.heap.size]? = _ := hb.block (w1.heap.size) (by (first | omega | ((try simp only [World.size_alloc, World.size_setCell, World.size_drew, size_put]); omega))); simp only [alloc_block_if, put_block_if, over_block_if, set_block_if, setObj_cells, drew_block, drewN_block, Option.map_some, List.setIfInBounds_toArray, List.set_cons_zero, List.set_cons_succ, World.size_alloc, World.size_setCell, size_put, World.size_drew, if_true, if_false, ↓IntWalk.iteOmega, Qw1_0] at Q'; clear Qw1_0; have Qw1_0 := Q'; clear Q'; have q_0 := cell_of_block Q_0; have qw1_0 := cell_of_block Qw1_0; clear hb)
  have hB3 : Below w.heap.size w w3 := hB2.trans (hB.mono hB2.size)
  go_ret
  exact ⟨rfl, by go_light; (repeat' (first | (with_reducible exact Below.refl _ _) | (with_reducible exact Nat.le_refl _) | (with_reducible assumption) | (with_reducible refine below_step ?_ ?_ hr) | (with_reducible refine below_over ?_ ?_ _) | (with_reducible refine Below.alloc ?_ ?_ _) | (with_reducible refine Below.setCell ?_ ?_ _) | (with_reducible refine below_put ?_ ?_ _) | (with_reducible refine Below.drew ?_) | (with_reducible refine below_drewN_ ?_ _) | (with_reducible refine le_drewN ?_ _) | (with_reducible refine over_le _ _ _ ?_) | (with_reducible refine le_alloc ?_ _) | (with_reducible refine le_setCell ?_ _ _) | (with_reducible refine le_put ?_ _ _) | (with_reducible refine le_drew ?_) | dsimp only | omega | ((try simp only [World.size_alloc, World.size_setCell, World.size_drew, size_put]); omega) | (simp; done)))⟩
set_option maxRecDepth 100000 in
set_option maxHeartbeats 3200000 in
theorem timed (hp : p.at_ w) (h : right22 [p] = 0) (h60 : s.n ≤ 60) (hk : (p.kind == 0) = true) : Calls Try.prog 4 #[p.val, .int .i64 units, s.val] w fun e w' => e = .returned (.bool true) ∧ Below w.heap.size w w' := by
  have Hr22 := Lib.hid (fun w' s (hs : Rd w' PD.enc s [p]) (hb : Below w.heap.size w w') => h ▸ ref22_Right s [p] w' hs (at_one (hp.toW hb)))
  have hl : decide ((60 : Int) < (s.n : Int)) = false := by simp; omega
  clear hp h h60
  (go_enter Try.func4, Try.ntmps4; try dsimp only [List.append])
  go_upto_region 4 with (go_at_call 5; refine (top_alive _).mono ?_; rintro e w1 hg; obtain ⟨rfl, hb⟩ := hg.below; clear hg; have hz := hb.size; (try simp only [World.size_alloc, World.size_setCell, World.size_drew, size_put] at hz); have hB : Below w.heap.size w w1 := below_step (by (repeat' (first | (with_reducible exact Below.refl _ _) | (with_reducible exact Nat.le_refl _) | (with_reducible assumption) | (with_reducible refine below_step ?_ ?_ hr) | (with_reducible refine below_over ?_ ?_ _) | (with_reducible refine Below.alloc ?_ ?_ _) | (with_reducible refine Below.setCell ?_ ?_ _) | (with_reducible refine below_put ?_ ?_ _) | (with_reducible refine Below.drew ?_) | (with_reducible refine below_drewN_ ?_ _) | (with_reducible refine le_drewN ?_ _) | (with_reducible refine over_le _ _ _ ?_) | (with_reducible refine le_alloc ?_ _) | (with_reducible refine le_setCell ?_ _ _) | (with_reducible refine le_put ?_ _ _) | (with_reducible refine le_drew ?_) | dsimp only | omega | ((try simp only [World.size_alloc, World.size_setCell, World.size_drew, size_put]); omega) | (simp; done)))) (by (first | omega | ((try simp only [World.size_alloc, World.size_setCell, World.size_drew, size_put]); omega))) hb; have Q' : w1.heap[w.heap.size]? = _ := hb.block (w.heap.size) (by (first | omega | ((try simp only [World.size_alloc, World.size_setCell, World.size_drew, size_put]); omega))); simp only [alloc_block_if, put_block_if, over_block_if, set_block_if, setObj_cells, drew_block, drewN_block, Option.map_some, List.setIfInBounds_toArray, List.set_cons_zero, List.set_cons_succ, World.size_alloc, World.size_setCell, size_put, World.size_drew, if_true, if_false, ↓IntWalk.iteOmega] at Q'; have Q_0 := Q'; clear Q'; have q_0 := cell_of_block Q_0; clear hb)
  have hB1 := hB
  refine wp_letter (fun w2 hb => ?_)
  have hz := hb.size
  (try simp only [World.size_alloc, World.size_setCell, World.size_drew, size_put] at hz)
  have hB : Below w1.heap.size w1 w2 := below_step (by (repeat' (first | (with_reducible exact Below.refl _ _) | (with_reducible exact Nat.le_refl _) | (with_reducible assumption) | (with_reducible refine below_step ?_ ?_ hr) | (with_reducible refine below_over ?_ ?_ _) | (with_reducible refine Below.alloc ?_ ?_ _) | (with_reducible refine Below.setCell ?_ ?_ _) | (with_reducible refine below_put ?_ ?_ _) | (with_reducible refine Below.drew ?_) | (with_reducible refine below_drewN_ ?_ _) | (with_reducible refine le_drewN ?_ _) | (with_reducible refine over_le _ _ _ ?_) | (with_reducible refine le_alloc ?_ _) | (with_reducible refine le_setCell ?_ _ _) | (with_reducible refine le_put ?_ _ _) | (with_reducible refine le_drew ?_) | dsimp only | omega | ((try simp only [World.size_alloc, World.size_setCell, World.size_drew, size_put]); omega) | (simp; done)))) (by (first | omega | ((try simp only [World.size_alloc, World.size_setCell, World.size_drew, size_put]); omega))) hb
  have Q' : w2.heap[w.heap.size]? = _ := hb.block (w.heap.size) (by (first | omega | ((try simp only [World.size_alloc, World.size_setCell, World.size_drew, size_put]); omega)))
  simp only [alloc_block_if, put_block_if, over_block_if, set_block_if, setObj_cells, drew_block, drewN_block, Option.map_some, List.setIfInBounds_toArray, List.set_cons_zero, List.set_cons_succ, World.size_alloc, World.size_setCell, size_put, World.size_drew, if_true, if_false, ↓IntWalk.iteOmega, Q_0] at Q'
  clear Q_0
  have Q_0 := Q'
  clear Q'
  have Q' : w2.heap[w1.heap.size]? = _ := hb.block (w1.heap.size) (by (first | omega | ((try simp only [World.size_alloc, World.size_setCell, World.size_drew, size_put]); omega)))
  simp only [alloc_block_if, put_block_if, over_block_if, set_block_if, setObj_cells, drew_block, drewN_block, Option.map_some, List.setIfInBounds_toArray, List.set_cons_zero, List.set_cons_succ, World.size_alloc, World.size_setCell, size_put, World.size_drew, if_true, if_false, ↓IntWalk.iteOmega] at Q'
  have Qw1_0 := Q'
  clear Q'
  have q_0 := cell_of_block Q_0
  have qw1_0 := cell_of_block Qw1_0
  clear hb
  have hB2 : Below w.heap.size w w2 := hB1.trans (hB.mono hB1.size)
  go_wp2_with (go_at_call 7; refine (Hr22.out _ ⟨some ⟨w1.heap.size, 0, none⟩, 1, 1⟩ (rd_one Qw1_0) hB2).mono ?_; rintro e w3 hg; obtain ⟨rfl, hb⟩ := hg.below; clear hg; have hz := hb.size; (try simp only [World.size_alloc, World.size_setCell, World.size_drew, size_put] at hz); have hB : Below w2.heap.size w2 w3 := below_step (by (repeat' (first | (with_reducible exact Below.refl _ _) | (with_reducible exact Nat.le_refl _) | (with_reducible assumption) | (with_reducible refine below_step ?_ ?_ hr) | (with_reducible refine below_over ?_ ?_ _) | (with_reducible refine Below.alloc ?_ ?_ _) | (with_reducible refine Below.setCell ?_ ?_ _) | (with_reducible refine below_put ?_ ?_ _) | (with_reducible refine Below.drew ?_) | (with_reducible refine below_drewN_ ?_ _) | (with_reducible refine le_drewN ?_ _) | (with_reducible refine over_le _ _ _ ?_) | (with_reducible refine le_alloc ?_ _) | (with_reducible refine le_setCell ?_ _ _) | (with_reducible refine le_put ?_ _ _) | (with_reducible refine le_drew ?_) | dsimp only | omega | ((try simp only [World.size_alloc, World.size_setCell, World.size_drew, size_put]); omega) | (simp; done)))) (by (first | omega | ((try simp only [World.size_alloc, World.size_setCell, World.size_drew, size_put]); omega))) hb; have Q' : w3.heap[w.heap.size]? = _ := hb.block (w.heap.size) (by (first | omega | ((try simp only [World.size_alloc, World.size_setCell, World.size_drew, size_put]); omega))); simp only [alloc_block_if, put_block_if, over_block_if, set_block_if, setObj_cells, drew_block, drewN_block, Option.map_some, List.setIfInBounds_toArray, List.set_cons_zero, List.set_cons_succ, World.size_alloc, World.size_setCell, size_put, World.size_drew, if_true, if_false, ↓IntWalk.iteOmega, Q_0] at Q'; clear Q_0; have Q_0 := Q'; clear Q'; have Q' : w3.heap[w1.heap.size]? = _ := hb.block (w1.heap.size) (by (first | omega | ((try simp only [World.size_alloc, World.size_setCell, World.size_drew, size_put]); omega))); simp only [alloc_block_if, put_block_if, over_block_if, set_block_if, setObj_cells, drew_block, drewN_block, Option.map_some, List.setIfInBounds_toArray, List.set_cons_zero, List.set_cons_succ, World.size_alloc, World.size_setCell, size_put, World.size_drew, if_true, if_false, ↓IntWalk.iteOmega, Qw1_0] at Q'; clear Qw1_0; have Qw1_0 := Q'; clear Q'; have q_0 := cell_of_block Q_0; have qw1_0 := cell_of_block Qw1_0; clear hb)
  have hB3 : Below w.heap.size w w3 := hB2.trans (hB.mono hB2.size)
  go_ret
  exact ⟨rfl, by go_light; (repeat' (first | (with_reducible exact Below.refl _ _) | (with_reducible exact Nat.le_refl _) | (with_reducible assumption) | (with_reducible refine below_step ?_ ?_ hr) | (with_reducible refine below_over ?_ ?_ _) | (with_reducible refine Below.alloc ?_ ?_ _) | (with_reducible refine Below.setCell ?_ ?_ _) | (with_reducible refine below_put ?_ ?_ _) | (with_reducible refine Below.drew ?_) | (with_reducible refine below_drewN_ ?_ _) | (with_reducible refine le_drewN ?_ _) | (with_reducible refine over_le _ _ _ ?_) | (with_reducible refine le_alloc ?_ _) | (with_reducible refine le_setCell ?_ _ _) | (with_reducible refine le_put ?_ _ _) | (with_reducible refine le_drew ?_) | dsimp only | omega | ((try simp only [World.size_alloc, World.size_setCell, World.size_drew, size_put]); omega) | (simp; done)))⟩
set_option maxRecDepth 100000 in
set_option maxHeartbeats 3200000 in
theorem newbad (hp : p.at_ w) (h : right22 [p] = 0) (h60 : s.n ≤ 60) (hk : (p.kind == 0) = false) (hn : newBad 3 p.id units = true) : Calls Try.prog 4 #[p.val, .int .i64 units, s.val] w fun e w' => e = .returned (.bool true) ∧ Below w.heap.size w w' := by
  have Hr22 := Lib.hid (fun w' s (hs : Rd w' PD.enc s [p]) (hb : Below w.heap.size w w') => h ▸ ref22_Right s [p] w' hs (at_one (hp.toW hb)))
  have hl : decide ((60 : Int) < (s.n : Int)) = false := by simp; omega
  have Hn := Lib.hid (fun w' : World => (show newV 7 3 p.id units = Value.tuple #[zeroM0.val, .int .i64 2] by rw [newV, if_pos hn]) ▸ media_New 7 3 p.id units w')
  clear hp h h60 hn
  (go_enter Try.func4, Try.ntmps4; try dsimp only [List.append])
  go_upto_region 4 with (go_at_call 5; refine (top_alive _).mono ?_; rintro e w1 hg; obtain ⟨rfl, hb⟩ := hg.below; clear hg; have hz := hb.size; (try simp only [World.size_alloc, World.size_setCell, World.size_drew, size_put] at hz); have hB : Below w.heap.size w w1 := below_step (by (repeat' (first | (with_reducible exact Below.refl _ _) | (with_reducible exact Nat.le_refl _) | (with_reducible assumption) | (with_reducible refine below_step ?_ ?_ hr) | (with_reducible refine below_over ?_ ?_ _) | (with_reducible refine Below.alloc ?_ ?_ _) | (with_reducible refine Below.setCell ?_ ?_ _) | (with_reducible refine below_put ?_ ?_ _) | (with_reducible refine Below.drew ?_) | (with_reducible refine below_drewN_ ?_ _) | (with_reducible refine le_drewN ?_ _) | (with_reducible refine over_le _ _ _ ?_) | (with_reducible refine le_alloc ?_ _) | (with_reducible refine le_setCell ?_ _ _) | (with_reducible refine le_put ?_ _ _) | (with_reducible refine le_drew ?_) | dsimp only | omega | ((try simp only [World.size_alloc, World.size_setCell, World.size_drew, size_put]); omega) | (simp; done)))) (by (first | omega | ((try simp only [World.size_alloc, World.size_setCell, World.size_drew, size_put]); omega))) hb; have Q' : w1.heap[w.heap.size]? = _ := hb.block (w.heap.size) (by (first | omega | ((try simp only [World.size_alloc, World.size_setCell, World.size_drew, size_put]); omega))); simp only [alloc_block_if, put_block_if, over_block_if, set_block_if, setObj_cells, drew_block, drewN_block, Option.map_some, List.setIfInBounds_toArray, List.set_cons_zero, List.set_cons_succ, World.size_alloc, World.size_setCell, size_put, World.size_drew, if_true, if_false, ↓IntWalk.iteOmega] at Q'; have Q_0 := Q'; clear Q'; have q_0 := cell_of_block Q_0; clear hb)
  have hB1 := hB
  refine wp_letter (fun w2 hb => ?_)
  have hz := hb.size
  (try simp only [World.size_alloc, World.size_setCell, World.size_drew, size_put] at hz)
  have hB : Below w1.heap.size w1 w2 := below_step (by (repeat' (first | (with_reducible exact Below.refl _ _) | (with_reducible exact Nat.le_refl _) | (with_reducible assumption) | (with_reducible refine below_step ?_ ?_ hr) | (with_reducible refine below_over ?_ ?_ _) | (with_reducible refine Below.alloc ?_ ?_ _) | (with_reducible refine Below.setCell ?_ ?_ _) | (with_reducible refine below_put ?_ ?_ _) | (with_reducible refine Below.drew ?_) | (with_reducible refine below_drewN_ ?_ _) | (with_reducible refine le_drewN ?_ _) | (with_reducible refine over_le _ _ _ ?_) | (with_reducible refine le_alloc ?_ _) | (with_reducible refine le_setCell ?_ _ _) | (with_reducible refine le_put ?_ _ _) | (with_reducible refine le_drew ?_) | dsimp only | omega | ((try simp only [World.size_alloc, World.size_setCell, World.size_drew, size_put]); omega) | (simp; done)))) (by (first | omega | ((try simp only [World.size_alloc, World.size_setCell, World.size_drew, size_put]); omega))) hb
  have Q' : w2.heap[w.heap.size]? = _ := hb.block (w.heap.size) (by (first | omega | ((try simp only [World.size_alloc, World.size_setCell, World.size_drew, size_put]); omega)))
  simp only [alloc_block_if, put_block_if, over_block_if, set_block_if, setObj_cells, drew_block, drewN_block, Option.map_some, List.setIfInBounds_toArray, List.set_cons_zero, List.set_cons_succ, World.size_alloc, World.size_setCell, size_put, World.size_drew, if_true, if_false, ↓IntWalk.iteOmega, Q_0] at Q'
  clear Q_0
  have Q_0 := Q'
  clear Q'
  have Q' : w2.heap[w1.heap.size]? = _ := hb.block (w1.heap.size) (by (first | omega | ((try simp only [World.size_alloc, World.size_setCell, World.size_drew, size_put]); omega)))
  simp only [alloc_block_if, put_block_if, over_block_if, set_block_if, setObj_cells, drew_block, drewN_block, Option.map_some, List.setIfInBounds_toArray, List.set_cons_zero, List.set_cons_succ, World.size_alloc, World.size_setCell, size_put, World.size_drew, if_true, if_false, ↓IntWalk.iteOmega] at Q'
  have Qw1_0 := Q'
  clear Q'
  have q_0 := cell_of_block Q_0
  have qw1_0 := cell_of_block Qw1_0
  clear hb
  have hB2 : Below w.heap.size w w2 := hB1.trans (hB.mono hB1.size)
  go_upto_region 6 with (go_at_call 7; refine (Hr22.out _ ⟨some ⟨w1.heap.size, 0, none⟩, 1, 1⟩ (rd_one Qw1_0) hB2).mono ?_; rintro e w3 hg; obtain ⟨rfl, hb⟩ := hg.below; clear hg; have hz := hb.size; (try simp only [World.size_alloc, World.size_setCell, World.size_drew, size_put] at hz); have hB : Below w2.heap.size w2 w3 := below_step (by (repeat' (first | (with_reducible exact Below.refl _ _) | (with_reducible exact Nat.le_refl _) | (with_reducible assumption) | (with_reducible refine below_step ?_ ?_ hr) | (with_reducible refine below_over ?_ ?_ _) | (with_reducible refine Below.alloc ?_ ?_ _) | (with_reducible refine Below.setCell ?_ ?_ _) | (with_reducible refine below_put ?_ ?_ _) | (with_reducible refine Below.drew ?_) | (with_reducible refine below_drewN_ ?_ _) | (with_reducible refine le_drewN ?_ _) | (with_reducible refine over_le _ _ _ ?_) | (with_reducible refine le_alloc ?_ _) | (with_reducible refine le_setCell ?_ _ _) | (with_reducible refine le_put ?_ _ _) | (with_reducible refine le_drew ?_) | dsimp only | omega | ((try simp only [World.size_alloc, World.size_setCell, World.size_drew, size_put]); omega) | (simp; done)))) (by (first | omega | ((try simp only [World.size_alloc, World.size_setCell, World.size_drew, size_put]); omega))) hb; have Q' : w3.heap[w.heap.size]? = _ := hb.block (w.heap.size) (by (first | omega | ((try simp only [World.size_alloc, World.size_setCell, World.size_drew, size_put]); omega))); simp only [alloc_block_if, put_block_if, over_block_if, set_block_if, setObj_cells, drew_block, drewN_block, Option.map_some, List.setIfInBounds_toArray, List.set_cons_zero, List.set_cons_succ, World.size_alloc, World.size_setCell, size_put, World.size_drew, if_true, if_false, ↓IntWalk.iteOmega, Q_0] at Q'; clear Q_0; have Q_0 := Q'; clear Q'; have Q' : w3.heap[w1.heap.size]? = _ := hb.block (w1.heap.size) (by (first | omega | ((try simp only [World.size_alloc, World.size_setCell, World.size_drew, size_put]); omega))); simp only [alloc_block_if, put_block_if, over_block_if, set_block_if, setObj_cells, drew_block, drewN_block, Option.map_some, List.setIfInBounds_toArray, List.set_cons_zero, List.set_cons_succ, World.size_alloc, World.size_setCell, size_put, World.size_drew, if_true, if_false, ↓IntWalk.iteOmega, Qw1_0] at Q'; clear Qw1_0; have Qw1_0 := Q'; clear Q'; have q_0 := cell_of_block Q_0; have qw1_0 := cell_of_block Qw1_0; clear hb)
  have hB3 : Below w.heap.size w w3 := hB2.trans (hB.mono hB2.size)
  go_wp2_with (go_at_call 14; refine (Hn.out _).mono ?_; rintro e w4 hg; obtain ⟨rfl, hb⟩ := hg.below; clear hg; have hz := hb.size; (try simp only [World.size_alloc, World.size_setCell, World.size_drew, size_put] at hz); have hB : Below w3.heap.size w3 w4 := below_step (by (repeat' (first | (with_reducible exact Below.refl _ _) | (with_reducible exact Nat.le_refl _) | (with_reducible assumption) | (with_reducible refine below_step ?_ ?_ hr) | (with_reducible refine below_over ?_ ?_ _) | (with_reducible refine Below.alloc ?_ ?_ _) | (with_reducible refine Below.setCell ?_ ?_ _) | (with_reducible refine below_put ?_ ?_ _) | (with_reducible refine Below.drew ?_) | (with_reducible refine below_drewN_ ?_ _) | (with_reducible refine le_drewN ?_ _) | (with_reducible refine over_le _ _ _ ?_) | (with_reducible refine le_alloc ?_ _) | (with_reducible refine le_setCell ?_ _ _) | (with_reducible refine le_put ?_ _ _) | (with_reducible refine le_drew ?_) | dsimp only | omega | ((try simp only [World.size_alloc, World.size_setCell, World.size_drew, size_put]); omega) | (simp; done)))) (by (first | omega | ((try simp only [World.size_alloc, World.size_setCell, World.size_drew, size_put]); omega))) hb; clear hb)
  have hB4 : Below w.heap.size w w4 := hB3.trans (hB.mono hB3.size)
  go_ret
  exact ⟨rfl, by go_light; (repeat' (first | (with_reducible exact Below.refl _ _) | (with_reducible exact Nat.le_refl _) | (with_reducible assumption) | (with_reducible refine below_step ?_ ?_ hr) | (with_reducible refine below_over ?_ ?_ _) | (with_reducible refine Below.alloc ?_ ?_ _) | (with_reducible refine Below.setCell ?_ ?_ _) | (with_reducible refine below_put ?_ ?_ _) | (with_reducible refine Below.drew ?_) | (with_reducible refine below_drewN_ ?_ _) | (with_reducible refine le_drewN ?_ _) | (with_reducible refine over_le _ _ _ ?_) | (with_reducible refine le_alloc ?_ _) | (with_reducible refine le_setCell ?_ _ _) | (with_reducible refine le_put ?_ _ _) | (with_reducible refine le_drew ?_) | dsimp only | omega | ((try simp only [World.size_alloc, World.size_setCell, World.size_drew, size_put]); omega) | (simp; done)))⟩
set_option maxRecDepth 100000 in
set_option maxHeartbeats 25600000 in
theorem good (hp : p.at_ w) (hs : Rd w V3.enc s vs) (h : right22 [p] = 0) (h60 : s.n ≤ 60) (hk0 : (p.kind == 0) = false) (hn : newBad 3 p.id units = false) : Calls Try.prog 4 #[p.val, .int .i64 units, s.val] w fun e w' => e = .returned (.bool true) ∧ Below w.heap.size w w' := by
  have Hp := Lib.hid hp
  have H22 := Lib.hid h
  have Hr22 := Lib.hid (fun w' s (hs : Rd w' PD.enc s [p]) (hb : Below w.heap.size w w') => h ▸ ref22_Right s [p] w' hs (at_one (hp.toW hb)))
  have hl : decide ((60 : Int) < (s.n : Int)) = false := by simp; omega
  obtain ⟨T, hT⟩ : ∃ T, T = signF 7 (newM 3 p.id units) := ⟨_, rfl⟩
  have Hn : Hid (∀ w', Calls Try.prog 14 #[.int .u64 7, .int .i64 3, .int .i64 p.id, .int .i64 units] w' (Gives (.tuple #[MV.val ⟨3, 0, p.id, -1, units, -1, 0, -1, T⟩, .int .i64 0]) w')) := fun w' => by
    have h := media_New 7 3 p.id units w'
    rw [newV, if_neg (by rw [hn]; simp), ← hT] at h
    exact h
  obtain ⟨-, -, -, -, u0, u1⟩ := new_ok hn
  have HI0 : Hid (TInv p units ⟨3, 0, p.id, -1, units, -1, 0, -1, T⟩ 0 []) := tinv_start p units T u0
  have Hs := Lib.hid hs
  have hkd := (right_one h).2.2
  clear hp h hn hT hs
  obtain ⟨A, n, c⟩ := s
  dsimp only at h60 hl
  simp only [Sl.val]
  (go_enter Try.func4, Try.ntmps4; try dsimp only [List.append])
  go_upto_region 4 with (go_at_call 5; refine (top_alive _).mono ?_; rintro e w1 hg; obtain ⟨rfl, hb⟩ := hg.below; clear hg; have hz := hb.size; (try simp only [World.size_alloc, World.size_setCell, World.size_drew, size_put] at hz); have hB : Below w.heap.size w w1 := below_step (by (repeat' (first | (with_reducible exact Below.refl _ _) | (with_reducible exact Nat.le_refl _) | (with_reducible assumption) | (with_reducible refine below_step ?_ ?_ hr) | (with_reducible refine below_over ?_ ?_ _) | (with_reducible refine Below.alloc ?_ ?_ _) | (with_reducible refine Below.setCell ?_ ?_ _) | (with_reducible refine below_put ?_ ?_ _) | (with_reducible refine Below.drew ?_) | (with_reducible refine below_drewN_ ?_ _) | (with_reducible refine le_drewN ?_ _) | (with_reducible refine over_le _ _ _ ?_) | (with_reducible refine le_alloc ?_ _) | (with_reducible refine le_setCell ?_ _ _) | (with_reducible refine le_put ?_ _ _) | (with_reducible refine le_drew ?_) | dsimp only | omega | ((try simp only [World.size_alloc, World.size_setCell, World.size_drew, size_put]); omega) | (simp; done)))) (by (first | omega | ((try simp only [World.size_alloc, World.size_setCell, World.size_drew, size_put]); omega))) hb; have Q' : w1.heap[w.heap.size]? = _ := hb.block (w.heap.size) (by (first | omega | ((try simp only [World.size_alloc, World.size_setCell, World.size_drew, size_put]); omega))); simp only [alloc_block_if, put_block_if, over_block_if, set_block_if, setObj_cells, drew_block, drewN_block, Option.map_some, List.setIfInBounds_toArray, List.set_cons_zero, List.set_cons_succ, World.size_alloc, World.size_setCell, size_put, World.size_drew, if_true, if_false, ↓IntWalk.iteOmega] at Q'; have Q_0 := Q'; clear Q'; have q_0 := cell_of_block Q_0; clear hb)
  have hB1 := hB
  refine wp_letter (fun w2 hb => ?_)
  have hz := hb.size
  (try simp only [World.size_alloc, World.size_setCell, World.size_drew, size_put] at hz)
  have hB : Below w1.heap.size w1 w2 := below_step (by (repeat' (first | (with_reducible exact Below.refl _ _) | (with_reducible exact Nat.le_refl _) | (with_reducible assumption) | (with_reducible refine below_step ?_ ?_ hr) | (with_reducible refine below_over ?_ ?_ _) | (with_reducible refine Below.alloc ?_ ?_ _) | (with_reducible refine Below.setCell ?_ ?_ _) | (with_reducible refine below_put ?_ ?_ _) | (with_reducible refine Below.drew ?_) | (with_reducible refine below_drewN_ ?_ _) | (with_reducible refine le_drewN ?_ _) | (with_reducible refine over_le _ _ _ ?_) | (with_reducible refine le_alloc ?_ _) | (with_reducible refine le_setCell ?_ _ _) | (with_reducible refine le_put ?_ _ _) | (with_reducible refine le_drew ?_) | dsimp only | omega | ((try simp only [World.size_alloc, World.size_setCell, World.size_drew, size_put]); omega) | (simp; done)))) (by (first | omega | ((try simp only [World.size_alloc, World.size_setCell, World.size_drew, size_put]); omega))) hb
  have Q' : w2.heap[w.heap.size]? = _ := hb.block (w.heap.size) (by (first | omega | ((try simp only [World.size_alloc, World.size_setCell, World.size_drew, size_put]); omega)))
  simp only [alloc_block_if, put_block_if, over_block_if, set_block_if, setObj_cells, drew_block, drewN_block, Option.map_some, List.setIfInBounds_toArray, List.set_cons_zero, List.set_cons_succ, World.size_alloc, World.size_setCell, size_put, World.size_drew, if_true, if_false, ↓IntWalk.iteOmega, Q_0] at Q'
  clear Q_0
  have Q_0 := Q'
  clear Q'
  have Q' : w2.heap[w1.heap.size]? = _ := hb.block (w1.heap.size) (by (first | omega | ((try simp only [World.size_alloc, World.size_setCell, World.size_drew, size_put]); omega)))
  simp only [alloc_block_if, put_block_if, over_block_if, set_block_if, setObj_cells, drew_block, drewN_block, Option.map_some, List.setIfInBounds_toArray, List.set_cons_zero, List.set_cons_succ, World.size_alloc, World.size_setCell, size_put, World.size_drew, if_true, if_false, ↓IntWalk.iteOmega] at Q'
  have Qw1_0 := Q'
  clear Q'
  have q_0 := cell_of_block Q_0
  have qw1_0 := cell_of_block Qw1_0
  clear hb
  have hB2 : Below w.heap.size w w2 := hB1.trans (hB.mono hB1.size)
  have hB2' := hB
  go_upto_region 6 with (go_at_call 7; refine (Hr22.out _ ⟨some ⟨w1.heap.size, 0, none⟩, 1, 1⟩ (rd_one Qw1_0) hB2).mono ?_; rintro e w3 hg; obtain ⟨rfl, hb⟩ := hg.below; clear hg; have hz := hb.size; (try simp only [World.size_alloc, World.size_setCell, World.size_drew, size_put] at hz); have hB : Below w2.heap.size w2 w3 := below_step (by (repeat' (first | (with_reducible exact Below.refl _ _) | (with_reducible exact Nat.le_refl _) | (with_reducible assumption) | (with_reducible refine below_step ?_ ?_ hr) | (with_reducible refine below_over ?_ ?_ _) | (with_reducible refine Below.alloc ?_ ?_ _) | (with_reducible refine Below.setCell ?_ ?_ _) | (with_reducible refine below_put ?_ ?_ _) | (with_reducible refine Below.drew ?_) | (with_reducible refine below_drewN_ ?_ _) | (with_reducible refine le_drewN ?_ _) | (with_reducible refine over_le _ _ _ ?_) | (with_reducible refine le_alloc ?_ _) | (with_reducible refine le_setCell ?_ _ _) | (with_reducible refine le_put ?_ _ _) | (with_reducible refine le_drew ?_) | dsimp only | omega | ((try simp only [World.size_alloc, World.size_setCell, World.size_drew, size_put]); omega) | (simp; done)))) (by (first | omega | ((try simp only [World.size_alloc, World.size_setCell, World.size_drew, size_put]); omega))) hb; have Q' : w3.heap[w.heap.size]? = _ := hb.block (w.heap.size) (by (first | omega | ((try simp only [World.size_alloc, World.size_setCell, World.size_drew, size_put]); omega))); simp only [alloc_block_if, put_block_if, over_block_if, set_block_if, setObj_cells, drew_block, drewN_block, Option.map_some, List.setIfInBounds_toArray, List.set_cons_zero, List.set_cons_succ, World.size_alloc, World.size_setCell, size_put, World.size_drew, if_true, if_false, ↓IntWalk.iteOmega, Q_0] at Q'; clear Q_0; have Q_0 := Q'; clear Q'; have Q' : w3.heap[w1.heap.size]? = _ := hb.block (w1.heap.size) (by (first | omega | ((try simp only [World.size_alloc, World.size_setCell, World.size_drew, size_put]); omega))); simp only [alloc_block_if, put_block_if, over_block_if, set_block_if, setObj_cells, drew_block, drewN_block, Option.map_some, List.setIfInBounds_toArray, List.set_cons_zero, List.set_cons_succ, World.size_alloc, World.size_setCell, size_put, World.size_drew, if_true, if_false, ↓IntWalk.iteOmega, Qw1_0] at Q'; clear Qw1_0; have Qw1_0 := Q'; clear Q'; have q_0 := cell_of_block Q_0; have qw1_0 := cell_of_block Qw1_0; clear hb)
  have hB3 : Below w.heap.size w w3 := hB2.trans (hB.mono hB2.size)
  have hz3 : w2.heap.size ≤ w3.heap.size := hB.size
  go_upto_region 9 with (go_at_call 14; refine (Hn.out _).mono ?_; rintro e w4 hg; obtain ⟨rfl, hb⟩ := hg.below; clear hg; have hz := hb.size; (try simp only [World.size_alloc, World.size_setCell, World.size_drew, size_put] at hz); have hB : Below w3.heap.size w3 w4 := below_step (by (repeat' (first | (with_reducible exact Below.refl _ _) | (with_reducible exact Nat.le_refl _) | (with_reducible assumption) | (with_reducible refine below_step ?_ ?_ hr) | (with_reducible refine below_over ?_ ?_ _) | (with_reducible refine Below.alloc ?_ ?_ _) | (with_reducible refine Below.setCell ?_ ?_ _) | (with_reducible refine below_put ?_ ?_ _) | (with_reducible refine Below.drew ?_) | (with_reducible refine below_drewN_ ?_ _) | (with_reducible refine le_drewN ?_ _) | (with_reducible refine over_le _ _ _ ?_) | (with_reducible refine le_alloc ?_ _) | (with_reducible refine le_setCell ?_ _ _) | (with_reducible refine le_put ?_ _ _) | (with_reducible refine le_drew ?_) | dsimp only | omega | ((try simp only [World.size_alloc, World.size_setCell, World.size_drew, size_put]); omega) | (simp; done)))) (by (first | omega | ((try simp only [World.size_alloc, World.size_setCell, World.size_drew, size_put]); omega))) hb; have Q' : w4.heap[w.heap.size]? = _ := hb.block (w.heap.size) (by (first | omega | ((try simp only [World.size_alloc, World.size_setCell, World.size_drew, size_put]); omega))); simp only [alloc_block_if, put_block_if, over_block_if, set_block_if, setObj_cells, drew_block, drewN_block, Option.map_some, List.setIfInBounds_toArray, List.set_cons_zero, List.set_cons_succ, World.size_alloc, World.size_setCell, size_put, World.size_drew, if_true, if_false, ↓IntWalk.iteOmega, Q_0] at Q'; clear Q_0; have Q_0 := Q'; clear Q'; have Q' : w4.heap[w1.heap.size]? = _ := hb.block (w1.heap.size) (by (first | omega | ((try simp only [World.size_alloc, World.size_setCell, World.size_drew, size_put]); omega))); simp only [alloc_block_if, put_block_if, over_block_if, set_block_if, setObj_cells, drew_block, drewN_block, Option.map_some, List.setIfInBounds_toArray, List.set_cons_zero, List.set_cons_succ, World.size_alloc, World.size_setCell, size_put, World.size_drew, if_true, if_false, ↓IntWalk.iteOmega, Qw1_0] at Q'; clear Qw1_0; have Qw1_0 := Q'; clear Q'; have q_0 := cell_of_block Q_0; have qw1_0 := cell_of_block Qw1_0; clear hb)
  have hB4 : Below w.heap.size w w4 := hB3.trans (hB.mono hB3.size)
  have hz4 : w3.heap.size ≤ w4.heap.size := hB.size
  refine wp_letter (fun w5 hb => ?_)
  have hz := hb.size
  (try simp only [World.size_alloc, World.size_setCell, World.size_drew, size_put] at hz)
  have hB : Below w4.heap.size w4 w5 := below_step (by (repeat' (first | (with_reducible exact Below.refl _ _) | (with_reducible exact Nat.le_refl _) | (with_reducible assumption) | (with_reducible refine below_step ?_ ?_ hr) | (with_reducible refine below_over ?_ ?_ _) | (with_reducible refine Below.alloc ?_ ?_ _) | (with_reducible refine Below.setCell ?_ ?_ _) | (with_reducible refine below_put ?_ ?_ _) | (with_reducible refine Below.drew ?_) | (with_reducible refine below_drewN_ ?_ _) | (with_reducible refine le_drewN ?_ _) | (with_reducible refine over_le _ _ _ ?_) | (with_reducible refine le_alloc ?_ _) | (with_reducible refine le_setCell ?_ _ _) | (with_reducible refine le_put ?_ _ _) | (with_reducible refine le_drew ?_) | dsimp only | omega | ((try simp only [World.size_alloc, World.size_setCell, World.size_drew, size_put]); omega) | (simp; done)))) (by (first | omega | ((try simp only [World.size_alloc, World.size_setCell, World.size_drew, size_put]); omega))) hb
  have Q' : w5.heap[w.heap.size]? = _ := hb.block (w.heap.size) (by (first | omega | ((try simp only [World.size_alloc, World.size_setCell, World.size_drew, size_put]); omega)))
  simp only [alloc_block_if, put_block_if, over_block_if, set_block_if, setObj_cells, drew_block, drewN_block, Option.map_some, List.setIfInBounds_toArray, List.set_cons_zero, List.set_cons_succ, World.size_alloc, World.size_setCell, size_put, World.size_drew, if_true, if_false, ↓IntWalk.iteOmega, Q_0] at Q'
  clear Q_0
  have Q_0 := Q'
  clear Q'
  have Q' : w5.heap[w1.heap.size]? = _ := hb.block (w1.heap.size) (by (first | omega | ((try simp only [World.size_alloc, World.size_setCell, World.size_drew, size_put]); omega)))
  simp only [alloc_block_if, put_block_if, over_block_if, set_block_if, setObj_cells, drew_block, drewN_block, Option.map_some, List.setIfInBounds_toArray, List.set_cons_zero, List.set_cons_succ, World.size_alloc, World.size_setCell, size_put, World.size_drew, if_true, if_false, ↓IntWalk.iteOmega, Qw1_0] at Q'
  clear Qw1_0
  have Qw1_0 := Q'
  clear Q'
  have Q' : w5.heap[w4.heap.size]? = _ := hb.block (w4.heap.size) (by (first | omega | ((try simp only [World.size_alloc, World.size_setCell, World.size_drew, size_put]); omega)))
  simp only [alloc_block_if, put_block_if, over_block_if, set_block_if, setObj_cells, drew_block, drewN_block, Option.map_some, List.setIfInBounds_toArray, List.set_cons_zero, List.set_cons_succ, World.size_alloc, World.size_setCell, size_put, World.size_drew, if_true, if_false, ↓IntWalk.iteOmega] at Q'
  have Qw4_0 := Q'
  clear Q'
  have q_0 := cell_of_block Q_0
  have qw1_0 := cell_of_block Qw1_0
  have qw4_0 := cell_of_block Qw4_0
  clear hb
  have hB5 : Below w.heap.size w w5 := hB4.trans (hB.mono hB4.size)
  go_wp2_with fail
  have hD0 : OwnI (w5.alloc (.cells #[] 3)) w5.heap.size ⟨some ⟨w5.heap.size, 0, none⟩, 0, 0⟩ [] := own_empty _ _ _
  have HD0 := Lib.hid hD0
  refine wp_letter (fun w6 hb => ?_)
  have hz := hb.size
  (try simp only [World.size_alloc, World.size_setCell, World.size_drew, size_put] at hz)
  have hB : Below w5.heap.size w5 w6 := below_step (by (repeat' (first | (with_reducible exact Below.refl _ _) | (with_reducible exact Nat.le_refl _) | (with_reducible assumption) | (with_reducible refine below_step ?_ ?_ hr) | (with_reducible refine below_over ?_ ?_ _) | (with_reducible refine Below.alloc ?_ ?_ _) | (with_reducible refine Below.setCell ?_ ?_ _) | (with_reducible refine below_put ?_ ?_ _) | (with_reducible refine Below.drew ?_) | (with_reducible refine below_drewN_ ?_ _) | (with_reducible refine le_drewN ?_ _) | (with_reducible refine over_le _ _ _ ?_) | (with_reducible refine le_alloc ?_ _) | (with_reducible refine le_setCell ?_ _ _) | (with_reducible refine le_put ?_ _ _) | (with_reducible refine le_drew ?_) | dsimp only | omega | ((try simp only [World.size_alloc, World.size_setCell, World.size_drew, size_put]); omega) | (simp; done)))) (by (first | omega | ((try simp only [World.size_alloc, World.size_setCell, World.size_drew, size_put]); omega))) hb
  have HD0 := Lib.hid (HD0.out.toW (below_step (by (repeat' (first | (with_reducible exact Below.refl _ _) | (with_reducible exact Nat.le_refl _) | (with_reducible assumption) | (with_reducible refine below_step ?_ ?_ hr) | (with_reducible refine below_over ?_ ?_ _) | (with_reducible refine Below.alloc ?_ ?_ _) | (with_reducible refine Below.setCell ?_ ?_ _) | (with_reducible refine below_put ?_ ?_ _) | (with_reducible refine Below.drew ?_) | (with_reducible refine below_drewN_ ?_ _) | (with_reducible refine le_drewN ?_ _) | (with_reducible refine over_le _ _ _ ?_) | (with_reducible refine le_alloc ?_ _) | (with_reducible refine le_setCell ?_ _ _) | (with_reducible refine le_put ?_ _ _) | (with_reducible refine le_drew ?_) | dsimp only | omega | ((try simp only [World.size_alloc, World.size_setCell, World.size_drew, size_put]); omega) | (simp; done)))) (by (first | omega | ((try simp only [World.size_alloc, World.size_setCell, World.size_drew, size_put]); omega))) hb))
  have Q' : w6.heap[w.heap.size]? = _ := hb.block (w.heap.size) (by (first | omega | ((try simp only [World.size_alloc, World.size_setCell, World.size_drew, size_put]); omega)))
  simp only [alloc_block_if, put_block_if, over_block_if, set_block_if, setObj_cells, drew_block, drewN_block, Option.map_some, List.setIfInBounds_toArray, List.set_cons_zero, List.set_cons_succ, World.size_alloc, World.size_setCell, size_put, World.size_drew, if_true, if_false, ↓IntWalk.iteOmega, Q_0] at Q'
  clear Q_0
  have Q_0 := Q'
  clear Q'
  have Q' : w6.heap[w1.heap.size]? = _ := hb.block (w1.heap.size) (by (first | omega | ((try simp only [World.size_alloc, World.size_setCell, World.size_drew, size_put]); omega)))
  simp only [alloc_block_if, put_block_if, over_block_if, set_block_if, setObj_cells, drew_block, drewN_block, Option.map_some, List.setIfInBounds_toArray, List.set_cons_zero, List.set_cons_succ, World.size_alloc, World.size_setCell, size_put, World.size_drew, if_true, if_false, ↓IntWalk.iteOmega, Qw1_0] at Q'
  clear Qw1_0
  have Qw1_0 := Q'
  clear Q'
  have Q' : w6.heap[w4.heap.size]? = _ := hb.block (w4.heap.size) (by (first | omega | ((try simp only [World.size_alloc, World.size_setCell, World.size_drew, size_put]); omega)))
  simp only [alloc_block_if, put_block_if, over_block_if, set_block_if, setObj_cells, drew_block, drewN_block, Option.map_some, List.setIfInBounds_toArray, List.set_cons_zero, List.set_cons_succ, World.size_alloc, World.size_setCell, size_put, World.size_drew, if_true, if_false, ↓IntWalk.iteOmega, Qw4_0] at Q'
  clear Qw4_0
  have Qw4_0 := Q'
  clear Q'
  have q_0 := cell_of_block Q_0
  have qw1_0 := cell_of_block Qw1_0
  have qw4_0 := cell_of_block Qw4_0
  clear hb
  have hB6 : Below w.heap.size w w6 := hB5.trans (hB.mono hB5.size)
  have hz6 : w5.heap.size ≤ w6.heap.size := hB.size
  clear hD0
  go_loopw [10, 11, 12] (fun r d i wr => ∃ (k : Nat) (R : Int) (M : MV) (o : Sl) (ds : List Int), k ≤ n ∧ 0 ≤ R ∧ R ≤ k ∧ r = .int .i64 R ∧ d = o.val ∧ i = .int .i64 k ∧ ds.length ≤ k ∧ Hid (wr.heap[w4.heap.size]? = some (mvB M)) ∧ Hid (OwnI wr w5.heap.size o ds) ∧ Hid (TInv p units M R ds) ∧ Hid (wr.heap[w1.heap.size]? = some (pdB p)) ∧ Hid (wr.heap[w.heap.size]? = some (pdB p)) ∧ w6.heap.size ≤ wr.heap.size ∧ Below w.heap.size w wr) (fun _ _ i _ => n - (intOf i).toNat)
  case atStart => exact ⟨0, 0, _, ⟨some ⟨w5.heap.size, 0, none⟩, 0, 0⟩, [], Nat.zero_le _, Int.le_refl _, by simp, rfl, rfl, rfl, Nat.zero_le _, Lib.hid Qw4_0, HD0, HI0, Lib.hid Qw1_0, Lib.hid Q_0, Nat.le_refl _, hB6⟩
  case round =>
    obtain ⟨k, R, ⟨ms, mc, mp, mf, ml, md, mli, ma, mt⟩, o, ds, hk, hR0, hRk, rfl, rfl, rfl, hdk, HM, HO, HI, HL, H0, hzr, hBr⟩ := hrel
    clear q_0 qw1_0 qw4_0
    have Q_0 := H0.out
    have Qw1_0 := HL.out
    have Qw4_0 := HM.out
    dsimp only [pdB, mvB] at Q_0 Qw1_0 Qw4_0
    have q_0 := cell_of_block Q_0
    have qw1_0 := cell_of_block Qw1_0
    have qw4_0 := cell_of_block Qw4_0
    have hon : o.n ≤ k := by have := HO.out.len; omega
    by_cases hlt : k < n
    · obtain ⟨b, off, ⟨xa, xb, xc⟩, rfl, hbw, hc0, hc1, hc2⟩ := Hs.out.v3 hlt
      have e0 := (hBr.cell (p := ⟨b, _, none⟩) hbw).trans hc0
      have e1 := (hBr.cell (p := ⟨b, _, none⟩) hbw).trans hc1
      have e2 := (hBr.cell (p := ⟨b, _, none⟩) hbw).trans hc2
      obtain ⟨la0, la1⟩ := and7 xa
      obtain ⟨lb0, lb1⟩ := and7 xb
      obtain ⟨tm0, tm1⟩ := tmod_bd xc
      have g1 : 1 + bits BinOp.and IntKind.i64 xa 7 ≤ 9223372036854775807 := by omega
      have g2 : -9223372036854775808 ≤ 1 + bits BinOp.and IntKind.i64 xa 7 := by omega
      have g3 : 1 + bits BinOp.and IntKind.i64 xb 7 ≤ 9223372036854775807 := by omega
      have g4 : -9223372036854775808 ≤ 1 + bits BinOp.and IntKind.i64 xb 7 := by omega
      go_upto_region 14 with fail
      go_cut [13] (fun c13 wx => ∃ B, c13 = .pointer (some ⟨B, 0, none⟩) ∧ Below wr.heap.size wr wx ∧ wr.heap.size ≤ B ∧ Hid (wx.heap[B]? = some (.cells #[.int .i64 1, .int .i64 (1 + bits BinOp.and IntKind.i64 xa 7), .int .i64 (1 + bits BinOp.and IntKind.i64 xb 7), .int .i64 1, .int .u64 7, .int .i64 0, .slice none 0 0, .int .i64 0] 27 : Obj)))
      case first =>
        have hbr : b < wr.heap.size := by have := hBr.size; omega
        refine wp_region_ord (by kernel_rfl) (fun wx hr => ?_)
        simp only [List.length_cons, List.length_nil, Nat.reduceAdd]
        have hzx := hr.size
        have e0 := (hr.cell (p := ⟨b, _, none⟩) hbr).trans e0
        have e1 := (hr.cell (p := ⟨b, _, none⟩) hbr).trans e1
        refine wpAnyH_keep (over_ex (by go_light; (repeat' (first | (with_reducible exact Below.refl _ _) | (with_reducible exact Nat.le_refl _) | (with_reducible assumption) | (with_reducible refine below_step ?_ ?_ hr) | (with_reducible refine below_over ?_ ?_ _) | (with_reducible refine Below.alloc ?_ ?_ _) | (with_reducible refine Below.setCell ?_ ?_ _) | (with_reducible refine below_put ?_ ?_ _) | (with_reducible refine Below.drew ?_) | (with_reducible refine below_drewN_ ?_ _) | (with_reducible refine le_drewN ?_ _) | (with_reducible refine over_le _ _ _ ?_) | (with_reducible refine le_alloc ?_ _) | (with_reducible refine le_setCell ?_ _ _) | (with_reducible refine le_put ?_ _ _) | (with_reducible refine le_drew ?_) | dsimp only | omega | ((try simp only [World.size_alloc, World.size_setCell, World.size_drew, size_put]); omega) | (simp; done))))) (fun hSq => ?_)
        refine wpAnyH_one 0 rfl rfl (by kernel_rfl) (by kernel_rfl) (fun _ _ _ _ _ h => h) hSq.out ?_
        (first | go_big_quiet_step (fail) | quiet_step (fail))
        refine wpQuiet_nil ?_
        refine wpAnyH_one 1 rfl rfl (by kernel_rfl) (by kernel_rfl) (fun _ _ _ _ _ h => h) hSq.out ?_
        (first | go_big_quiet_step (fail) | quiet_step (fail))
        refine wpQuiet_nil ?_
        refine wpAnyH_one 2 rfl rfl (by kernel_rfl) (by kernel_rfl) (fun _ _ _ _ _ h => h) hSq.out ?_
        (first | go_big_quiet_step (fail) | quiet_step (fail))
        refine wpQuiet_nil ?_
        refine wpAnyH_one 3 rfl rfl (by kernel_rfl) (by kernel_rfl) (fun _ _ _ _ _ h => h) hSq.out ?_
        (first | go_big_quiet_step (fail) | quiet_step (fail))
        refine wpQuiet_nil ?_
        refine wpAnyH_one 4 rfl rfl (by kernel_rfl) (by kernel_rfl) (fun _ _ _ _ _ h => h) hSq.out ?_
        (first | go_big_quiet_step (fail) | quiet_step (fail))
        refine wpQuiet_nil ?_
        refine wpAnyH_one 5 rfl rfl (by kernel_rfl) (by kernel_rfl) (fun _ _ _ _ _ h => h) hSq.out ?_
        (first | go_big_quiet_step (fail) | quiet_step (fail))
        refine wpQuiet_nil ?_
        refine wpAnyH_one 6 rfl rfl (by kernel_rfl) (by kernel_rfl) (fun _ _ _ _ _ h => h) hSq.out ?_
        (first | go_big_quiet_step (fail) | quiet_step (fail))
        refine wpQuiet_nil ?_
        refine wpAnyH_one 7 rfl rfl (by kernel_rfl) (by kernel_rfl) (fun _ _ _ _ _ h => h) hSq.out ?_
        (first | go_big_quiet_step (fail) | quiet_step (fail))
        refine wpQuiet_nil ?_
        refine wpAnyH_one 8 rfl rfl (by kernel_rfl) (by kernel_rfl) (fun _ _ _ _ _ h => h) hSq.out ?_
        (first | go_big_quiet_step (fail) | quiet_step (fail))
        refine wpQuiet_nil ?_
        refine wpAnyH_one 9 rfl rfl (by kernel_rfl) (by kernel_rfl) (fun _ _ _ _ _ h => h) hSq.out ?_
        (first | go_big_quiet_step (fail) | quiet_step (fail))
        refine wpQuiet_nil ?_
        refine wpAnyH_one 10 rfl rfl (by kernel_rfl) (by kernel_rfl) (fun _ _ _ _ _ h => h) hSq.out ?_
        (first | go_big_quiet_step (fail) | quiet_step (fail))
        refine wpQuiet_nil ?_
        refine wpAnyH_one 11 rfl rfl (by kernel_rfl) (by kernel_rfl) (fun _ _ _ _ _ h => h) hSq.out ?_
        (first | go_big_quiet_step (fail) | quiet_step (fail))
        refine wpQuiet_nil ?_
        refine wpAnyH_one 12 rfl rfl (by kernel_rfl) (by kernel_rfl) (fun _ _ _ _ _ h => h) hSq.out ?_
        (first | go_big_quiet_step (fail) | quiet_step (fail))
        refine wpQuiet_nil ?_
        refine wpAnyH_one 13 rfl rfl (by kernel_rfl) (by kernel_rfl) (fun _ _ _ _ _ h => h) hSq.out ?_
        (first | go_big_quiet_step (fail) | quiet_step (fail))
        refine wpQuiet_nil ?_
        clear hSq
        refine wpAnyH_two 14 15 (by kernel_rfl) ?_ ?_
        · refine wpOp_at (k := 14) rfl (fun K hK => ?_)
          go_simp
          refine hK _ _ (over_ex (by go_light; (repeat' (first | (with_reducible exact Below.refl _ _) | (with_reducible exact Nat.le_refl _) | (with_reducible assumption) | (with_reducible refine below_step ?_ ?_ hr) | (with_reducible refine below_over ?_ ?_ _) | (with_reducible refine Below.alloc ?_ ?_ _) | (with_reducible refine Below.setCell ?_ ?_ _) | (with_reducible refine below_put ?_ ?_ _) | (with_reducible refine Below.drew ?_) | (with_reducible refine below_drewN_ ?_ _) | (with_reducible refine le_drewN ?_ _) | (with_reducible refine over_le _ _ _ ?_) | (with_reducible refine le_alloc ?_ _) | (with_reducible refine le_setCell ?_ _ _) | (with_reducible refine le_put ?_ _ _) | (with_reducible refine le_drew ?_) | dsimp only | omega | ((try simp only [World.size_alloc, World.size_setCell, World.size_drew, size_put]); omega) | (simp; done))))) ?_
          clear hK K
          refine wpAnyH_sole 15 rfl (by kernel_rfl) (fun K hK => ?_)
          go_simp
          refine hK _ _ (over_ex (by go_light; (repeat' (first | (with_reducible exact Below.refl _ _) | (with_reducible exact Nat.le_refl _) | (with_reducible assumption) | (with_reducible refine below_step ?_ ?_ hr) | (with_reducible refine below_over ?_ ?_ _) | (with_reducible refine Below.alloc ?_ ?_ _) | (with_reducible refine Below.setCell ?_ ?_ _) | (with_reducible refine below_put ?_ ?_ _) | (with_reducible refine Below.drew ?_) | (with_reducible refine below_drewN_ ?_ _) | (with_reducible refine le_drewN ?_ _) | (with_reducible refine over_le _ _ _ ?_) | (with_reducible refine le_alloc ?_ _) | (with_reducible refine le_setCell ?_ _ _) | (with_reducible refine le_put ?_ _ _) | (with_reducible refine le_drew ?_) | dsimp only | omega | ((try simp only [World.size_alloc, World.size_setCell, World.size_drew, size_put]); omega) | (simp; done))))) ?_
          clear hK K
          refine wpAnyH_sole 16 rfl (by kernel_rfl) (fun K hK => ?_)
          go_simp
          refine hK _ _ (over_ex (by go_light; (repeat' (first | (with_reducible exact Below.refl _ _) | (with_reducible exact Nat.le_refl _) | (with_reducible assumption) | (with_reducible refine below_step ?_ ?_ hr) | (with_reducible refine below_over ?_ ?_ _) | (with_reducible refine Below.alloc ?_ ?_ _) | (with_reducible refine Below.setCell ?_ ?_ _) | (with_reducible refine below_put ?_ ?_ _) | (with_reducible refine Below.drew ?_) | (with_reducible refine below_drewN_ ?_ _) | (with_reducible refine le_drewN ?_ _) | (with_reducible refine over_le _ _ _ ?_) | (with_reducible refine le_alloc ?_ _) | (with_reducible refine le_setCell ?_ _ _) | (with_reducible refine le_put ?_ _ _) | (with_reducible refine le_drew ?_) | dsimp only | omega | ((try simp only [World.size_alloc, World.size_setCell, World.size_drew, size_put]); omega) | (simp; done))))) ?_
          clear hK K
          refine wpAnyH_done (by kernel_rfl) ?_ _
          go_wp2_with fail
          go_meet
          case rel => exact ⟨wx.heap.size, rfl, by go_light; (repeat' (first | (with_reducible exact Below.refl _ _) | (with_reducible exact Nat.le_refl _) | (with_reducible assumption) | (with_reducible refine below_step ?_ ?_ hr) | (with_reducible refine below_over ?_ ?_ _) | (with_reducible refine Below.alloc ?_ ?_ _) | (with_reducible refine Below.setCell ?_ ?_ _) | (with_reducible refine below_put ?_ ?_ _) | (with_reducible refine Below.drew ?_) | (with_reducible refine below_drewN_ ?_ _) | (with_reducible refine le_drewN ?_ _) | (with_reducible refine over_le _ _ _ ?_) | (with_reducible refine le_alloc ?_ _) | (with_reducible refine le_setCell ?_ _ _) | (with_reducible refine le_put ?_ _ _) | (with_reducible refine le_drew ?_) | dsimp only | omega | ((try simp only [World.size_alloc, World.size_setCell, World.size_drew, size_put]); omega) | (simp; done))), hzx, by show _ = _; go_light; rw [alloc_block_if, if_pos rfl]⟩
        · refine wpOp_at (k := 15) rfl (fun K hK => ?_)
          go_simp
          refine hK _ _ (over_ex (by go_light; (repeat' (first | (with_reducible exact Below.refl _ _) | (with_reducible exact Nat.le_refl _) | (with_reducible assumption) | (with_reducible refine below_step ?_ ?_ hr) | (with_reducible refine below_over ?_ ?_ _) | (with_reducible refine Below.alloc ?_ ?_ _) | (with_reducible refine Below.setCell ?_ ?_ _) | (with_reducible refine below_put ?_ ?_ _) | (with_reducible refine Below.drew ?_) | (with_reducible refine below_drewN_ ?_ _) | (with_reducible refine le_drewN ?_ _) | (with_reducible refine over_le _ _ _ ?_) | (with_reducible refine le_alloc ?_ _) | (with_reducible refine le_setCell ?_ _ _) | (with_reducible refine le_put ?_ _ _) | (with_reducible refine le_drew ?_) | dsimp only | omega | ((try simp only [World.size_alloc, World.size_setCell, World.size_drew, size_put]); omega) | (simp; done))))) ?_
          clear hK K
          refine wpAnyH_sole 14 rfl (by kernel_rfl) (fun K hK => ?_)
          go_simp
          refine hK _ _ (over_ex (by go_light; (repeat' (first | (with_reducible exact Below.refl _ _) | (with_reducible exact Nat.le_refl _) | (with_reducible assumption) | (with_reducible refine below_step ?_ ?_ hr) | (with_reducible refine below_over ?_ ?_ _) | (with_reducible refine Below.alloc ?_ ?_ _) | (with_reducible refine Below.setCell ?_ ?_ _) | (with_reducible refine below_put ?_ ?_ _) | (with_reducible refine Below.drew ?_) | (with_reducible refine below_drewN_ ?_ _) | (with_reducible refine le_drewN ?_ _) | (with_reducible refine over_le _ _ _ ?_) | (with_reducible refine le_alloc ?_ _) | (with_reducible refine le_setCell ?_ _ _) | (with_reducible refine le_put ?_ _ _) | (with_reducible refine le_drew ?_) | dsimp only | omega | ((try simp only [World.size_alloc, World.size_setCell, World.size_drew, size_put]); omega) | (simp; done))))) ?_
          clear hK K
          refine wpAnyH_sole 16 rfl (by kernel_rfl) (fun K hK => ?_)
          go_simp
          refine hK _ _ (over_ex (by go_light; (repeat' (first | (with_reducible exact Below.refl _ _) | (with_reducible exact Nat.le_refl _) | (with_reducible assumption) | (with_reducible refine below_step ?_ ?_ hr) | (with_reducible refine below_over ?_ ?_ _) | (with_reducible refine Below.alloc ?_ ?_ _) | (with_reducible refine Below.setCell ?_ ?_ _) | (with_reducible refine below_put ?_ ?_ _) | (with_reducible refine Below.drew ?_) | (with_reducible refine below_drewN_ ?_ _) | (with_reducible refine le_drewN ?_ _) | (with_reducible refine over_le _ _ _ ?_) | (with_reducible refine le_alloc ?_ _) | (with_reducible refine le_setCell ?_ _ _) | (with_reducible refine le_put ?_ _ _) | (with_reducible refine le_drew ?_) | dsimp only | omega | ((try simp only [World.size_alloc, World.size_setCell, World.size_drew, size_put]); omega) | (simp; done))))) ?_
          clear hK K
          refine wpAnyH_done (by kernel_rfl) ?_ _
          go_wp2_with fail
          go_meet
          case rel => exact ⟨wx.heap.size, rfl, by go_light; (repeat' (first | (with_reducible exact Below.refl _ _) | (with_reducible exact Nat.le_refl _) | (with_reducible assumption) | (with_reducible refine below_step ?_ ?_ hr) | (with_reducible refine below_over ?_ ?_ _) | (with_reducible refine Below.alloc ?_ ?_ _) | (with_reducible refine Below.setCell ?_ ?_ _) | (with_reducible refine below_put ?_ ?_ _) | (with_reducible refine Below.drew ?_) | (with_reducible refine below_drewN_ ?_ _) | (with_reducible refine le_drewN ?_ _) | (with_reducible refine over_le _ _ _ ?_) | (with_reducible refine le_alloc ?_ _) | (with_reducible refine le_setCell ?_ _ _) | (with_reducible refine le_put ?_ _ _) | (with_reducible refine le_drew ?_) | dsimp only | omega | ((try simp only [World.size_alloc, World.size_setCell, World.size_drew, size_put]); omega) | (simp; done))), hzx, by show _ = _; go_light; rw [alloc_block_if, if_pos rfl]⟩
      case rest =>
        obtain ⟨B, rfl, hBc, hBB, hQB⟩ := hcut
        have hbr : b < wr.heap.size := by have := hBr.size; omega
        have hOb : ∀ g, o.val.ownBlock = some g → w5.heap.size ≤ g ∧ g < wr.heap.size := fun g hg => HO.out.block g hg
        have e2 := (hBc.cell (p := ⟨b, _, none⟩) hbr).trans e2
        have hzc := hBc.size
        have Q_0 := (hBc.block _ (by omega)).trans Q_0
        have Qw1_0 := (hBc.block _ (by omega)).trans Qw1_0
        have Qw4_0 := (hBc.block _ (by omega)).trans Qw4_0
        clear q_0 qw1_0 qw4_0 e0 e1
        have q_0 := cell_of_block Q_0
        have qw1_0 := cell_of_block Qw1_0
        have qw4_0 := cell_of_block Qw4_0
        have HO := Lib.hid (HO.out.toW hBc)
        have hBwc : Below w.heap.size w wc := hBr.trans (hBc.mono hBr.size)
        obtain ⟨LF, hLF⟩ : ∃ LF, LF = 1 + bits BinOp.and IntKind.i64 xa 7 := ⟨_, rfl⟩
        obtain ⟨OP, hOP⟩ : ∃ OP, OP = 1 + bits BinOp.and IntKind.i64 xb 7 := ⟨_, rfl⟩
        rw [← hLF, ← hOP] at hQB
        have lf0 : 1 ≤ LF := by omega
        have lf1 : LF ≤ 8 := by omega
        clear hLF hOP g1 g2 g3 g4 la0 la1 lb0 lb1
        have Q_B := hQB.out
        have q_B := cell_of_block Q_B
        have L_B : B < wc.heap.size := (Array.getElem?_eq_some_iff.1 Q_B).1
        go_upto_region 16 with fail
        generalize Int.tmod xc 20000000 = t at tm0 tm1 ⊢
        cases htn : decide (t < 0)
        · have t0 : 0 ≤ t := by simpa using htn
          clear q_B
          rw [← put_self Q_B]
          go_upto_region 18 with fail
          refine wp_letter (fun w12 hb => ?_)
          have hz := hb.size
          (try simp only [World.size_alloc, World.size_setCell, World.size_drew, size_put] at hz)
          have hB : Below wr.heap.size wr w12 := below_step (by (repeat' (first | (with_reducible exact Below.refl _ _) | (with_reducible exact Nat.le_refl _) | (with_reducible assumption) | (with_reducible refine below_step ?_ ?_ hr) | (with_reducible refine below_over ?_ ?_ _) | (with_reducible refine Below.alloc ?_ ?_ _) | (with_reducible refine Below.setCell ?_ ?_ _) | (with_reducible refine below_put ?_ ?_ _) | (with_reducible refine Below.drew ?_) | (with_reducible refine below_drewN_ ?_ _) | (with_reducible refine le_drewN ?_ _) | (with_reducible refine over_le _ _ _ ?_) | (with_reducible refine le_alloc ?_ _) | (with_reducible refine le_setCell ?_ _ _) | (with_reducible refine le_put ?_ _ _) | (with_reducible refine le_drew ?_) | dsimp only | omega | ((try simp only [World.size_alloc, World.size_setCell, World.size_drew, size_put]); omega) | (simp; done)))) (by (first | omega | ((try simp only [World.size_alloc, World.size_setCell, World.size_drew, size_put]); omega))) hb
          have hb_w12 := hb
          have Q' : w12.heap[w.heap.size]? = _ := hb.block (w.heap.size) (by (first | omega | ((try simp only [World.size_alloc, World.size_setCell, World.size_drew, size_put]); omega)))
          simp only [alloc_block_if, put_block_if, over_block_if, set_block_if, setObj_cells, drew_block, drewN_block, Option.map_some, List.setIfInBounds_toArray, List.set_cons_zero, List.set_cons_succ, World.size_alloc, World.size_setCell, size_put, World.size_drew, if_true, if_false, ↓IntWalk.iteOmega, L_B, Q_0] at Q'
          clear Q_0
          have Q_0 := Q'
          clear Q'
          have Q' : w12.heap[w1.heap.size]? = _ := hb.block (w1.heap.size) (by (first | omega | ((try simp only [World.size_alloc, World.size_setCell, World.size_drew, size_put]); omega)))
          simp only [alloc_block_if, put_block_if, over_block_if, set_block_if, setObj_cells, drew_block, drewN_block, Option.map_some, List.setIfInBounds_toArray, List.set_cons_zero, List.set_cons_succ, World.size_alloc, World.size_setCell, size_put, World.size_drew, if_true, if_false, ↓IntWalk.iteOmega, L_B, Qw1_0] at Q'
          clear Qw1_0
          have Qw1_0 := Q'
          clear Q'
          have Q' : w12.heap[w4.heap.size]? = _ := hb.block (w4.heap.size) (by (first | omega | ((try simp only [World.size_alloc, World.size_setCell, World.size_drew, size_put]); omega)))
          simp only [alloc_block_if, put_block_if, over_block_if, set_block_if, setObj_cells, drew_block, drewN_block, Option.map_some, List.setIfInBounds_toArray, List.set_cons_zero, List.set_cons_succ, World.size_alloc, World.size_setCell, size_put, World.size_drew, if_true, if_false, ↓IntWalk.iteOmega, L_B, Qw4_0] at Q'
          clear Qw4_0
          have Qw4_0 := Q'
          clear Q'
          have Q' : w12.heap[B]? = _ := hb.block (B) (by (first | omega | ((try simp only [World.size_alloc, World.size_setCell, World.size_drew, size_put]); omega)))
          simp only [alloc_block_if, put_block_if, over_block_if, set_block_if, setObj_cells, drew_block, drewN_block, Option.map_some, List.setIfInBounds_toArray, List.set_cons_zero, List.set_cons_succ, World.size_alloc, World.size_setCell, size_put, World.size_drew, if_true, if_false, ↓IntWalk.iteOmega, L_B, Q_B] at Q'
          clear Q_B
          have Q_B := Q'
          clear Q'
          have q_0 := cell_of_block Q_0
          have qw1_0 := cell_of_block Qw1_0
          have qw4_0 := cell_of_block Qw4_0
          have q_B := cell_of_block Q_B
          clear hb
          have hBw12 : Below w.heap.size w w12 := hBr.trans (hB.mono hBr.size)
          have HO := Lib.hid ((HO.out.put (o := _) L_B (fun g hg e => by have := (hOb g hg).2; omega)).toW hb_w12)
          have hl12 : wc.heap.size ≤ w12.heap.size := by have := hb_w12.size; rwa [size_put] at this
          have Hs12 := Lib.hid (rd_one Qw1_0)
          have HP12 := Lib.hid (at_one (Hp.out.toW hBw12))
          by_cases hE : passE ⟨1, LF, OP, 1, 7, 0, ⟨none, 0, 0⟩, t, []⟩ [p] ⟨ms, mc, mp, mf, ml, md, mli, ma, mt⟩ t = 0
          · obtain ⟨-, -, q, hfq, hu⟩ := pass_zero hE
            obtain rfl : p = q := (find_one hfq).symm
            obtain ⟨T', hT'⟩ : ∃ T', T' = signF 7 (useM p ⟨ms, mc, mp, mf, ml, md, mli, ma, mt⟩ LF t) := ⟨_, rfl⟩
            have hst := tinv_step (T := T') HI.out t0 tm1 hu
            have hpk := gate_Pass_yes (g := ⟨1, LF, OP, 1, 7, 0, ⟨none, 0, 0⟩, t, []⟩) (m := ⟨ms, mc, mp, mf, ml, md, mli, ma, mt⟩) p (Rd.nil_ _ _) t0 (show t ≤ 20000000 by omega) Hs12.out HP12.out H22.out hE hfq (show (0 : Int) ≤ 1 by decide) (show (0 : Nat) ≤ 1000 by decide)
            obtain ⟨nf, nl, nd, hM⟩ : ∃ nf nl nd, (useM p ⟨ms, mc, mp, mf, ml, md, mli, ma, mt⟩ LF t).tagged T' = ⟨ms, mc + 1, mp, nf, nl, nd, LF, t, T'⟩ := ⟨_, _, _, rfl⟩
            rw [hM] at hst
            have Hpk := Lib.hid (hpk.mono (fun e w'' h => by obtain ⟨h1, v, h2, h3⟩ := h; exact (show Below w12.heap.size w12 w'' ∧ ∃ v : Sl, e = .returned (.tuple #[GV.val ⟨1, LF, OP, 1 + 1, 7, 0, v, t, []⟩, MV.val ⟨ms, mc + 1, mp, nf, nl, nd, LF, t, T'⟩, rideV 1 1 ms (mc + 1) mp LF t, .int .i64 0]) from ⟨h1, v, by rw [h2, ← hT', hM]⟩)))
            have Hst := Lib.hid hst
            have hdl := HI.out.last
            have Hdl := Lib.hid hdl
            dsimp only at Hst Hdl
            clear hst hpk hM hT' hu hfq hE hdl
            go_upto_region 19 with (go_at_call 13; refine Hpk.out.mono ?_; rintro e w13 ⟨hb, v, rfl⟩; have hz := hb.size; (try simp only [World.size_alloc, World.size_setCell, World.size_drew, size_put] at hz); have hB : Below w12.heap.size w12 w13 := below_step (by (repeat' (first | (with_reducible exact Below.refl _ _) | (with_reducible exact Nat.le_refl _) | (with_reducible assumption) | (with_reducible refine below_step ?_ ?_ hr) | (with_reducible refine below_over ?_ ?_ _) | (with_reducible refine Below.alloc ?_ ?_ _) | (with_reducible refine Below.setCell ?_ ?_ _) | (with_reducible refine below_put ?_ ?_ _) | (with_reducible refine Below.drew ?_) | (with_reducible refine below_drewN_ ?_ _) | (with_reducible refine le_drewN ?_ _) | (with_reducible refine over_le _ _ _ ?_) | (with_reducible refine le_alloc ?_ _) | (with_reducible refine le_setCell ?_ _ _) | (with_reducible refine le_put ?_ _ _) | (with_reducible refine le_drew ?_) | dsimp only | omega | ((try simp only [World.size_alloc, World.size_setCell, World.size_drew, size_put]); omega) | (simp; done)))) (by (first | omega | ((try simp only [World.size_alloc, World.size_setCell, World.size_drew, size_put]); omega))) hb; have HO := Lib.hid (HO.out.toW (below_step (by (repeat' (first | (with_reducible exact Below.refl _ _) | (with_reducible exact Nat.le_refl _) | (with_reducible assumption) | (with_reducible refine below_step ?_ ?_ hr) | (with_reducible refine below_over ?_ ?_ _) | (with_reducible refine Below.alloc ?_ ?_ _) | (with_reducible refine Below.setCell ?_ ?_ _) | (with_reducible refine below_put ?_ ?_ _) | (with_reducible refine Below.drew ?_) | (with_reducible refine below_drewN_ ?_ _) | (with_reducible refine le_drewN ?_ _) | (with_reducible refine over_le _ _ _ ?_) | (with_reducible refine le_alloc ?_ _) | (with_reducible refine le_setCell ?_ _ _) | (with_reducible refine le_put ?_ _ _) | (with_reducible refine le_drew ?_) | dsimp only | omega | ((try simp only [World.size_alloc, World.size_setCell, World.size_drew, size_put]); omega) | (simp; done)))) (by (first | omega | ((try simp only [World.size_alloc, World.size_setCell, World.size_drew, size_put]); omega))) hb)); have Q' : w13.heap[w.heap.size]? = _ := hb.block (w.heap.size) (by (first | omega | ((try simp only [World.size_alloc, World.size_setCell, World.size_drew, size_put]); omega))); simp only [alloc_block_if, put_block_if, over_block_if, set_block_if, setObj_cells, drew_block, drewN_block, Option.map_some, List.setIfInBounds_toArray, List.set_cons_zero, List.set_cons_succ, World.size_alloc, World.size_setCell, size_put, World.size_drew, if_true, if_false, ↓IntWalk.iteOmega, Q_0] at Q'; clear Q_0; have Q_0 := Q'; clear Q'; have Q' : w13.heap[w1.heap.size]? = _ := hb.block (w1.heap.size) (by (first | omega | ((try simp only [World.size_alloc, World.size_setCell, World.size_drew, size_put]); omega))); simp only [alloc_block_if, put_block_if, over_block_if, set_block_if, setObj_cells, drew_block, drewN_block, Option.map_some, List.setIfInBounds_toArray, List.set_cons_zero, List.set_cons_succ, World.size_alloc, World.size_setCell, size_put, World.size_drew, if_true, if_false, ↓IntWalk.iteOmega, Qw1_0] at Q'; clear Qw1_0; have Qw1_0 := Q'; clear Q'; have Q' : w13.heap[w4.heap.size]? = _ := hb.block (w4.heap.size) (by (first | omega | ((try simp only [World.size_alloc, World.size_setCell, World.size_drew, size_put]); omega))); simp only [alloc_block_if, put_block_if, over_block_if, set_block_if, setObj_cells, drew_block, drewN_block, Option.map_some, List.setIfInBounds_toArray, List.set_cons_zero, List.set_cons_succ, World.size_alloc, World.size_setCell, size_put, World.size_drew, if_true, if_false, ↓IntWalk.iteOmega, Qw4_0] at Q'; clear Qw4_0; have Qw4_0 := Q'; clear Q'; have q_0 := cell_of_block Q_0; have qw1_0 := cell_of_block Qw1_0; have qw4_0 := cell_of_block Qw4_0; clear hb)
            have hBw13 : Below w.heap.size w w13 := hBw12.trans (hB.mono hBw12.size)
            have hl13 : w12.heap.size ≤ w13.heap.size := hB.size
            refine wp_letter (fun w14 hb => ?_)
            have hz := hb.size
            (try simp only [World.size_alloc, World.size_setCell, World.size_drew, size_put] at hz)
            have hB : Below w13.heap.size w13 w14 := below_step (by (repeat' (first | (with_reducible exact Below.refl _ _) | (with_reducible exact Nat.le_refl _) | (with_reducible assumption) | (with_reducible refine below_step ?_ ?_ hr) | (with_reducible refine below_over ?_ ?_ _) | (with_reducible refine Below.alloc ?_ ?_ _) | (with_reducible refine Below.setCell ?_ ?_ _) | (with_reducible refine below_put ?_ ?_ _) | (with_reducible refine Below.drew ?_) | (with_reducible refine below_drewN_ ?_ _) | (with_reducible refine le_drewN ?_ _) | (with_reducible refine over_le _ _ _ ?_) | (with_reducible refine le_alloc ?_ _) | (with_reducible refine le_setCell ?_ _ _) | (with_reducible refine le_put ?_ _ _) | (with_reducible refine le_drew ?_) | dsimp only | omega | ((try simp only [World.size_alloc, World.size_setCell, World.size_drew, size_put]); omega) | (simp; done)))) (by (first | omega | ((try simp only [World.size_alloc, World.size_setCell, World.size_drew, size_put]); omega))) hb
            have HO := Lib.hid (HO.out.toW (below_step (by (repeat' (first | (with_reducible exact Below.refl _ _) | (with_reducible exact Nat.le_refl _) | (with_reducible assumption) | (with_reducible refine below_step ?_ ?_ hr) | (with_reducible refine below_over ?_ ?_ _) | (with_reducible refine Below.alloc ?_ ?_ _) | (with_reducible refine Below.setCell ?_ ?_ _) | (with_reducible refine below_put ?_ ?_ _) | (with_reducible refine Below.drew ?_) | (with_reducible refine below_drewN_ ?_ _) | (with_reducible refine le_drewN ?_ _) | (with_reducible refine over_le _ _ _ ?_) | (with_reducible refine le_alloc ?_ _) | (with_reducible refine le_setCell ?_ _ _) | (with_reducible refine le_put ?_ _ _) | (with_reducible refine le_drew ?_) | dsimp only | omega | ((try simp only [World.size_alloc, World.size_setCell, World.size_drew, size_put]); omega) | (simp; done)))) (by (first | omega | ((try simp only [World.size_alloc, World.size_setCell, World.size_drew, size_put]); omega))) hb))
            have Q' : w14.heap[w.heap.size]? = _ := hb.block (w.heap.size) (by (first | omega | ((try simp only [World.size_alloc, World.size_setCell, World.size_drew, size_put]); omega)))
            simp only [alloc_block_if, put_block_if, over_block_if, set_block_if, setObj_cells, drew_block, drewN_block, Option.map_some, List.setIfInBounds_toArray, List.set_cons_zero, List.set_cons_succ, World.size_alloc, World.size_setCell, size_put, World.size_drew, if_true, if_false, ↓IntWalk.iteOmega, Q_0] at Q'
            clear Q_0
            have Q_0 := Q'
            clear Q'
            have Q' : w14.heap[w1.heap.size]? = _ := hb.block (w1.heap.size) (by (first | omega | ((try simp only [World.size_alloc, World.size_setCell, World.size_drew, size_put]); omega)))
            simp only [alloc_block_if, put_block_if, over_block_if, set_block_if, setObj_cells, drew_block, drewN_block, Option.map_some, List.setIfInBounds_toArray, List.set_cons_zero, List.set_cons_succ, World.size_alloc, World.size_setCell, size_put, World.size_drew, if_true, if_false, ↓IntWalk.iteOmega, Qw1_0] at Q'
            clear Qw1_0
            have Qw1_0 := Q'
            clear Q'
            have Q' : w14.heap[w4.heap.size]? = _ := hb.block (w4.heap.size) (by (first | omega | ((try simp only [World.size_alloc, World.size_setCell, World.size_drew, size_put]); omega)))
            simp only [alloc_block_if, put_block_if, over_block_if, set_block_if, setObj_cells, drew_block, drewN_block, Option.map_some, List.setIfInBounds_toArray, List.set_cons_zero, List.set_cons_succ, World.size_alloc, World.size_setCell, size_put, World.size_drew, if_true, if_false, ↓IntWalk.iteOmega, Qw4_0] at Q'
            clear Qw4_0
            have Qw4_0 := Q'
            clear Q'
            have Q' : w14.heap[w13.heap.size + 1]? = _ := hb.block (w13.heap.size + 1) (by (first | omega | ((try simp only [World.size_alloc, World.size_setCell, World.size_drew, size_put]); omega)))
            simp only [alloc_block_if, put_block_if, over_block_if, set_block_if, setObj_cells, drew_block, drewN_block, Option.map_some, List.setIfInBounds_toArray, List.set_cons_zero, List.set_cons_succ, World.size_alloc, World.size_setCell, size_put, World.size_drew, if_true, if_false, ↓IntWalk.iteOmega] at Q'
            have Qw13_1 := Q'
            clear Q'
            have q_0 := cell_of_block Q_0
            have qw1_0 := cell_of_block Qw1_0
            have Lw4_0 : w4.heap.size < w14.heap.size := (by (first | omega | ((try simp only [World.size_alloc, World.size_setCell, World.size_drew, size_put]); omega)))
            have qw13_1 := cell_of_block Qw13_1
            clear hb
            rw [← put_self Qw4_0]
            have hBw14 : Below w.heap.size w w14 := hBw13.trans (hB.mono hBw13.size)
            have hl14 : w13.heap.size ≤ w14.heap.size := hB.size
            have r1 : R + 1 ≤ 9223372036854775807 := by omega
            have r2 : -9223372036854775808 ≤ R + 1 := by omega
            have hl5 : w4.heap.size < w14.heap.size := by omega
            go_upto_region 23 with fail
            refine wp_letter (fun w15 hb => ?_)
            have hz := hb.size
            (try simp only [World.size_alloc, World.size_setCell, World.size_drew, size_put] at hz)
            have hB : Below w.heap.size w w15 := below_step (by (repeat' (first | (with_reducible exact Below.refl _ _) | (with_reducible exact Nat.le_refl _) | (with_reducible assumption) | (with_reducible refine below_step ?_ ?_ hr) | (with_reducible refine below_over ?_ ?_ _) | (with_reducible refine Below.alloc ?_ ?_ _) | (with_reducible refine Below.setCell ?_ ?_ _) | (with_reducible refine below_put ?_ ?_ _) | (with_reducible refine Below.drew ?_) | (with_reducible refine below_drewN_ ?_ _) | (with_reducible refine le_drewN ?_ _) | (with_reducible refine over_le _ _ _ ?_) | (with_reducible refine le_alloc ?_ _) | (with_reducible refine le_setCell ?_ _ _) | (with_reducible refine le_put ?_ _ _) | (with_reducible refine le_drew ?_) | dsimp only | omega | ((try simp only [World.size_alloc, World.size_setCell, World.size_drew, size_put]); omega) | (simp; done)))) (by (first | omega | ((try simp only [World.size_alloc, World.size_setCell, World.size_drew, size_put]); omega))) hb
            have hb_w15 := hb
            have Q' : w15.heap[w.heap.size]? = _ := hb.block (w.heap.size) (by (first | omega | ((try simp only [World.size_alloc, World.size_setCell, World.size_drew, size_put]); omega)))
            simp only [alloc_block_if, put_block_if, over_block_if, set_block_if, setObj_cells, drew_block, drewN_block, Option.map_some, List.setIfInBounds_toArray, List.set_cons_zero, List.set_cons_succ, World.size_alloc, World.size_setCell, size_put, World.size_drew, if_true, if_false, ↓IntWalk.iteOmega, Lw4_0, Q_0] at Q'
            clear Q_0
            have Q_0 := Q'
            clear Q'
            have Q' : w15.heap[w1.heap.size]? = _ := hb.block (w1.heap.size) (by (first | omega | ((try simp only [World.size_alloc, World.size_setCell, World.size_drew, size_put]); omega)))
            simp only [alloc_block_if, put_block_if, over_block_if, set_block_if, setObj_cells, drew_block, drewN_block, Option.map_some, List.setIfInBounds_toArray, List.set_cons_zero, List.set_cons_succ, World.size_alloc, World.size_setCell, size_put, World.size_drew, if_true, if_false, ↓IntWalk.iteOmega, Lw4_0, Qw1_0] at Q'
            clear Qw1_0
            have Qw1_0 := Q'
            clear Q'
            have Q' : w15.heap[w4.heap.size]? = _ := hb.block (w4.heap.size) (by (first | omega | ((try simp only [World.size_alloc, World.size_setCell, World.size_drew, size_put]); omega)))
            simp only [alloc_block_if, put_block_if, over_block_if, set_block_if, setObj_cells, drew_block, drewN_block, Option.map_some, List.setIfInBounds_toArray, List.set_cons_zero, List.set_cons_succ, World.size_alloc, World.size_setCell, size_put, World.size_drew, if_true, if_false, ↓IntWalk.iteOmega, Lw4_0, Qw4_0] at Q'
            clear Qw4_0
            have Qw4_0 := Q'
            clear Q'
            have Q' : w15.heap[w13.heap.size + 1]? = _ := hb.block (w13.heap.size + 1) (by (first | omega | ((try simp only [World.size_alloc, World.size_setCell, World.size_drew, size_put]); omega)))
            simp only [alloc_block_if, put_block_if, over_block_if, set_block_if, setObj_cells, drew_block, drewN_block, Option.map_some, List.setIfInBounds_toArray, List.set_cons_zero, List.set_cons_succ, World.size_alloc, World.size_setCell, size_put, World.size_drew, if_true, if_false, ↓IntWalk.iteOmega, Lw4_0, Qw13_1] at Q'
            clear Qw13_1
            have Qw13_1 := Q'
            clear Q'
            have q_0 := cell_of_block Q_0
            have qw1_0 := cell_of_block Qw1_0
            have qw4_0 := cell_of_block Qw4_0
            have qw13_1 := cell_of_block Qw13_1
            clear hb
            have HO := Lib.hid ((HO.out.put (o := _) hl5 (fun g hg e => by have := (hOb g hg).1; omega)).toW hb_w15)
            have hl15 : w14.heap.size ≤ w15.heap.size := by have := hb_w15.size; rwa [size_put] at this
            have hBw15 : Below w.heap.size w w15 := hB
            have hd0 : 0 ≤ t / 86400 := by omega
            rcases Hdl.out with ⟨hds, hmd⟩ | hlast
            · subst hds
              have hn0 : o.n = 0 := HO.out.len.symm
              have hn0b : ((o.n : Int) == 0) = true := by simp; omega
              have Hst2 : Hid (TInv p units ⟨ms, mc + 1, mp, nf, nl, nd, LF, t, T'⟩ (R + 1) ([] ++ [t / 86400])) := by
                have h := Hst.out
                rw [if_neg (by omega)] at h
                exact h
              clear Hst Hdl hn0
              go_upto_region 24 with fail
              go_wp2_with (at_builtin
                           obtain ⟨i0, hi, hi0, hi1, hi2⟩ := info_parts info_int
                           go_must (refine wpList_append_rd rfl _ _ _ rfl w5.heap.size 3 i0 _ 1 8 Try.underlying23 hi hi0 hi1 hi2 rfl (by decide) (fun _ => rfl) one_int (s := o) (y := ⟨some ⟨w15.heap.size, 0, none⟩, 1, 1⟩) (xs := []) (ys := [t / 86400]) rfl rfl (HO.out.alloc' _) (rd_new 1 (fun _ => rfl) [_] rfl rfl rfl (by simp [maxLen])) (by simp only [maxLen]; omega) (by dsimp only; omega) (by simp; omega) ?_)
                           clear hi hi0 hi1 hi2 i0
                           intro o2 w16 hv hg hpos
                           have HO4 := Lib.hid hv
                           go_must (have hB16 : Below w.heap.size w w16 := Below.grown (by (repeat' (first | (with_reducible exact Below.refl _ _) | (with_reducible exact Nat.le_refl _) | (with_reducible assumption) | (with_reducible refine below_step ?_ ?_ hr) | (with_reducible refine below_over ?_ ?_ _) | (with_reducible refine Below.alloc ?_ ?_ _) | (with_reducible refine Below.setCell ?_ ?_ _) | (with_reducible refine below_put ?_ ?_ _) | (with_reducible refine Below.drew ?_) | (with_reducible refine below_drewN_ ?_ _) | (with_reducible refine le_drewN ?_ _) | (with_reducible refine over_le _ _ _ ?_) | (with_reducible refine le_alloc ?_ _) | (with_reducible refine le_setCell ?_ _ _) | (with_reducible refine le_put ?_ _ _) | (with_reducible refine le_drew ?_) | dsimp only | omega | ((try simp only [World.size_alloc, World.size_setCell, World.size_drew, size_put]); omega) | (simp; done)))) hg (by simp; omega) (fun g hg2 => by have := (HO.out.block g hg2).1; omega))
                           go_must (have Z0 := Lib.hid ((hg.block _ (by simp; omega) (fun e => by have := (HO.out.block _ e.symm).1; omega)).trans ((alloc_block_if _ _ _).trans ((if_neg (by omega)).trans Q_0))))
                           go_must (have Z1 := Lib.hid ((hg.block _ (by simp; omega) (fun e => by have := (HO.out.block _ e.symm).1; omega)).trans ((alloc_block_if _ _ _).trans ((if_neg (by omega)).trans Qw1_0))))
                           go_must (have Z4 := Lib.hid ((hg.block _ (by simp; omega) (fun e => by have := (HO.out.block _ e.symm).1; omega)).trans ((alloc_block_if _ _ _).trans ((if_neg (by omega)).trans Qw4_0))))
                           have hz_w16 := hg.size
                           (simp only [World.size_alloc] at hz_w16)
                           clear hv hg hpos)
              go_roundw
              case rel => exact ⟨k + 1, R + 1, ⟨ms, mc + 1, mp, nf, nl, nd, LF, t, T'⟩, o2, [] ++ [t / 86400], by omega, by omega, by omega, rfl, rfl, by go_num, by simp, Z4, HO4, Hst2, Z1, Z0, by go_light; omega, by go_light; exact hB16⟩
              case measure => (simp [intOf] <;> omega)
            · obtain ⟨OA, on, oc⟩ := o
              dsimp only [Sl.val] at *
              have hlen : ds.length = on := HO.out.len
              have hpos : 0 < on := by
                cases ds with
                | nil => cases hlast
                | cons a l => simp at hlen; omega
              obtain ⟨b', off', y, rfl, hbw', -, hg', hc'⟩ := (HO.out.rd (fun _ => rfl)).int (show on - 1 < on by omega)
              have hy : y = md := by
                have h1 := hg'.out
                rw [List.getLast?_eq_getElem?, hlen, h1] at hlast
                exact Option.some.inj hlast
              obtain rfl : md = y := hy.symm
              have hn0b : ((on : Int) == 0) = false := by simp; omega
              have hk3 : (on : Int) - 1 < (on : Int) := by omega
              have hk4 : (0 : Int) ≤ (on : Int) - 1 := by omega
              have hk5 : ((on : Int) - 1).toNat = on - 1 := by omega
              have hk6 : (on : Int) - 1 ≤ 9223372036854775807 := by omega
              have hk7 : -9223372036854775808 ≤ (on : Int) - 1 := by omega
              have e3 : w15.cell? ⟨b', off' + ((on : Int) - 1).toNat, none⟩ = some (.int .i64 md) := by rw [hk5]; exact hc'
              have e4 : w15.cell? ⟨b', off' + (on - 1), none⟩ = some (.int .i64 md) := hc'
              have Hst3 := Lib.hid Hst.out
              clear hc' hlast Hdl
              cases hyd : (md != t / 86400)
              · have hyd2 : md = t / 86400 := by simpa using hyd
                have Hst2 : Hid (TInv p units ⟨ms, mc + 1, mp, nf, nl, nd, LF, t, T'⟩ (R + 1) ds) := by
                  have h := Hst3.out
                  rw [if_pos (by omega)] at h
                  exact h
                clear Hst Hst3 hyd2
                go_wp2_with fail
                go_roundw
                case rel => exact ⟨k + 1, R + 1, ⟨ms, mc + 1, mp, nf, nl, nd, LF, t, T'⟩, ⟨some ⟨b', off', none⟩, on, oc⟩, ds, by omega, by omega, by omega, rfl, rfl, by go_num, by omega, Lib.hid Qw4_0, HO, Hst2, Lib.hid Qw1_0, Lib.hid Q_0, by go_light; omega, by go_light; exact hBw15⟩
                case measure => (simp [intOf] <;> omega)
              · have hyd2 : ¬ md = t / 86400 := by simpa using hyd
                have Hst2 : Hid (TInv p units ⟨ms, mc + 1, mp, nf, nl, nd, LF, t, T'⟩ (R + 1) (ds ++ [t / 86400])) := by
                  have h := Hst3.out
                  rw [if_neg (by omega)] at h
                  exact h
                clear Hst Hst3 hyd2
                go_upto_region 24 with fail
                go_wp2_with (at_builtin
                             obtain ⟨i0, hi, hi0, hi1, hi2⟩ := info_parts info_int
                             go_must (refine wpList_append_rd rfl _ _ _ rfl w5.heap.size 3 i0 _ 1 8 Try.underlying23 hi hi0 hi1 hi2 rfl (by decide) (fun _ => rfl) one_int (s := ⟨some ⟨b', off', none⟩, on, oc⟩) (y := ⟨some ⟨w15.heap.size, 0, none⟩, 1, 1⟩) (xs := ds) (ys := [t / 86400]) rfl rfl (HO.out.alloc' _) (rd_new 1 (fun _ => rfl) [_] rfl rfl rfl (by simp [maxLen])) (by simp only [maxLen]; omega) (by dsimp only; omega) (by simp; omega) ?_)
                             clear hi hi0 hi1 hi2 i0
                             intro o2 w16 hv hg hpos
                             have HO4 := Lib.hid hv
                             go_must (have hB16 : Below w.heap.size w w16 := Below.grown (by (repeat' (first | (with_reducible exact Below.refl _ _) | (with_reducible exact Nat.le_refl _) | (with_reducible assumption) | (with_reducible refine below_step ?_ ?_ hr) | (with_reducible refine below_over ?_ ?_ _) | (with_reducible refine Below.alloc ?_ ?_ _) | (with_reducible refine Below.setCell ?_ ?_ _) | (with_reducible refine below_put ?_ ?_ _) | (with_reducible refine Below.drew ?_) | (with_reducible refine below_drewN_ ?_ _) | (with_reducible refine le_drewN ?_ _) | (with_reducible refine over_le _ _ _ ?_) | (with_reducible refine le_alloc ?_ _) | (with_reducible refine le_setCell ?_ _ _) | (with_reducible refine le_put ?_ _ _) | (with_reducible refine le_drew ?_) | dsimp only | omega | ((try simp only [World.size_alloc, World.size_setCell, World.size_drew, size_put]); omega) | (simp; done)))) hg (by simp; omega) (fun g hg2 => by have := (HO.out.block g hg2).1; omega))
                             go_must (have Z0 := Lib.hid ((hg.block _ (by simp; omega) (fun e => by have := (HO.out.block _ e.symm).1; omega)).trans ((alloc_block_if _ _ _).trans ((if_neg (by omega)).trans Q_0))))
                             go_must (have Z1 := Lib.hid ((hg.block _ (by simp; omega) (fun e => by have := (HO.out.block _ e.symm).1; omega)).trans ((alloc_block_if _ _ _).trans ((if_neg (by omega)).trans Qw1_0))))
                             go_must (have Z4 := Lib.hid ((hg.block _ (by simp; omega) (fun e => by have := (HO.out.block _ e.symm).1; omega)).trans ((alloc_block_if _ _ _).trans ((if_neg (by omega)).trans Qw4_0))))
                             have hz_w16 := hg.size
                             (simp only [World.size_alloc] at hz_w16)
                             clear hv hg hpos)
                go_roundw
                case rel => exact ⟨k + 1, R + 1, ⟨ms, mc + 1, mp, nf, nl, nd, LF, t, T'⟩, o2, ds ++ [t / 86400], by omega, by omega, by omega, rfl, rfl, by go_num, by simp; omega, Z4, HO4, Hst2, Z1, Z0, by go_light; omega, by go_light; exact hB16⟩
                case measure => (simp [intOf] <;> omega)
          · obtain ⟨E, hEE⟩ : ∃ E, passE ⟨1, LF, OP, 1, 7, 0, ⟨none, 0, 0⟩, t, []⟩ [p] ⟨ms, mc, mp, mf, ml, md, mli, ma, mt⟩ t = E := ⟨_, rfl⟩
            rw [hEE] at hE
            have Hpn := Lib.hid (gate_Pass_no (g := ⟨1, LF, OP, 1, 7, 0, ⟨none, 0, 0⟩, t, []⟩) (m := ⟨ms, mc, mp, mf, ml, md, mli, ma, mt⟩) E (Rd.nil_ _ _) t0 (show t ≤ 20000000 by omega) Hs12.out HP12.out H22.out hEE hE)
            simp only [passNo] at Hpn
            have hEb : (E != 0) = true := by simpa using hE
            clear hEE hE
            go_upto_region 19 with (go_at_call 13; refine (Hpn.out).mono ?_; rintro e w13 hg; obtain ⟨rfl, hb⟩ := hg.below; clear hg; have hz := hb.size; (try simp only [World.size_alloc, World.size_setCell, World.size_drew, size_put] at hz); have hB : Below w12.heap.size w12 w13 := below_step (by (repeat' (first | (with_reducible exact Below.refl _ _) | (with_reducible exact Nat.le_refl _) | (with_reducible assumption) | (with_reducible refine below_step ?_ ?_ hr) | (with_reducible refine below_over ?_ ?_ _) | (with_reducible refine Below.alloc ?_ ?_ _) | (with_reducible refine Below.setCell ?_ ?_ _) | (with_reducible refine below_put ?_ ?_ _) | (with_reducible refine Below.drew ?_) | (with_reducible refine below_drewN_ ?_ _) | (with_reducible refine le_drewN ?_ _) | (with_reducible refine over_le _ _ _ ?_) | (with_reducible refine le_alloc ?_ _) | (with_reducible refine le_setCell ?_ _ _) | (with_reducible refine le_put ?_ _ _) | (with_reducible refine le_drew ?_) | dsimp only | omega | ((try simp only [World.size_alloc, World.size_setCell, World.size_drew, size_put]); omega) | (simp; done)))) (by (first | omega | ((try simp only [World.size_alloc, World.size_setCell, World.size_drew, size_put]); omega))) hb; have HO := Lib.hid (HO.out.toW (below_step (by (repeat' (first | (with_reducible exact Below.refl _ _) | (with_reducible exact Nat.le_refl _) | (with_reducible assumption) | (with_reducible refine below_step ?_ ?_ hr) | (with_reducible refine below_over ?_ ?_ _) | (with_reducible refine Below.alloc ?_ ?_ _) | (with_reducible refine Below.setCell ?_ ?_ _) | (with_reducible refine below_put ?_ ?_ _) | (with_reducible refine Below.drew ?_) | (with_reducible refine below_drewN_ ?_ _) | (with_reducible refine le_drewN ?_ _) | (with_reducible refine over_le _ _ _ ?_) | (with_reducible refine le_alloc ?_ _) | (with_reducible refine le_setCell ?_ _ _) | (with_reducible refine le_put ?_ _ _) | (with_reducible refine le_drew ?_) | dsimp only | omega | ((try simp only [World.size_alloc, World.size_setCell, World.size_drew, size_put]); omega) | (simp; done)))) (by (first | omega | ((try simp only [World.size_alloc, World.size_setCell, World.size_drew, size_put]); omega))) hb)); have Q' : w13.heap[w.heap.size]? = _ := hb.block (w.heap.size) (by (first | omega | ((try simp only [World.size_alloc, World.size_setCell, World.size_drew, size_put]); omega))); simp only [alloc_block_if, put_block_if, over_block_if, set_block_if, setObj_cells, drew_block, drewN_block, Option.map_some, List.setIfInBounds_toArray, List.set_cons_zero, List.set_cons_succ, World.size_alloc, World.size_setCell, size_put, World.size_drew, if_true, if_false, ↓IntWalk.iteOmega, Q_0] at Q'; clear Q_0; have Q_0 := Q'; clear Q'; have Q' : w13.heap[w1.heap.size]? = _ := hb.block (w1.heap.size) (by (first | omega | ((try simp only [World.size_alloc, World.size_setCell, World.size_drew, size_put]); omega))); simp only [alloc_block_if, put_block_if, over_block_if, set_block_if, setObj_cells, drew_block, drewN_block, Option.map_some, List.setIfInBounds_toArray, List.set_cons_zero, List.set_cons_succ, World.size_alloc, World.size_setCell, size_put, World.size_drew, if_true, if_false, ↓IntWalk.iteOmega, Qw1_0] at Q'; clear Qw1_0; have Qw1_0 := Q'; clear Q'; have Q' : w13.heap[w4.heap.size]? = _ := hb.block (w4.heap.size) (by (first | omega | ((try simp only [World.size_alloc, World.size_setCell, World.size_drew, size_put]); omega))); simp only [alloc_block_if, put_block_if, over_block_if, set_block_if, setObj_cells, drew_block, drewN_block, Option.map_some, List.setIfInBounds_toArray, List.set_cons_zero, List.set_cons_succ, World.size_alloc, World.size_setCell, size_put, World.size_drew, if_true, if_false, ↓IntWalk.iteOmega, Qw4_0] at Q'; clear Qw4_0; have Qw4_0 := Q'; clear Q'; have q_0 := cell_of_block Q_0; have qw1_0 := cell_of_block Qw1_0; have qw4_0 := cell_of_block Qw4_0; clear hb)
            have hBw13 : Below w.heap.size w w13 := hBw12.trans (hB.mono hBw12.size)
            have hl13 : w12.heap.size ≤ w13.heap.size := hB.size
            refine wp_letter (fun w14 hb => ?_)
            have hz := hb.size
            (try simp only [World.size_alloc, World.size_setCell, World.size_drew, size_put] at hz)
            have hB : Below w13.heap.size w13 w14 := below_step (by (repeat' (first | (with_reducible exact Below.refl _ _) | (with_reducible exact Nat.le_refl _) | (with_reducible assumption) | (with_reducible refine below_step ?_ ?_ hr) | (with_reducible refine below_over ?_ ?_ _) | (with_reducible refine Below.alloc ?_ ?_ _) | (with_reducible refine Below.setCell ?_ ?_ _) | (with_reducible refine below_put ?_ ?_ _) | (with_reducible refine Below.drew ?_) | (with_reducible refine below_drewN_ ?_ _) | (with_reducible refine le_drewN ?_ _) | (with_reducible refine over_le _ _ _ ?_) | (with_reducible refine le_alloc ?_ _) | (with_reducible refine le_setCell ?_ _ _) | (with_reducible refine le_put ?_ _ _) | (with_reducible refine le_drew ?_) | dsimp only | omega | ((try simp only [World.size_alloc, World.size_setCell, World.size_drew, size_put]); omega) | (simp; done)))) (by (first | omega | ((try simp only [World.size_alloc, World.size_setCell, World.size_drew, size_put]); omega))) hb
            have HO := Lib.hid (HO.out.toW (below_step (by (repeat' (first | (with_reducible exact Below.refl _ _) | (with_reducible exact Nat.le_refl _) | (with_reducible assumption) | (with_reducible refine below_step ?_ ?_ hr) | (with_reducible refine below_over ?_ ?_ _) | (with_reducible refine Below.alloc ?_ ?_ _) | (with_reducible refine Below.setCell ?_ ?_ _) | (with_reducible refine below_put ?_ ?_ _) | (with_reducible refine Below.drew ?_) | (with_reducible refine below_drewN_ ?_ _) | (with_reducible refine le_drewN ?_ _) | (with_reducible refine over_le _ _ _ ?_) | (with_reducible refine le_alloc ?_ _) | (with_reducible refine le_setCell ?_ _ _) | (with_reducible refine le_put ?_ _ _) | (with_reducible refine le_drew ?_) | dsimp only | omega | ((try simp only [World.size_alloc, World.size_setCell, World.size_drew, size_put]); omega) | (simp; done)))) (by (first | omega | ((try simp only [World.size_alloc, World.size_setCell, World.size_drew, size_put]); omega))) hb))
            have Q' : w14.heap[w.heap.size]? = _ := hb.block (w.heap.size) (by (first | omega | ((try simp only [World.size_alloc, World.size_setCell, World.size_drew, size_put]); omega)))
            simp only [alloc_block_if, put_block_if, over_block_if, set_block_if, setObj_cells, drew_block, drewN_block, Option.map_some, List.setIfInBounds_toArray, List.set_cons_zero, List.set_cons_succ, World.size_alloc, World.size_setCell, size_put, World.size_drew, if_true, if_false, ↓IntWalk.iteOmega, Q_0] at Q'
            clear Q_0
            have Q_0 := Q'
            clear Q'
            have Q' : w14.heap[w1.heap.size]? = _ := hb.block (w1.heap.size) (by (first | omega | ((try simp only [World.size_alloc, World.size_setCell, World.size_drew, size_put]); omega)))
            simp only [alloc_block_if, put_block_if, over_block_if, set_block_if, setObj_cells, drew_block, drewN_block, Option.map_some, List.setIfInBounds_toArray, List.set_cons_zero, List.set_cons_succ, World.size_alloc, World.size_setCell, size_put, World.size_drew, if_true, if_false, ↓IntWalk.iteOmega, Qw1_0] at Q'
            clear Qw1_0
            have Qw1_0 := Q'
            clear Q'
            have Q' : w14.heap[w4.heap.size]? = _ := hb.block (w4.heap.size) (by (first | omega | ((try simp only [World.size_alloc, World.size_setCell, World.size_drew, size_put]); omega)))
            simp only [alloc_block_if, put_block_if, over_block_if, set_block_if, setObj_cells, drew_block, drewN_block, Option.map_some, List.setIfInBounds_toArray, List.set_cons_zero, List.set_cons_succ, World.size_alloc, World.size_setCell, size_put, World.size_drew, if_true, if_false, ↓IntWalk.iteOmega, Qw4_0] at Q'
            clear Qw4_0
            have Qw4_0 := Q'
            clear Q'
            have q_0 := cell_of_block Q_0
            have qw1_0 := cell_of_block Qw1_0
            have qw4_0 := cell_of_block Qw4_0
            clear hb
            have hBw14 : Below w.heap.size w w14 := hBw13.trans (hB.mono hBw13.size)
            have hl14 : w13.heap.size ≤ w14.heap.size := hB.size
            go_wp2_with fail
            go_roundw
            case rel => exact ⟨k + 1, R, _, o, ds, by omega, hR0, by omega, rfl, rfl, by go_num, by omega, Lib.hid Qw4_0, HO, HI, Lib.hid Qw1_0, Lib.hid Q_0, by go_light; omega, by go_light; exact hBw14⟩
            case measure => (simp [intOf] <;> omega)
        · go_wp2_with fail
          go_roundw
          case rel => exact ⟨k + 1, R, _, o, ds, by omega, hR0, by omega, rfl, rfl, by go_num, by omega, Lib.hid Qw4_0, HO, HI, Lib.hid Qw1_0, Lib.hid Q_0, by go_light; omega, by go_light; exact hBwc⟩
          case measure => (simp [intOf] <;> omega)
    · have hl0 := HI.out.left0
      have hdn : ds.length = o.n := HO.out.len
      cases hk2 : (p.kind == 2)
      · have hk1 : p.kind = 1 := by
          have h0 : ¬ p.kind = 0 := by simpa using hk0
          have h2 : ¬ p.kind = 2 := by simpa using hk2
          omega
        have hfin := HI.out.days hk1
        have hle : decide ((o.n : Int) ≤ units) = true := by simp; omega
        clear hfin hk1 hl0
        go_wp2_with fail
        go_ret
        exact ⟨rfl, by go_light; exact hBr⟩
      · have hfin := HI.out.pts (by simpa using hk2)
        have hle : decide (R ≤ units) = true := by simp; omega
        clear hfin hl0
        go_wp2_with fail
        go_ret
        exact ⟨rfl, by go_light; exact hBr⟩
end
theorem walk (p : PD) (units : Int) (s : Sl) (vs : List V3) (w : World) (hp : p.at_ w) (hs : Rd w V3.enc s vs) : Calls Try.prog 4 #[p.val, .int .i64 units, s.val] w fun e w' => e = .returned (.bool true) ∧ Below w.heap.size w w' := by
  by_cases h : right22 [p] = 0
  rotate_left
  · exact bad hp (by simpa using h)
  by_cases h60 : s.n ≤ 60
  rotate_left
  · exact long hp h (by omega)
  cases hk : (p.kind == 0)
  rotate_left
  · exact timed hp h h60 hk
  cases hn : newBad 3 p.id units
  · exact good hp hs h h60 hk hn
  · exact newbad hp h h60 hk hn
theorem own : ownKnob Try.prog.godebug = none := by kernel_rfl
theorem laidOut : laidOutB Try.prog = true := by kernel_rfl
set_option maxRecDepth 100000 in
theorem lifted (os : Os) (started : os.Started) (H : Type) (enc : TypeId × Value → H) :
    ReturnsInHanded {} Try.checked os 4 .any (Rows.topUsesSpec.pre6 enc Try.prog Try.f4 Rows.topUsesRow.domain false) (Rows.topUsesSpec.post enc Try.prog Try.f4 false true false false) := by
  refine returnsInHanded_of_change (C := Try.checked) own started (by kernel_rfl) Try.func4
    (ChangeSpec.witness6 (enc := enc) (C := Try.checked) false ⟨#[], #[.agg #[.int .i64 0, .int .i64 0, .int .i64 0, .int .i64 0, .int .i64 0, .slice none 0 0, .slice none 0 0, .int .i64 0, .int .i64 0, .int .i64 0], .int .i64 0, .slice none 0 0], []⟩ 8 (by kernel_rfl) (by kernel_rfl) (by kernel_rfl) (by kernel_rfl)) ?_
  intro W base args ds gs before hval0 hW hcnd _
  have hval : ∀ (j : Nat) t v, Try.f4.params[j]? = some t → args[j]? = some v → Value.okWide Try.prog W .any base t v := hval0
  have hW' := hW
  obtain ⟨p, q, hA0, hV, rfl, hfz, hnd⟩ := hW
  have hA : DataW.TrodAll enc Try.prog W 0 (fun _ => true) true Try.f4.params.toList args.toList ds p := hA0
  rw [Try.params4] at hA hval
  obtain ⟨v0, vs0, d0, ds0, p0, q0, hargs, rfl, rfl, h0, r0⟩ := trodAll_cons hA
  obtain ⟨v1, vs1, d1, ds1, p1, q1, rfl, rfl, rfl, h1, r1⟩ := trodAll_cons r0
  obtain ⟨v2, vs2, d2, ds2, p2, q2, rfl, rfl, rfl, h2, r2⟩ := trodAll_cons r1
  obtain ⟨rfl, rfl, rfl⟩ := trodAll_nil r2
  obtain rfl : args = #[v0, v1, v2] := by cases args; simp_all
  obtain ⟨rfl, rfl⟩ := trodVars_none hV
  have k0 := h0
  have lt0 : ∀ x ∈ p0, x.block < W.heap.size := by obtain ⟨m, hm⟩ := k0; exact DataW.trod_lt m _ _ _ hm
  obtain ⟨a0, e0, w0⟩ := opens_arg o_product h0
  obtain ⟨c0, rfl, s0⟩ := okWide_struct Try.underlying40 (hval 0 40 v0 rfl rfl)
  obtain rfl : c0 = (PD.enc a0).toArray := by rw [← e0]; simp [Value.cells]
  obtain ⟨a1, rfl, rfl, rfl, w1⟩ := open_int Try.underlying3 (hval 1 3 v1 rfl rfl) h1
  have k2 := h2
  have lt2 : ∀ x ∈ p2, x.block < W.heap.size := by obtain ⟨m, hm⟩ := k2; exact DataW.trod_lt m _ _ _ hm
  obtain ⟨a2, e2, w2⟩ := opens_arg o_visits h2
  obtain rfl : v2 = a2.1.val := slice_value Try.underlying51 (hval 2 51 v2 rfl rfl) e2
  clear hA0 hval0
  refine (walk a0 a1 a2.1 a2.2 W w0.1 w2.1).mono fun e W' ⟨he, bel⟩ => ?_
  subst he
  exact ⟨_, rfl, _, _, _, [], _, [], hW', trodAll_mk1 (shut_bool Try.underlying4 _), (trodAll_cons_mk (Below.trod laidOut (by kernel_rfl) (of_decide_eq_true (by kernel_rfl)) k0 bel lt0) (trodAll_cons_mk (shut_int Try.underlying3 w1) (trodAll_cons_mk (Below.trod laidOut (by kernel_rfl) (of_decide_eq_true (by kernel_rfl)) k2 bel lt2) trodAll_mk0))), rfl, bel.frame _, fun h => by cases h⟩
theorem over : Rows.topUsesRow.holds Try.pinned (OpenSpec.ofChange Rows.topUsesSpec) :=
  OpenClaim.holds_of_wide 4 Try.f4 rfl rfl rfl rfl rfl rfl rfl ⟨rfl, rfl, rfl, rfl, rfl⟩ rfl rfl rfl rfl rfl (by kernel_rfl) Try.func4 (by kernel_rfl)
    (of_decide_eq_true (by kernel_rfl)) (by unfold Func.isWrapper; first | (rw [if_pos (by decide +kernel)]; kernel_rfl) | (rw [if_neg (by decide +kernel)]; exact ⟨rfl, rfl⟩))
    (fun os started H enc _ => lifted os started H enc)
theorem proved : Rows.TopUsesSaid := over
end Go.Proofs.Ytoafgpeghokhgaa.lawUsesTop
