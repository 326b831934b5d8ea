/- Gates: the examples of the whole (gateAlive). -/
import Derived.Test.YtoafgpeghokhgaaGateL
namespace Go.Proofs.Ytoafgpeghokhgaa
set_option linter.unusedSimpArgs false
set_option linter.unusedVariables false
open Go.RowKit
abbrev prA (b : Nat) : PD := ⟨1, 2, 1, 0, 120, ⟨some ⟨b, 0, none⟩, 1, 1⟩, ⟨none, 0, 0⟩, 0, 1000, 10, [1], []⟩
abbrev gaA : GV := ⟨1, 1, 1, 1, 7, 0, ⟨none, 0, 0⟩, 0, []⟩
abbrev gaB (v : Sl) : GV := ⟨1, 1, 1, 2, 7, 0, v, 0, []⟩
abbrev meA : MV := ⟨3, 0, 1, -1, 1, -1, 0, -1, 0⟩
abbrev meB : MV := ⟨3, 1, 1, 5, 0, 0, 1, 5, 0⟩
theorem exA_right (b : Nat) : right22 [prA b] = 0 := by rfl
theorem exA_new : newV 7 3 1 1 = .tuple #[(meA.tagged (signF 7 meA)).val, .int .i64 0] := by rw [newV, if_neg (by decide)]
theorem exA_use (b : Nat) (T : Int) : useM (prA b) (meA.tagged T) 1 5 = meB := by
  show useM (prA b) ⟨3, 0, 1, -1, 1, -1, 0, -1, T⟩ 1 5 = _
  rfl
theorem exA_decide (b : Nat) : decideF gaA [prA b] (meA.tagged (signF 7 meA)) 5 = 0 := by
  have hc : checkF gaA.key (meA.tagged (signF 7 meA)) = true := tagged_check 7 meA
  unfold decideF
  rw [if_neg (by decide), hc, if_neg (by decide), if_neg (by decide)]
  show whyF (prA b) ⟨3, 0, 1, -1, 1, -1, 0, -1, signF 7 meA⟩ 1 1 5 = 0
  rfl
theorem exA_decide2 (b : Nat) (v : Sl) : decideF (gaB v) [prA b] (meB.tagged (signF 7 meB)) 900 = 7 := by
  have hc : checkF (gaB v).key (meB.tagged (signF 7 meB)) = true := tagged_check 7 meB
  unfold decideF
  have hh : hasF (gaB v).list (meB.tagged (signF 7 meB)).serial = false := rfl
  rw [if_neg (show ¬ ((900 : Int) < 0 ∨ (0 : Int) + 86400 ≤ 900) by decide), hc, if_neg (by decide), hh, if_neg (by decide)]
  show whyF (prA b) ⟨3, 1, 1, 5, 0, 0, 1, 5, signF 7 meB⟩ 1 1 900 = 7
  rfl
theorem exA_pass (b : Nat) : passE gaA [prA b] (meA.tagged (signF 7 meA)) 5 = 0 := by
  unfold passE
  rw [exA_decide, if_neg (by decide), if_neg (by decide)]
  show useE (prA b) ⟨3, 0, 1, -1, 1, -1, 0, -1, signF 7 meA⟩ 1 1 5 = 0
  rfl
theorem decide_is {D : Int} {g : GV} {s : Sl} {es : List PD} {m : MV} {t : Int} {w : World} (hD : decideF g es m t = D) (hg : g.at_ w) (hh0 : 0 ≤ g.heard) (hh1 : g.heard ≤ 20000000) (hs : Rd w PD.enc s es) (he : ∀ p ∈ es, p.at_ w) (h22 : right22 es = 0) :
    Calls Try.prog 8 #[g.val, s.val, m.val, .int .i64 t] w (Gives (.int .i64 D) w) := hD ▸ gate_Decide g s es m t w hg hh0 hh1 hs he (small_right h22 he) h22
abbrev PassA (w : World) (TB : Int) (e : Ending) (w' : World) : Prop := Below w.heap.size w w' ∧ ∃ v : Sl, e = .returned (.tuple #[(gaB v).val, MV.val ⟨3, 1, 1, 5, 0, 0, 1, 5, TB⟩, rideV 1 1 3 1 1 1 5, .int .i64 0]) ∧ OwnI w' w.heap.size v []
theorem passA {w : World} {b : Nat} {TA TB : Int} {s : Sl} (hA : TA = signF 7 meA) (hB : TB = signF 7 meB) (hs : Rd w PD.enc s [prA b]) (he : ∀ p ∈ [prA b], p.at_ w) : Calls Try.prog 13 #[gaA.val, s.val, MV.val ⟨3, 0, 1, -1, 1, -1, 0, -1, TA⟩, .int .i64 5] w (PassA w TB) := by
  subst hA hB
  refine (gate_Pass_yes (g := gaA) (m := meA.tagged (signF 7 meA)) (t := 5) (prA b) (Rd.nil_ _ _) (by decide) (by decide) hs he (exA_right b) (exA_pass b) rfl (by decide) (by decide)).mono ?_
  rintro e w' ⟨h1, v, rfl, h2⟩
  refine ⟨h1, v, ?_, h2⟩
  rw [exA_use]
  rfl
set_option maxRecDepth 100000 in
set_option maxHeartbeats 6400000 in
theorem top_alive (w : World) : Calls Try.prog 5 #[] w (Gives (.bool true) w) := by
  obtain ⟨TA, hA⟩ : ∃ T, T = signF 7 meA := ⟨_, rfl⟩
  obtain ⟨TB, hB⟩ : ∃ T, T = signF 7 meB := ⟨_, rfl⟩
  have HA := Lib.hid hA
  have HB := Lib.hid hB
  have Hn : Hid (∀ w', Calls Try.prog 14 #[.int .u64 7, .int .i64 3, .int .i64 1, .int .i64 1] w' (Gives (.tuple #[MV.val ⟨3, 0, 1, -1, 1, -1, 0, -1, TA⟩, .int .i64 0]) w')) := fun w' => by
    have h := media_New 7 3 1 1 w'
    rw [exA_new, ← HA.out] at h
    exact h
  clear hA hB
  (go_enter Try.func5, Try.ntmps5; try dsimp only [List.append])
  go_upto_region 2 with fail
  refine wp_letter (fun w1 hb => ?_)
  have hz := hb.size
  (try simp only [World.size_alloc, World.size_setCell, World.size_drew, size_put] at hz)
  have hB : Below w.heap.size w w1 := below_step (by (repeat' (first | (with_reducible exact Below.refl _ _) | (with_reducible exact Nat.le_refl _) | (with_reducible assumption) | (with_reducible refine below_step ?_ ?_ hr) | (with_reducible refine below_over ?_ ?_ _) | (with_reducible refine Below.alloc ?_ ?_ _) | (with_reducible refine Below.setCell ?_ ?_ _) | (with_reducible refine below_put ?_ ?_ _) | (with_reducible refine Below.drew ?_) | (with_reducible refine below_drewN_ ?_ _) | (with_reducible refine le_drewN ?_ _) | (with_reducible refine over_le _ _ _ ?_) | (with_reducible refine le_alloc ?_ _) | (with_reducible refine le_setCell ?_ _ _) | (with_reducible refine le_put ?_ _ _) | (with_reducible refine le_drew ?_) | dsimp only | omega | ((try simp only [World.size_alloc, World.size_setCell, World.size_drew, size_put]); omega) | (simp; done)))) (by (first | omega | ((try simp only [World.size_alloc, World.size_setCell, World.size_drew, size_put]); omega))) hb
  have Q' : w1.heap[w.heap.size]? = _ := hb.block (w.heap.size) (by (first | omega | ((try simp only [World.size_alloc, World.size_setCell, World.size_drew, size_put]); omega)))
  simp only [alloc_block_if, put_block_if, over_block_if, set_block_if, setObj_cells, drew_block, drewN_block, Option.map_some, List.setIfInBounds_toArray, List.set_cons_zero, List.set_cons_succ, World.size_alloc, World.size_setCell, size_put, World.size_drew, if_true, if_false, ↓IntWalk.iteOmega] at Q'
  have Q_0 := Q'
  clear Q'
  have Q' : w1.heap[w.heap.size + 1]? = _ := hb.block (w.heap.size + 1) (by (first | omega | ((try simp only [World.size_alloc, World.size_setCell, World.size_drew, size_put]); omega)))
  simp only [alloc_block_if, put_block_if, over_block_if, set_block_if, setObj_cells, drew_block, drewN_block, Option.map_some, List.setIfInBounds_toArray, List.set_cons_zero, List.set_cons_succ, World.size_alloc, World.size_setCell, size_put, World.size_drew, if_true, if_false, ↓IntWalk.iteOmega] at Q'
  have Q_1 := Q'
  clear Q'
  have q_0 := cell_of_block Q_0
  have q_1 := cell_of_block Q_1
  clear hb
  have hB1 := hB
  have Hs1 : Hid (Rd w1 PD.enc ⟨some ⟨w.heap.size + 1, 0, none⟩, 1, 1⟩ [prA w.heap.size]) := rd_lit 10 (fun _ => rfl) [prA w.heap.size] Q_1 rfl rfl (by simp [maxLen])
  have He1 : Hid (∀ p ∈ [prA w.heap.size], p.at_ w1) := by
    intro p hp
    obtain rfl : p = prA w.heap.size := by simpa using hp
    exact ⟨rd_lit 1 (fun _ => rfl) [1] Q_0 rfl rfl (by decide), Rd.nil_ _ _⟩
  go_upto_region 4 with (go_at_call 14; refine (Hn.out _).mono ?_; rintro e w2 hg; obtain ⟨rfl, hb⟩ := hg.below; clear hg; have hz := hb.size; (try simp only [World.size_alloc, World.size_setCell, World.size_drew, size_put] at hz); have hB : Below w1.heap.size w1 w2 := below_step (by (repeat' (first | (with_reducible exact Below.refl _ _) | (with_reducible exact Nat.le_refl _) | (with_reducible assumption) | (with_reducible refine below_step ?_ ?_ hr) | (with_reducible refine below_over ?_ ?_ _) | (with_reducible refine Below.alloc ?_ ?_ _) | (with_reducible refine Below.setCell ?_ ?_ _) | (with_reducible refine below_put ?_ ?_ _) | (with_reducible refine Below.drew ?_) | (with_reducible refine below_drewN_ ?_ _) | (with_reducible refine le_drewN ?_ _) | (with_reducible refine over_le _ _ _ ?_) | (with_reducible refine le_alloc ?_ _) | (with_reducible refine le_setCell ?_ _ _) | (with_reducible refine le_put ?_ _ _) | (with_reducible refine le_drew ?_) | dsimp only | omega | ((try simp only [World.size_alloc, World.size_setCell, World.size_drew, size_put]); omega) | (simp; done)))) (by (first | omega | ((try simp only [World.size_alloc, World.size_setCell, World.size_drew, size_put]); omega))) hb; clear hb)
  have hB2 := hB
  refine wp_letter (fun w3 hb => ?_)
  have hz := hb.size
  (try simp only [World.size_alloc, World.size_setCell, World.size_drew, size_put] at hz)
  have hB : Below w2.heap.size w2 w3 := below_step (by (repeat' (first | (with_reducible exact Below.refl _ _) | (with_reducible exact Nat.le_refl _) | (with_reducible assumption) | (with_reducible refine below_step ?_ ?_ hr) | (with_reducible refine below_over ?_ ?_ _) | (with_reducible refine Below.alloc ?_ ?_ _) | (with_reducible refine Below.setCell ?_ ?_ _) | (with_reducible refine below_put ?_ ?_ _) | (with_reducible refine Below.drew ?_) | (with_reducible refine below_drewN_ ?_ _) | (with_reducible refine le_drewN ?_ _) | (with_reducible refine over_le _ _ _ ?_) | (with_reducible refine le_alloc ?_ _) | (with_reducible refine le_setCell ?_ _ _) | (with_reducible refine le_put ?_ _ _) | (with_reducible refine le_drew ?_) | dsimp only | omega | ((try simp only [World.size_alloc, World.size_setCell, World.size_drew, size_put]); omega) | (simp; done)))) (by (first | omega | ((try simp only [World.size_alloc, World.size_setCell, World.size_drew, size_put]); omega))) hb
  have Q' : w3.heap[w2.heap.size]? = _ := hb.block (w2.heap.size) (by (first | omega | ((try simp only [World.size_alloc, World.size_setCell, World.size_drew, size_put]); omega)))
  simp only [alloc_block_if, put_block_if, over_block_if, set_block_if, setObj_cells, drew_block, drewN_block, Option.map_some, List.setIfInBounds_toArray, List.set_cons_zero, List.set_cons_succ, World.size_alloc, World.size_setCell, size_put, World.size_drew, if_true, if_false, ↓IntWalk.iteOmega] at Q'
  have Qw2_0 := Q'
  clear Q'
  have Q' : w3.heap[w2.heap.size + 1]? = _ := hb.block (w2.heap.size + 1) (by (first | omega | ((try simp only [World.size_alloc, World.size_setCell, World.size_drew, size_put]); omega)))
  simp only [alloc_block_if, put_block_if, over_block_if, set_block_if, setObj_cells, drew_block, drewN_block, Option.map_some, List.setIfInBounds_toArray, List.set_cons_zero, List.set_cons_succ, World.size_alloc, World.size_setCell, size_put, World.size_drew, if_true, if_false, ↓IntWalk.iteOmega] at Q'
  have Qw2_1 := Q'
  clear Q'
  have qw2_0 := cell_of_block Qw2_0
  have qw2_1 := cell_of_block Qw2_1
  clear hb
  have hB3 := hB
  have hB13 : Below w1.heap.size w1 w3 := hB2.trans (hB3.mono hB2.size)
  have hBw3 : Below w.heap.size w w3 := hB1.trans (hB13.mono hB1.size)
  have hl20 : w2.heap.size < w3.heap.size := by omega
  have hl21 : w2.heap.size + 1 < w3.heap.size := by omega
  go_upto_region 5 with (go_at_call 13; refine (passA HA.out HB.out (Hs1.out.toW hB13) (fun p hp => (He1.out p hp).toW hB13)).mono ?_; rintro e w4 ⟨hb, v, rfl, hv⟩; have HV := Lib.hid hv; clear hv; have hz := hb.size; (try simp only [World.size_alloc, World.size_setCell, World.size_drew, size_put] at hz); have hB : Below w3.heap.size w3 w4 := below_step (by (repeat' (first | (with_reducible exact Below.refl _ _) | (with_reducible exact Nat.le_refl _) | (with_reducible assumption) | (with_reducible refine below_step ?_ ?_ hr) | (with_reducible refine below_over ?_ ?_ _) | (with_reducible refine Below.alloc ?_ ?_ _) | (with_reducible refine Below.setCell ?_ ?_ _) | (with_reducible refine below_put ?_ ?_ _) | (with_reducible refine Below.drew ?_) | (with_reducible refine below_drewN_ ?_ _) | (with_reducible refine le_drewN ?_ _) | (with_reducible refine over_le _ _ _ ?_) | (with_reducible refine le_alloc ?_ _) | (with_reducible refine le_setCell ?_ _ _) | (with_reducible refine le_put ?_ _ _) | (with_reducible refine le_drew ?_) | dsimp only | omega | ((try simp only [World.size_alloc, World.size_setCell, World.size_drew, size_put]); omega) | (simp; done)))) (by (first | omega | ((try simp only [World.size_alloc, World.size_setCell, World.size_drew, size_put]); omega))) hb; have Q' : w4.heap[w2.heap.size]? = _ := hb.block (w2.heap.size) (by (first | omega | ((try simp only [World.size_alloc, World.size_setCell, World.size_drew, size_put]); omega))); simp only [alloc_block_if, put_block_if, over_block_if, set_block_if, setObj_cells, drew_block, drewN_block, Option.map_some, List.setIfInBounds_toArray, List.set_cons_zero, List.set_cons_succ, World.size_alloc, World.size_setCell, size_put, World.size_drew, if_true, if_false, ↓IntWalk.iteOmega, Qw2_0] at Q'; clear Qw2_0; have Qw2_0 := Q'; clear Q'; have Q' : w4.heap[w2.heap.size + 1]? = _ := hb.block (w2.heap.size + 1) (by (first | omega | ((try simp only [World.size_alloc, World.size_setCell, World.size_drew, size_put]); omega))); simp only [alloc_block_if, put_block_if, over_block_if, set_block_if, setObj_cells, drew_block, drewN_block, Option.map_some, List.setIfInBounds_toArray, List.set_cons_zero, List.set_cons_succ, World.size_alloc, World.size_setCell, size_put, World.size_drew, if_true, if_false, ↓IntWalk.iteOmega, Qw2_1] at Q'; clear Qw2_1; have Qw2_1 := Q'; clear Q'; have qw2_0 := cell_of_block Qw2_0; have qw2_1 := cell_of_block Qw2_1; clear hb)
  have hB4 := hB
  refine wp_letter (fun w5 hb => ?_)
  have hz := hb.size
  (try simp only [World.size_alloc, World.size_setCell, World.size_drew, size_put] at hz)
  have hB : Below w4.heap.size w4 w5 := below_step (by (repeat' (first | (with_reducible exact Below.refl _ _) | (with_reducible exact Nat.le_refl _) | (with_reducible assumption) | (with_reducible refine below_step ?_ ?_ hr) | (with_reducible refine below_over ?_ ?_ _) | (with_reducible refine Below.alloc ?_ ?_ _) | (with_reducible refine Below.setCell ?_ ?_ _) | (with_reducible refine below_put ?_ ?_ _) | (with_reducible refine Below.drew ?_) | (with_reducible refine below_drewN_ ?_ _) | (with_reducible refine le_drewN ?_ _) | (with_reducible refine over_le _ _ _ ?_) | (with_reducible refine le_alloc ?_ _) | (with_reducible refine le_setCell ?_ _ _) | (with_reducible refine le_put ?_ _ _) | (with_reducible refine le_drew ?_) | dsimp only | omega | ((try simp only [World.size_alloc, World.size_setCell, World.size_drew, size_put]); omega) | (simp; done)))) (by (first | omega | ((try simp only [World.size_alloc, World.size_setCell, World.size_drew, size_put]); omega))) hb
  have HV := Lib.hid (HV.out.toW (below_step (by (repeat' (first | (with_reducible exact Below.refl _ _) | (with_reducible exact Nat.le_refl _) | (with_reducible assumption) | (with_reducible refine below_step ?_ ?_ hr) | (with_reducible refine below_over ?_ ?_ _) | (with_reducible refine Below.alloc ?_ ?_ _) | (with_reducible refine Below.setCell ?_ ?_ _) | (with_reducible refine below_put ?_ ?_ _) | (with_reducible refine Below.drew ?_) | (with_reducible refine below_drewN_ ?_ _) | (with_reducible refine le_drewN ?_ _) | (with_reducible refine over_le _ _ _ ?_) | (with_reducible refine le_alloc ?_ _) | (with_reducible refine le_setCell ?_ _ _) | (with_reducible refine le_put ?_ _ _) | (with_reducible refine le_drew ?_) | dsimp only | omega | ((try simp only [World.size_alloc, World.size_setCell, World.size_drew, size_put]); omega) | (simp; done)))) (by (first | omega | ((try simp only [World.size_alloc, World.size_setCell, World.size_drew, size_put]); omega))) hb))
  have Q' : w5.heap[w2.heap.size]? = _ := hb.block (w2.heap.size) (by (first | omega | ((try simp only [World.size_alloc, World.size_setCell, World.size_drew, size_put]); omega)))
  simp only [alloc_block_if, put_block_if, over_block_if, set_block_if, setObj_cells, drew_block, drewN_block, Option.map_some, List.setIfInBounds_toArray, List.set_cons_zero, List.set_cons_succ, World.size_alloc, World.size_setCell, size_put, World.size_drew, if_true, if_false, ↓IntWalk.iteOmega, Qw2_0] at Q'
  clear Qw2_0
  have Qw2_0 := Q'
  clear Q'
  have Q' : w5.heap[w2.heap.size + 1]? = _ := hb.block (w2.heap.size + 1) (by (first | omega | ((try simp only [World.size_alloc, World.size_setCell, World.size_drew, size_put]); omega)))
  simp only [alloc_block_if, put_block_if, over_block_if, set_block_if, setObj_cells, drew_block, drewN_block, Option.map_some, List.setIfInBounds_toArray, List.set_cons_zero, List.set_cons_succ, World.size_alloc, World.size_setCell, size_put, World.size_drew, if_true, if_false, ↓IntWalk.iteOmega, Qw2_1] at Q'
  clear Qw2_1
  have Qw2_1 := Q'
  clear Q'
  have Q' : w5.heap[w4.heap.size]? = _ := hb.block (w4.heap.size) (by (first | omega | ((try simp only [World.size_alloc, World.size_setCell, World.size_drew, size_put]); omega)))
  simp only [alloc_block_if, put_block_if, over_block_if, set_block_if, setObj_cells, drew_block, drewN_block, Option.map_some, List.setIfInBounds_toArray, List.set_cons_zero, List.set_cons_succ, World.size_alloc, World.size_setCell, size_put, World.size_drew, if_true, if_false, ↓IntWalk.iteOmega] at Q'
  have Qw4_0 := Q'
  clear Q'
  have Q' : w5.heap[w4.heap.size + 1]? = _ := hb.block (w4.heap.size + 1) (by (first | omega | ((try simp only [World.size_alloc, World.size_setCell, World.size_drew, size_put]); omega)))
  simp only [alloc_block_if, put_block_if, over_block_if, set_block_if, setObj_cells, drew_block, drewN_block, Option.map_some, List.setIfInBounds_toArray, List.set_cons_zero, List.set_cons_succ, World.size_alloc, World.size_setCell, size_put, World.size_drew, if_true, if_false, ↓IntWalk.iteOmega] at Q'
  have Qw4_1 := Q'
  clear Q'
  have Q' : w5.heap[w4.heap.size + 1 + 1]? = _ := hb.block (w4.heap.size + 1 + 1) (by (first | omega | ((try simp only [World.size_alloc, World.size_setCell, World.size_drew, size_put]); omega)))
  simp only [alloc_block_if, put_block_if, over_block_if, set_block_if, setObj_cells, drew_block, drewN_block, Option.map_some, List.setIfInBounds_toArray, List.set_cons_zero, List.set_cons_succ, World.size_alloc, World.size_setCell, size_put, World.size_drew, if_true, if_false, ↓IntWalk.iteOmega] at Q'
  have Qw4_2 := Q'
  clear Q'
  have qw2_0 := cell_of_block Qw2_0
  have qw2_1 := cell_of_block Qw2_1
  have qw4_0 := cell_of_block Qw4_0
  have qw4_1 := cell_of_block Qw4_1
  have qw4_2 := cell_of_block Qw4_2
  clear hb
  have hB5 := hB
  have hB35 : Below w3.heap.size w3 w5 := hB4.trans (hB5.mono hB4.size)
  have hB15 : Below w1.heap.size w1 w5 := hB13.trans (hB35.mono hB13.size)
  have hBw5 : Below w.heap.size w w5 := hBw3.trans (hB35.mono hBw3.size)
  have l0 : w2.heap.size < w5.heap.size := by omega
  have l1 : w2.heap.size + 1 < w5.heap.size := by omega
  have l2 : w4.heap.size < w5.heap.size := by omega
  have l3 : w4.heap.size + 1 < w5.heap.size := by omega
  have l4 : w4.heap.size + 1 + 1 < w5.heap.size := by omega
  have Hd1 : Hid (∀ w', Below w5.heap.size w5 w' → Calls Try.prog 8 #[gaA.val, .slice (some ⟨w.heap.size + 1, 0, none⟩) 1 1, MV.val ⟨3, 0, 1, -1, 1, -1, 0, -1, TA⟩, .int .i64 5] w' (Gives (.int .i64 0) w')) := fun w' hb => by
    have h := decide_is (s := ⟨some ⟨w.heap.size + 1, 0, none⟩, 1, 1⟩) (exA_decide w.heap.size) (Rd.nil_ _ _) (by decide) (by decide) ((Hs1.out.toW hB15).toW hb) (fun p hp => ((He1.out p hp).toW hB15).toW hb) (exA_right _)
    rw [← HA.out] at h
    exact h
  have Hd2 : Hid (∀ w', Below w5.heap.size w5 w' → Calls Try.prog 8 #[(gaB v).val, .slice (some ⟨w.heap.size + 1, 0, none⟩) 1 1, MV.val ⟨3, 1, 1, 5, 0, 0, 1, 5, TB⟩, .int .i64 900] w' (Gives (.int .i64 7) w')) := fun w' hb => by
    have h := decide_is (s := ⟨some ⟨w.heap.size + 1, 0, none⟩, 1, 1⟩) (exA_decide2 w.heap.size v) ((HV.out.rd (fun _ => rfl)).toW hb) (Int.le_refl 0) (show (0 : Int) ≤ 20000000 by decide) ((Hs1.out.toW hB15).toW hb) (fun p hp => ((He1.out p hp).toW hB15).toW hb) (exA_right _)
    rw [← HB.out] at h
    exact h
  go_wp2_with fail
  refine (Hd1.out _ (Below.refl _ _)).mono ?_
  rintro e w6 hg
  obtain ⟨rfl, hb⟩ := hg.below
  clear hg
  have hz := hb.size
  (try simp only [World.size_alloc, World.size_setCell, World.size_drew, size_put] at hz)
  have hB : Below w5.heap.size w5 w6 := below_step (by (repeat' (first | (with_reducible exact Below.refl _ _) | (with_reducible exact Nat.le_refl _) | (with_reducible assumption) | (with_reducible refine below_step ?_ ?_ hr) | (with_reducible refine below_over ?_ ?_ _) | (with_reducible refine Below.alloc ?_ ?_ _) | (with_reducible refine Below.setCell ?_ ?_ _) | (with_reducible refine below_put ?_ ?_ _) | (with_reducible refine Below.drew ?_) | (with_reducible refine below_drewN_ ?_ _) | (with_reducible refine le_drewN ?_ _) | (with_reducible refine over_le _ _ _ ?_) | (with_reducible refine le_alloc ?_ _) | (with_reducible refine le_setCell ?_ _ _) | (with_reducible refine le_put ?_ _ _) | (with_reducible refine le_drew ?_) | dsimp only | omega | ((try simp only [World.size_alloc, World.size_setCell, World.size_drew, size_put]); omega) | (simp; done)))) (by (first | omega | ((try simp only [World.size_alloc, World.size_setCell, World.size_drew, size_put]); omega))) hb
  have hb_w6 := hb
  have Q' : w6.heap[w4.heap.size]? = _ := hb.block (w4.heap.size) (by (first | omega | ((try simp only [World.size_alloc, World.size_setCell, World.size_drew, size_put]); omega)))
  simp only [alloc_block_if, put_block_if, over_block_if, set_block_if, setObj_cells, drew_block, drewN_block, Option.map_some, List.setIfInBounds_toArray, List.set_cons_zero, List.set_cons_succ, World.size_alloc, World.size_setCell, size_put, World.size_drew, if_true, if_false, ↓IntWalk.iteOmega, Qw4_0] at Q'
  clear Qw4_0
  have Qw4_0 := Q'
  clear Q'
  have Q' : w6.heap[w4.heap.size + 1]? = _ := hb.block (w4.heap.size + 1) (by (first | omega | ((try simp only [World.size_alloc, World.size_setCell, World.size_drew, size_put]); omega)))
  simp only [alloc_block_if, put_block_if, over_block_if, set_block_if, setObj_cells, drew_block, drewN_block, Option.map_some, List.setIfInBounds_toArray, List.set_cons_zero, List.set_cons_succ, World.size_alloc, World.size_setCell, size_put, World.size_drew, if_true, if_false, ↓IntWalk.iteOmega, Qw4_1] at Q'
  clear Qw4_1
  have Qw4_1 := Q'
  clear Q'
  have Q' : w6.heap[w4.heap.size + 1 + 1]? = _ := hb.block (w4.heap.size + 1 + 1) (by (first | omega | ((try simp only [World.size_alloc, World.size_setCell, World.size_drew, size_put]); omega)))
  simp only [alloc_block_if, put_block_if, over_block_if, set_block_if, setObj_cells, drew_block, drewN_block, Option.map_some, List.setIfInBounds_toArray, List.set_cons_zero, List.set_cons_succ, World.size_alloc, World.size_setCell, size_put, World.size_drew, if_true, if_false, ↓IntWalk.iteOmega, Qw4_2] at Q'
  clear Qw4_2
  have Qw4_2 := Q'
  clear Q'
  have qw4_0 := cell_of_block Qw4_0
  have qw4_1 := cell_of_block Qw4_1
  have qw4_2 := cell_of_block Qw4_2
  clear hb
  go_wp2_with fail
  refine (Hd2.out _ hb_w6).mono ?_
  rintro e w7 hg
  obtain ⟨rfl, hb⟩ := hg.below
  clear hg
  have hz := hb.size
  (try simp only [World.size_alloc, World.size_setCell, World.size_drew, size_put] at hz)
  have hB : Below w6.heap.size w6 w7 := below_step (by (repeat' (first | (with_reducible exact Below.refl _ _) | (with_reducible exact Nat.le_refl _) | (with_reducible assumption) | (with_reducible refine below_step ?_ ?_ hr) | (with_reducible refine below_over ?_ ?_ _) | (with_reducible refine Below.alloc ?_ ?_ _) | (with_reducible refine Below.setCell ?_ ?_ _) | (with_reducible refine below_put ?_ ?_ _) | (with_reducible refine Below.drew ?_) | (with_reducible refine below_drewN_ ?_ _) | (with_reducible refine le_drewN ?_ _) | (with_reducible refine over_le _ _ _ ?_) | (with_reducible refine le_alloc ?_ _) | (with_reducible refine le_setCell ?_ _ _) | (with_reducible refine le_put ?_ _ _) | (with_reducible refine le_drew ?_) | dsimp only | omega | ((try simp only [World.size_alloc, World.size_setCell, World.size_drew, size_put]); omega) | (simp; done)))) (by (first | omega | ((try simp only [World.size_alloc, World.size_setCell, World.size_drew, size_put]); omega))) hb
  clear hb
  have hB57 : Below w5.heap.size w5 w7 := hb_w6.trans (hB.mono hb_w6.size)
  go_wp2_with fail
  go_ret
  exact gives_of rfl (by go_light; exact hBw5.trans (hB57.mono hBw5.size))
end Go.Proofs.Ytoafgpeghokhgaa
