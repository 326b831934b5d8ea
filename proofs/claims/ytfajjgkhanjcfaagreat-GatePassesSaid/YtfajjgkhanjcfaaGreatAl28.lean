/- Gates: the chapter's examples. -/
import Derived.Test.YtfajjgkhanjcfaaGreatSm28
import Derived.Test.YtfajjgkhanjcfaaGreatGateL
namespace Go.Proofs.YtfajjgkhanjcfaaGreat
set_option linter.unusedSimpArgs false
set_option linter.unusedVariables false
open Go.RowKit
abbrev m28 : MV := ⟨5, 0, 3, -1, 2, -1, 0, -1, 0⟩
abbrev mB28 : MV := ⟨5, 1, 3, 2000, 1, 0, 9, 2000, 0⟩
abbrev mC28 : MV := ⟨5, 2, 3, 2000, 0, 0, 9, 2300, 0⟩
abbrev gB28 (v : Sl) : GV := ⟨4, 9, 1, 2, 7, 2, v, 1000, []⟩
abbrev gC28 (v : Sl) : GV := ⟨4, 9, 1, 1, 7, 3, v, 1500, [5]⟩
theorem ex28_right (b : Nat) : right22 [pr3 b] = 0 := by rfl
theorem ex28_new : newV 7 5 3 2 = .tuple #[(m28.tagged (signF 7 m28)).val, .int .i64 0] := by rw [newV, if_neg (by decide)]
theorem ex28_use (b : Nat) (T : Int) : useM (pr3 b) (m28.tagged T) 9 2000 = mB28 := by rfl
theorem ex28_use2 (b : Nat) (T : Int) : useM (pr3 b) (mB28.tagged T) 9 2300 = mC28 := by rfl
theorem dec_why {g : GV} {es : List PD} {m : MV} {t D : Int} {p : PD} (h1 : ¬ (t < g.heard ∨ g.heard + 86400 ≤ t)) (h2 : mRight m = 0) (h3 : hasF g.list m.serial = false) (h4 : findF m.product es = some p) (h5 : whyF p (m.tagged (signF g.key m)) g.operator g.lift t = D) : decideF g es (m.tagged (signF g.key m)) t = D := by
  have hc : checkF g.key (m.tagged (signF g.key m)) = true := by rw [tagged_check, h2]; rfl
  have h3' : hasF g.list (m.tagged (signF g.key m)).serial = false := h3
  have h4' : findF (m.tagged (signF g.key m)).product es = some p := h4
  unfold decideF
  rw [if_neg h1, hc, if_neg (by decide), h3', if_neg (by decide), h4']
  exact h5
theorem ex28_a (b : Nat) : decideF ga4 [pr3 b] (m28.tagged (signF 7 m28)) 1000 = 0 := dec_why (g := ga4) (m := m28) (p := pr3 b) (by decide) (by decide) rfl rfl rfl
theorem ex28_b (b : Nat) : decideF ga4 [pr3 b] (m28.tagged (signF 7 m28)) 87399 = 0 := dec_why (g := ga4) (m := m28) (p := pr3 b) (by decide) (by decide) rfl rfl rfl
theorem ex28_p (b : Nat) : decideF ga4 [pr3 b] (m28.tagged (signF 7 m28)) 2000 = 0 := dec_why (g := ga4) (m := m28) (p := pr3 b) (by decide) (by decide) rfl rfl rfl
theorem ex28_c (b : Nat) (T : Int) : decideF ga4 [pr3 b] (m28.tagged T) 999 = 9 := by unfold decideF; rw [if_pos (by decide)]
theorem ex28_d (b : Nat) (T : Int) : decideF ga4 [pr3 b] (m28.tagged T) 87400 = 9 := by unfold decideF; rw [if_pos (by decide)]
theorem ex28_tags : checkF 7 ⟨5, 0, 3, -1, 1, -1, 0, -1, signF 7 m28⟩ = false := by decide +kernel
theorem ex28_e (b : Nat) : decideF ga4 [pr3 b] ⟨5, 0, 3, -1, 1, -1, 0, -1, signF 7 m28⟩ 1000 = 1 := by
  unfold decideF
  rw [if_neg (show ¬ ((1000 : Int) < 1000 ∨ (1000 : Int) + 86400 ≤ 1000) by decide), if_pos (show checkF ga4.key _ = false from ex28_tags)]
theorem ex28_f (b : Nat) (v : Sl) : decideF (gB28 v) [pr3 b] (mB28.tagged (signF 7 mB28)) 2299 = 8 := dec_why (g := gB28 v) (m := mB28) (p := pr3 b) (show ¬ ((2299 : Int) < 1000 ∨ (1000 : Int) + 86400 ≤ 2299) by decide) (by decide) rfl rfl rfl
theorem ex28_g (b : Nat) (v : Sl) : decideF (gB28 v) [pr3 b] (mB28.tagged (signF 7 mB28)) 2300 = 0 := dec_why (g := gB28 v) (m := mB28) (p := pr3 b) (show ¬ ((2300 : Int) < 1000 ∨ (1000 : Int) + 86400 ≤ 2300) by decide) (by decide) rfl rfl rfl
theorem ex28_h (b : Nat) (v : Sl) : decideF (gB28 v) [pr3 b] (mC28.tagged (signF 7 mC28)) 9000 = 7 := dec_why (g := gB28 v) (m := mC28) (p := pr3 b) (show ¬ ((9000 : Int) < 1000 ∨ (1000 : Int) + 86400 ≤ 9000) by decide) (by decide) rfl rfl rfl
theorem ex28_i (b : Nat) (v : Sl) : decideF (gC28 v) [pr3 b] (m28.tagged (signF 7 m28)) 1600 = 2 := by
  have hc : checkF (gC28 v).key (m28.tagged (signF 7 m28)) = true := by rw [show (gC28 v).key = 7 from rfl, tagged_check]; rfl
  have hh : hasF (gC28 v).list (m28.tagged (signF 7 m28)).serial = true := rfl
  unfold decideF
  rw [if_neg (show ¬ ((1600 : Int) < 1500 ∨ (1500 : Int) + 86400 ≤ 1600) by decide), hc, if_neg (by decide), hh, if_pos rfl]
theorem ex28_pass (b : Nat) : passE ga4 [pr3 b] (m28.tagged (signF 7 m28)) 2000 = 0 := by
  unfold passE
  rw [ex28_p, if_neg (by decide), if_neg (by decide)]
  rfl
theorem ex28_pass2 (b : Nat) (v : Sl) : passE (gB28 v) [pr3 b] (mB28.tagged (signF 7 mB28)) 2300 = 0 := by
  unfold passE
  rw [ex28_g, if_neg (by decide), if_neg (show ¬ (1000000 : Int) ≤ 2 by decide)]
  rfl
theorem ex28_hear (B : Nat) : hearF ga4 ⟨2, 3, ⟨some ⟨B, 0, none⟩, 1, 1⟩, ⟨none, 0, 0⟩, [5], []⟩ 1500 = ⟨3, [5], 0⟩ := by rfl
theorem ex28_gate : right28 ga4 = 0 := by rfl
theorem pass28a {w : World} {b : Nat} {TA TB : Int} {s : Sl} (hA : TA = signF 7 m28) (hB : TB = signF 7 mB28) (hs : Rd w PD.enc s [pr3 b]) (he : ∀ p ∈ [pr3 b], p.at_ w) : Calls Tryz.prog 6 #[ga4.val, s.val, MV.val ⟨5, 0, 3, -1, 2, -1, 0, -1, TA⟩, .int .i64 2000] w fun e w' => Below w.heap.size w w' ∧ ∃ v : Sl, e = .returned (.tuple #[(gB28 v).val, MV.val ⟨5, 1, 3, 2000, 1, 0, 9, 2000, TB⟩, rideV 4 1 5 1 3 9 2000, .int .i64 0]) ∧ Rd w' encI v [] := by
  subst hA hB
  refine (gate_Pass_yes (g := ga4) (m := m28.tagged (signF 7 m28)) (t := 2000) (pr3 b) (Rd.nil_ _ _) (by decide) (by decide) hs he (ex28_right b) (ex28_pass b) rfl (by decide) (by decide)).mono ?_
  rintro e w' ⟨h1, v, rfl, h2⟩
  refine ⟨h1, v, ?_, h2.rd (fun _ => rfl)⟩
  rw [ex28_use]
  rfl
theorem pass28b {w : World} {b : Nat} {TB TC : Int} {s v0 : Sl} (hB : TB = signF 7 mB28) (hC : TC = signF 7 mC28) (hv : Rd w encI v0 []) (hs : Rd w PD.enc s [pr3 b]) (he : ∀ p ∈ [pr3 b], p.at_ w) : Calls Tryz.prog 6 #[(gB28 v0).val, s.val, MV.val ⟨5, 1, 3, 2000, 1, 0, 9, 2000, TB⟩, .int .i64 2300] w fun e w' => Below w.heap.size w w' ∧ ∃ v : Sl, e = .returned (.tuple #[GV.val ⟨4, 9, 1, 3, 7, 2, v, 1000, []⟩, MV.val ⟨5, 2, 3, 2000, 0, 0, 9, 2300, TC⟩, rideV 4 2 5 2 3 9 2300, .int .i64 0]) := by
  subst hB hC
  have hn : v0.n = 0 := hv.len.symm
  refine (gate_Pass_yes (g := gB28 v0) (m := mB28.tagged (signF 7 mB28)) (t := 2300) (pr3 b) hv (show (0 : Int) ≤ 1000 by decide) (show (1000 : Int) ≤ 20000000 by decide) hs he (ex28_right b) (ex28_pass2 b v0) rfl (show (0 : Int) ≤ 2 by decide) (by show v0.n ≤ 1000; omega)).mono ?_
  rintro e w' ⟨h1, v, rfl, h2⟩
  refine ⟨h1, v, ?_⟩
  rw [show (gB28 v0).lift = 9 from rfl, ex28_use2]
  rfl
theorem hear28 {w : World} {B : Nat} (hB : w.heap[B]? = some (.cells #[.int .i64 5] 3)) : Calls Tryz.prog 12 #[ga4.val, DV.val ⟨2, 3, ⟨some ⟨B, 0, none⟩, 1, 1⟩, ⟨none, 0, 0⟩, [5], []⟩, .int .i64 1500] w fun e w' => Below w.heap.size w w' ∧ ∃ v : Sl, e = .returned (.tuple #[(gC28 v).val, .int .i64 0]) ∧ Rd w' encI v [5] := by
  refine (gate_Hear ga4 ⟨2, 3, ⟨some ⟨B, 0, none⟩, 1, 1⟩, ⟨none, 0, 0⟩, [5], []⟩ 1500 w (Rd.nil_ _ _) ⟨rd_lit 1 (fun _ => rfl) [5] hB rfl rfl (by simp [maxLen]), Rd.nil_ _ _⟩ (by decide) (show (1 : Nat) ≤ 400 by decide) (show (0 : Nat) ≤ 400 by decide) (fun x hx => by cases hx) (fun x hx => by obtain rfl : x = 5 := (by simpa using hx); decide) (fun x hx => by cases hx)).mono ?_
  rw [ex28_hear]
  rintro e w' ⟨s, rfl, hb, ha⟩
  rw [heardV_ok] at ha ⊢
  exact ⟨hb, s, rfl, ha⟩
theorem decide_is {D : Int} {g : GV} {s : Sl} {es : List PD} {m : MV} {t : Int} {w : World} (hD : decideF g es m t = D) (hg : g.at_ w) (hh0 : 0 ≤ g.heard) (hh1 : g.heard ≤ 20000000) (hs : Rd w PD.enc s es) (he : ∀ p ∈ es, p.at_ w) (h22 : right22 es = 0) :
    Calls Tryz.prog 15 #[g.val, s.val, m.val, .int .i64 t] w (Gives (.int .i64 D) w) := hD ▸ gate_Decide g s es m t w hg hh0 hh1 hs he (small_right h22 he) h22
set_option maxRecDepth 100000 in
set_option maxHeartbeats 12800000 in
theorem law28_alive (w : World) : Calls Tryz.prog 4 #[] w (Gives (.bool true) w) := by
  obtain ⟨TA, hA⟩ : ∃ T, T = signF 7 m28 := ⟨_, rfl⟩
  obtain ⟨TB, hB⟩ : ∃ T, T = signF 7 mB28 := ⟨_, rfl⟩
  obtain ⟨TC, hC⟩ : ∃ T, T = signF 7 mC28 := ⟨_, rfl⟩
  have HA := Lib.hid hA
  have HB := Lib.hid hB
  have HC := Lib.hid hC
  have Hn : Hid (∀ w', Calls Tryz.prog 11 #[.int .u64 7, .int .i64 5, .int .i64 3, .int .i64 2] w' (Gives (.tuple #[MV.val ⟨5, 0, 3, -1, 2, -1, 0, -1, TA⟩, .int .i64 0]) w')) := fun w' => by
    have h := media_New 7 5 3 2 w'
    rw [ex28_new, ← HA.out] at h
    exact h
  clear hA hB hC
  (go_enter Tryz.func4, Tryz.ntmps4; try dsimp only [List.append])
  go_upto_region 2 with (first | (go_at_call 9; refine (law28_four _).mono ?_; rintro e w1 hg; obtain ⟨rfl, hb⟩ := hg.below; clear hg; have hz := hb.size; (try simp only [World.size_alloc, World.size_setCell, World.size_drew, size_put] at hz); have hB : Below w.heap.size w w1 := below_step (by (repeat' (first | (with_reducible exact Below.refl _ _) | (with_reducible exact Nat.le_refl _) | (with_reducible assumption) | (with_reducible refine below_step ?_ ?_ hr) | (with_reducible refine below_over ?_ ?_ _) | (with_reducible refine Below.alloc ?_ ?_ _) | (with_reducible refine Below.setCell ?_ ?_ _) | (with_reducible refine below_put ?_ ?_ _) | (with_reducible refine Below.drew ?_) | (with_reducible refine below_drewN_ ?_ _) | (with_reducible refine le_drewN ?_ _) | (with_reducible refine over_le _ _ _ ?_) | (with_reducible refine le_alloc ?_ _) | (with_reducible refine le_setCell ?_ _ _) | (with_reducible refine le_put ?_ _ _) | (with_reducible refine le_drew ?_) | dsimp only | omega | ((try simp only [World.size_alloc, World.size_setCell, World.size_drew, size_put]); omega) | (simp; done)))) (by (first | omega | ((try simp only [World.size_alloc, World.size_setCell, World.size_drew, size_put]); omega))) hb; have hb_w1 := hb; clear hb) | (go_at_call 10; refine (law28_points _).mono ?_; rintro e w2 ⟨rfl, hb, hs, he⟩; have HS := Lib.hid hs; have HE := Lib.hid he; clear hs he; have hl12 := hb.size; have hz := hb.size; (try simp only [World.size_alloc, World.size_setCell, World.size_drew, size_put] at hz); have hB : Below w1.heap.size w1 w2 := below_step (by (repeat' (first | (with_reducible exact Below.refl _ _) | (with_reducible exact Nat.le_refl _) | (with_reducible assumption) | (with_reducible refine below_step ?_ ?_ hr) | (with_reducible refine below_over ?_ ?_ _) | (with_reducible refine Below.alloc ?_ ?_ _) | (with_reducible refine Below.setCell ?_ ?_ _) | (with_reducible refine below_put ?_ ?_ _) | (with_reducible refine Below.drew ?_) | (with_reducible refine below_drewN_ ?_ _) | (with_reducible refine le_drewN ?_ _) | (with_reducible refine over_le _ _ _ ?_) | (with_reducible refine le_alloc ?_ _) | (with_reducible refine le_setCell ?_ _ _) | (with_reducible refine le_put ?_ _ _) | (with_reducible refine le_drew ?_) | dsimp only | omega | ((try simp only [World.size_alloc, World.size_setCell, World.size_drew, size_put]); omega) | (simp; done)))) (by (first | omega | ((try simp only [World.size_alloc, World.size_setCell, World.size_drew, size_put]); omega))) hb; clear hb))
  have hB12 := hB
  have hB01 : Below w.heap.size w w1 := hb_w1
  refine wp_letter (fun w3 hb => ?_)
  have hz := hb.size
  (try simp only [World.size_alloc, World.size_setCell, World.size_drew, size_put] at hz)
  have hB : Below w2.heap.size w2 w3 := below_step (by (repeat' (first | (with_reducible exact Below.refl _ _) | (with_reducible exact Nat.le_refl _) | (with_reducible assumption) | (with_reducible refine below_step ?_ ?_ hr) | (with_reducible refine below_over ?_ ?_ _) | (with_reducible refine Below.alloc ?_ ?_ _) | (with_reducible refine Below.setCell ?_ ?_ _) | (with_reducible refine below_put ?_ ?_ _) | (with_reducible refine Below.drew ?_) | (with_reducible refine below_drewN_ ?_ _) | (with_reducible refine le_drewN ?_ _) | (with_reducible refine over_le _ _ _ ?_) | (with_reducible refine le_alloc ?_ _) | (with_reducible refine le_setCell ?_ _ _) | (with_reducible refine le_put ?_ _ _) | (with_reducible refine le_drew ?_) | dsimp only | omega | ((try simp only [World.size_alloc, World.size_setCell, World.size_drew, size_put]); omega) | (simp; done)))) (by (first | omega | ((try simp only [World.size_alloc, World.size_setCell, World.size_drew, size_put]); omega))) hb
  have Q' : w3.heap[w2.heap.size]? = _ := hb.block (w2.heap.size) (by (first | omega | ((try simp only [World.size_alloc, World.size_setCell, World.size_drew, size_put]); omega)))
  simp only [alloc_block_if, put_block_if, over_block_if, set_block_if, setObj_cells, drew_block, drewN_block, Option.map_some, List.setIfInBounds_toArray, List.set_cons_zero, List.set_cons_succ, World.size_alloc, World.size_setCell, size_put, World.size_drew, if_true, if_false, ↓IntWalk.iteOmega] at Q'
  have Qw2_0 := Q'
  clear Q'
  have qw2_0 := cell_of_block Qw2_0
  clear hb
  have hB23 := hB
  go_upto_region 5 with (go_at_call 11; refine (Hn.out _).mono ?_; rintro e w4 hg; obtain ⟨rfl, hb⟩ := hg.below; clear hg; have hz := hb.size; (try simp only [World.size_alloc, World.size_setCell, World.size_drew, size_put] at hz); have hB : Below w3.heap.size w3 w4 := below_step (by (repeat' (first | (with_reducible exact Below.refl _ _) | (with_reducible exact Nat.le_refl _) | (with_reducible assumption) | (with_reducible refine below_step ?_ ?_ hr) | (with_reducible refine below_over ?_ ?_ _) | (with_reducible refine Below.alloc ?_ ?_ _) | (with_reducible refine Below.setCell ?_ ?_ _) | (with_reducible refine below_put ?_ ?_ _) | (with_reducible refine Below.drew ?_) | (with_reducible refine below_drewN_ ?_ _) | (with_reducible refine le_drewN ?_ _) | (with_reducible refine over_le _ _ _ ?_) | (with_reducible refine le_alloc ?_ _) | (with_reducible refine le_setCell ?_ _ _) | (with_reducible refine le_put ?_ _ _) | (with_reducible refine le_drew ?_) | dsimp only | omega | ((try simp only [World.size_alloc, World.size_setCell, World.size_drew, size_put]); omega) | (simp; done)))) (by (first | omega | ((try simp only [World.size_alloc, World.size_setCell, World.size_drew, size_put]); omega))) hb; have Q' : w4.heap[w2.heap.size]? = _ := hb.block (w2.heap.size) (by (first | omega | ((try simp only [World.size_alloc, World.size_setCell, World.size_drew, size_put]); omega))); simp only [alloc_block_if, put_block_if, over_block_if, set_block_if, setObj_cells, drew_block, drewN_block, Option.map_some, List.setIfInBounds_toArray, List.set_cons_zero, List.set_cons_succ, World.size_alloc, World.size_setCell, size_put, World.size_drew, if_true, if_false, ↓IntWalk.iteOmega, Qw2_0] at Q'; clear Qw2_0; have Qw2_0 := Q'; clear Q'; have qw2_0 := cell_of_block Qw2_0; clear hb)
  have hB34 := hB
  refine wp_letter (fun w5 hb => ?_)
  have hz := hb.size
  (try simp only [World.size_alloc, World.size_setCell, World.size_drew, size_put] at hz)
  have hB : Below w4.heap.size w4 w5 := below_step (by (repeat' (first | (with_reducible exact Below.refl _ _) | (with_reducible exact Nat.le_refl _) | (with_reducible assumption) | (with_reducible refine below_step ?_ ?_ hr) | (with_reducible refine below_over ?_ ?_ _) | (with_reducible refine Below.alloc ?_ ?_ _) | (with_reducible refine Below.setCell ?_ ?_ _) | (with_reducible refine below_put ?_ ?_ _) | (with_reducible refine Below.drew ?_) | (with_reducible refine below_drewN_ ?_ _) | (with_reducible refine le_drewN ?_ _) | (with_reducible refine over_le _ _ _ ?_) | (with_reducible refine le_alloc ?_ _) | (with_reducible refine le_setCell ?_ _ _) | (with_reducible refine le_put ?_ _ _) | (with_reducible refine le_drew ?_) | dsimp only | omega | ((try simp only [World.size_alloc, World.size_setCell, World.size_drew, size_put]); omega) | (simp; done)))) (by (first | omega | ((try simp only [World.size_alloc, World.size_setCell, World.size_drew, size_put]); omega))) hb
  have Q' : w5.heap[w2.heap.size]? = _ := hb.block (w2.heap.size) (by (first | omega | ((try simp only [World.size_alloc, World.size_setCell, World.size_drew, size_put]); omega)))
  simp only [alloc_block_if, put_block_if, over_block_if, set_block_if, setObj_cells, drew_block, drewN_block, Option.map_some, List.setIfInBounds_toArray, List.set_cons_zero, List.set_cons_succ, World.size_alloc, World.size_setCell, size_put, World.size_drew, if_true, if_false, ↓IntWalk.iteOmega, Qw2_0] at Q'
  clear Qw2_0
  have Qw2_0 := Q'
  clear Q'
  have Q' : w5.heap[w4.heap.size]? = _ := hb.block (w4.heap.size) (by (first | omega | ((try simp only [World.size_alloc, World.size_setCell, World.size_drew, size_put]); omega)))
  simp only [alloc_block_if, put_block_if, over_block_if, set_block_if, setObj_cells, drew_block, drewN_block, Option.map_some, List.setIfInBounds_toArray, List.set_cons_zero, List.set_cons_succ, World.size_alloc, World.size_setCell, size_put, World.size_drew, if_true, if_false, ↓IntWalk.iteOmega] at Q'
  have Qw4_0 := Q'
  clear Q'
  have Q' : w5.heap[w4.heap.size + 1]? = _ := hb.block (w4.heap.size + 1) (by (first | omega | ((try simp only [World.size_alloc, World.size_setCell, World.size_drew, size_put]); omega)))
  simp only [alloc_block_if, put_block_if, over_block_if, set_block_if, setObj_cells, drew_block, drewN_block, Option.map_some, List.setIfInBounds_toArray, List.set_cons_zero, List.set_cons_succ, World.size_alloc, World.size_setCell, size_put, World.size_drew, if_true, if_false, ↓IntWalk.iteOmega] at Q'
  have Qw4_1 := Q'
  clear Q'
  have qw2_0 := cell_of_block Qw2_0
  have qw4_0 := cell_of_block Qw4_0
  have qw4_1 := cell_of_block Qw4_1
  clear hb
  have hB45 := hB
  have hB25 : Below w2.heap.size w2 w5 := hB23.trans ((hB34.trans (hB45.mono hB34.size)).mono hB23.size)
  have hl1 : w1.heap.size ≤ w2.heap.size := hB12.size
  go_upto_region 6 with (go_at_call 6; refine (pass28a HA.out HB.out (HS.out.toW hB25) (fun p hp => (HE.out p hp).toW hB25)).mono ?_; rintro e w6 ⟨hb, va, rfl, hv⟩; have HVA := Lib.hid hv; clear hv; have hz := hb.size; (try simp only [World.size_alloc, World.size_setCell, World.size_drew, size_put] at hz); have hB : Below w5.heap.size w5 w6 := below_step (by (repeat' (first | (with_reducible exact Below.refl _ _) | (with_reducible exact Nat.le_refl _) | (with_reducible assumption) | (with_reducible refine below_step ?_ ?_ hr) | (with_reducible refine below_over ?_ ?_ _) | (with_reducible refine Below.alloc ?_ ?_ _) | (with_reducible refine Below.setCell ?_ ?_ _) | (with_reducible refine below_put ?_ ?_ _) | (with_reducible refine Below.drew ?_) | (with_reducible refine below_drewN_ ?_ _) | (with_reducible refine le_drewN ?_ _) | (with_reducible refine over_le _ _ _ ?_) | (with_reducible refine le_alloc ?_ _) | (with_reducible refine le_setCell ?_ _ _) | (with_reducible refine le_put ?_ _ _) | (with_reducible refine le_drew ?_) | dsimp only | omega | ((try simp only [World.size_alloc, World.size_setCell, World.size_drew, size_put]); omega) | (simp; done)))) (by (first | omega | ((try simp only [World.size_alloc, World.size_setCell, World.size_drew, size_put]); omega))) hb; have Q' : w6.heap[w2.heap.size]? = _ := hb.block (w2.heap.size) (by (first | omega | ((try simp only [World.size_alloc, World.size_setCell, World.size_drew, size_put]); omega))); simp only [alloc_block_if, put_block_if, over_block_if, set_block_if, setObj_cells, drew_block, drewN_block, Option.map_some, List.setIfInBounds_toArray, List.set_cons_zero, List.set_cons_succ, World.size_alloc, World.size_setCell, size_put, World.size_drew, if_true, if_false, ↓IntWalk.iteOmega, Qw2_0] at Q'; clear Qw2_0; have Qw2_0 := Q'; clear Q'; have Q' : w6.heap[w4.heap.size]? = _ := hb.block (w4.heap.size) (by (first | omega | ((try simp only [World.size_alloc, World.size_setCell, World.size_drew, size_put]); omega))); simp only [alloc_block_if, put_block_if, over_block_if, set_block_if, setObj_cells, drew_block, drewN_block, Option.map_some, List.setIfInBounds_toArray, List.set_cons_zero, List.set_cons_succ, World.size_alloc, World.size_setCell, size_put, World.size_drew, if_true, if_false, ↓IntWalk.iteOmega, Qw4_0] at Q'; clear Qw4_0; have Qw4_0 := Q'; clear Q'; have Q' : w6.heap[w4.heap.size + 1]? = _ := hb.block (w4.heap.size + 1) (by (first | omega | ((try simp only [World.size_alloc, World.size_setCell, World.size_drew, size_put]); omega))); simp only [alloc_block_if, put_block_if, over_block_if, set_block_if, setObj_cells, drew_block, drewN_block, Option.map_some, List.setIfInBounds_toArray, List.set_cons_zero, List.set_cons_succ, World.size_alloc, World.size_setCell, size_put, World.size_drew, if_true, if_false, ↓IntWalk.iteOmega, Qw4_1] at Q'; clear Qw4_1; have Qw4_1 := Q'; clear Q'; have qw2_0 := cell_of_block Qw2_0; have qw4_0 := cell_of_block Qw4_0; have qw4_1 := cell_of_block Qw4_1; clear hb)
  have hB56 := hB
  refine wp_letter (fun w7 hb => ?_)
  have hz := hb.size
  (try simp only [World.size_alloc, World.size_setCell, World.size_drew, size_put] at hz)
  have hB : Below w6.heap.size w6 w7 := below_step (by (repeat' (first | (with_reducible exact Below.refl _ _) | (with_reducible exact Nat.le_refl _) | (with_reducible assumption) | (with_reducible refine below_step ?_ ?_ hr) | (with_reducible refine below_over ?_ ?_ _) | (with_reducible refine Below.alloc ?_ ?_ _) | (with_reducible refine Below.setCell ?_ ?_ _) | (with_reducible refine below_put ?_ ?_ _) | (with_reducible refine Below.drew ?_) | (with_reducible refine below_drewN_ ?_ _) | (with_reducible refine le_drewN ?_ _) | (with_reducible refine over_le _ _ _ ?_) | (with_reducible refine le_alloc ?_ _) | (with_reducible refine le_setCell ?_ _ _) | (with_reducible refine le_put ?_ _ _) | (with_reducible refine le_drew ?_) | dsimp only | omega | ((try simp only [World.size_alloc, World.size_setCell, World.size_drew, size_put]); omega) | (simp; done)))) (by (first | omega | ((try simp only [World.size_alloc, World.size_setCell, World.size_drew, size_put]); omega))) hb
  have HVA := Lib.hid (HVA.out.toW (below_step (by (repeat' (first | (with_reducible exact Below.refl _ _) | (with_reducible exact Nat.le_refl _) | (with_reducible assumption) | (with_reducible refine below_step ?_ ?_ hr) | (with_reducible refine below_over ?_ ?_ _) | (with_reducible refine Below.alloc ?_ ?_ _) | (with_reducible refine Below.setCell ?_ ?_ _) | (with_reducible refine below_put ?_ ?_ _) | (with_reducible refine Below.drew ?_) | (with_reducible refine below_drewN_ ?_ _) | (with_reducible refine le_drewN ?_ _) | (with_reducible refine over_le _ _ _ ?_) | (with_reducible refine le_alloc ?_ _) | (with_reducible refine le_setCell ?_ _ _) | (with_reducible refine le_put ?_ _ _) | (with_reducible refine le_drew ?_) | dsimp only | omega | ((try simp only [World.size_alloc, World.size_setCell, World.size_drew, size_put]); omega) | (simp; done)))) (by (first | omega | ((try simp only [World.size_alloc, World.size_setCell, World.size_drew, size_put]); omega))) hb))
  have Q' : w7.heap[w2.heap.size]? = _ := hb.block (w2.heap.size) (by (first | omega | ((try simp only [World.size_alloc, World.size_setCell, World.size_drew, size_put]); omega)))
  simp only [alloc_block_if, put_block_if, over_block_if, set_block_if, setObj_cells, drew_block, drewN_block, Option.map_some, List.setIfInBounds_toArray, List.set_cons_zero, List.set_cons_succ, World.size_alloc, World.size_setCell, size_put, World.size_drew, if_true, if_false, ↓IntWalk.iteOmega, Qw2_0] at Q'
  clear Qw2_0
  have Qw2_0 := Q'
  clear Q'
  have Q' : w7.heap[w4.heap.size]? = _ := hb.block (w4.heap.size) (by (first | omega | ((try simp only [World.size_alloc, World.size_setCell, World.size_drew, size_put]); omega)))
  simp only [alloc_block_if, put_block_if, over_block_if, set_block_if, setObj_cells, drew_block, drewN_block, Option.map_some, List.setIfInBounds_toArray, List.set_cons_zero, List.set_cons_succ, World.size_alloc, World.size_setCell, size_put, World.size_drew, if_true, if_false, ↓IntWalk.iteOmega, Qw4_0] at Q'
  clear Qw4_0
  have Qw4_0 := Q'
  clear Q'
  have Q' : w7.heap[w4.heap.size + 1]? = _ := hb.block (w4.heap.size + 1) (by (first | omega | ((try simp only [World.size_alloc, World.size_setCell, World.size_drew, size_put]); omega)))
  simp only [alloc_block_if, put_block_if, over_block_if, set_block_if, setObj_cells, drew_block, drewN_block, Option.map_some, List.setIfInBounds_toArray, List.set_cons_zero, List.set_cons_succ, World.size_alloc, World.size_setCell, size_put, World.size_drew, if_true, if_false, ↓IntWalk.iteOmega, Qw4_1] at Q'
  clear Qw4_1
  have Qw4_1 := Q'
  clear Q'
  have Q' : w7.heap[w6.heap.size]? = _ := hb.block (w6.heap.size) (by (first | omega | ((try simp only [World.size_alloc, World.size_setCell, World.size_drew, size_put]); omega)))
  simp only [alloc_block_if, put_block_if, over_block_if, set_block_if, setObj_cells, drew_block, drewN_block, Option.map_some, List.setIfInBounds_toArray, List.set_cons_zero, List.set_cons_succ, World.size_alloc, World.size_setCell, size_put, World.size_drew, if_true, if_false, ↓IntWalk.iteOmega] at Q'
  have Qw6_0 := Q'
  clear Q'
  have Q' : w7.heap[w6.heap.size + 1]? = _ := hb.block (w6.heap.size + 1) (by (first | omega | ((try simp only [World.size_alloc, World.size_setCell, World.size_drew, size_put]); omega)))
  simp only [alloc_block_if, put_block_if, over_block_if, set_block_if, setObj_cells, drew_block, drewN_block, Option.map_some, List.setIfInBounds_toArray, List.set_cons_zero, List.set_cons_succ, World.size_alloc, World.size_setCell, size_put, World.size_drew, if_true, if_false, ↓IntWalk.iteOmega] at Q'
  have Qw6_1 := Q'
  clear Q'
  have Q' : w7.heap[w6.heap.size + 1 + 1]? = _ := hb.block (w6.heap.size + 1 + 1) (by (first | omega | ((try simp only [World.size_alloc, World.size_setCell, World.size_drew, size_put]); omega)))
  simp only [alloc_block_if, put_block_if, over_block_if, set_block_if, setObj_cells, drew_block, drewN_block, Option.map_some, List.setIfInBounds_toArray, List.set_cons_zero, List.set_cons_succ, World.size_alloc, World.size_setCell, size_put, World.size_drew, if_true, if_false, ↓IntWalk.iteOmega] at Q'
  have Qw6_2 := Q'
  clear Q'
  have qw2_0 := cell_of_block Qw2_0
  have qw4_0 := cell_of_block Qw4_0
  have qw4_1 := cell_of_block Qw4_1
  have qw6_0 := cell_of_block Qw6_0
  have qw6_1 := cell_of_block Qw6_1
  have qw6_2 := cell_of_block Qw6_2
  clear hb
  have hB67 := hB
  have hB57 : Below w5.heap.size w5 w7 := hB56.trans (hB67.mono hB56.size)
  have hB27 : Below w2.heap.size w2 w7 := hB25.trans (hB57.mono hB25.size)
  go_upto_region 7 with (go_at_call 6; refine (pass28b HB.out HC.out HVA.out (HS.out.toW hB27) (fun p hp => (HE.out p hp).toW hB27)).mono ?_; rintro e w8 ⟨hb, vc, rfl⟩; have hz := hb.size; (try simp only [World.size_alloc, World.size_setCell, World.size_drew, size_put] at hz); have hB : Below w7.heap.size w7 w8 := below_step (by (repeat' (first | (with_reducible exact Below.refl _ _) | (with_reducible exact Nat.le_refl _) | (with_reducible assumption) | (with_reducible refine below_step ?_ ?_ hr) | (with_reducible refine below_over ?_ ?_ _) | (with_reducible refine Below.alloc ?_ ?_ _) | (with_reducible refine Below.setCell ?_ ?_ _) | (with_reducible refine below_put ?_ ?_ _) | (with_reducible refine Below.drew ?_) | (with_reducible refine below_drewN_ ?_ _) | (with_reducible refine le_drewN ?_ _) | (with_reducible refine over_le _ _ _ ?_) | (with_reducible refine le_alloc ?_ _) | (with_reducible refine le_setCell ?_ _ _) | (with_reducible refine le_put ?_ _ _) | (with_reducible refine le_drew ?_) | dsimp only | omega | ((try simp only [World.size_alloc, World.size_setCell, World.size_drew, size_put]); omega) | (simp; done)))) (by (first | omega | ((try simp only [World.size_alloc, World.size_setCell, World.size_drew, size_put]); omega))) hb; have HVA := Lib.hid (HVA.out.toW (below_step (by (repeat' (first | (with_reducible exact Below.refl _ _) | (with_reducible exact Nat.le_refl _) | (with_reducible assumption) | (with_reducible refine below_step ?_ ?_ hr) | (with_reducible refine below_over ?_ ?_ _) | (with_reducible refine Below.alloc ?_ ?_ _) | (with_reducible refine Below.setCell ?_ ?_ _) | (with_reducible refine below_put ?_ ?_ _) | (with_reducible refine Below.drew ?_) | (with_reducible refine below_drewN_ ?_ _) | (with_reducible refine le_drewN ?_ _) | (with_reducible refine over_le _ _ _ ?_) | (with_reducible refine le_alloc ?_ _) | (with_reducible refine le_setCell ?_ _ _) | (with_reducible refine le_put ?_ _ _) | (with_reducible refine le_drew ?_) | dsimp only | omega | ((try simp only [World.size_alloc, World.size_setCell, World.size_drew, size_put]); omega) | (simp; done)))) (by (first | omega | ((try simp only [World.size_alloc, World.size_setCell, World.size_drew, size_put]); omega))) hb)); have Q' : w8.heap[w2.heap.size]? = _ := hb.block (w2.heap.size) (by (first | omega | ((try simp only [World.size_alloc, World.size_setCell, World.size_drew, size_put]); omega))); simp only [alloc_block_if, put_block_if, over_block_if, set_block_if, setObj_cells, drew_block, drewN_block, Option.map_some, List.setIfInBounds_toArray, List.set_cons_zero, List.set_cons_succ, World.size_alloc, World.size_setCell, size_put, World.size_drew, if_true, if_false, ↓IntWalk.iteOmega, Qw2_0] at Q'; clear Qw2_0; have Qw2_0 := Q'; clear Q'; have Q' : w8.heap[w4.heap.size]? = _ := hb.block (w4.heap.size) (by (first | omega | ((try simp only [World.size_alloc, World.size_setCell, World.size_drew, size_put]); omega))); simp only [alloc_block_if, put_block_if, over_block_if, set_block_if, setObj_cells, drew_block, drewN_block, Option.map_some, List.setIfInBounds_toArray, List.set_cons_zero, List.set_cons_succ, World.size_alloc, World.size_setCell, size_put, World.size_drew, if_true, if_false, ↓IntWalk.iteOmega, Qw4_0] at Q'; clear Qw4_0; have Qw4_0 := Q'; clear Q'; have Q' : w8.heap[w4.heap.size + 1]? = _ := hb.block (w4.heap.size + 1) (by (first | omega | ((try simp only [World.size_alloc, World.size_setCell, World.size_drew, size_put]); omega))); simp only [alloc_block_if, put_block_if, over_block_if, set_block_if, setObj_cells, drew_block, drewN_block, Option.map_some, List.setIfInBounds_toArray, List.set_cons_zero, List.set_cons_succ, World.size_alloc, World.size_setCell, size_put, World.size_drew, if_true, if_false, ↓IntWalk.iteOmega, Qw4_1] at Q'; clear Qw4_1; have Qw4_1 := Q'; clear Q'; have Q' : w8.heap[w6.heap.size]? = _ := hb.block (w6.heap.size) (by (first | omega | ((try simp only [World.size_alloc, World.size_setCell, World.size_drew, size_put]); omega))); simp only [alloc_block_if, put_block_if, over_block_if, set_block_if, setObj_cells, drew_block, drewN_block, Option.map_some, List.setIfInBounds_toArray, List.set_cons_zero, List.set_cons_succ, World.size_alloc, World.size_setCell, size_put, World.size_drew, if_true, if_false, ↓IntWalk.iteOmega, Qw6_0] at Q'; clear Qw6_0; have Qw6_0 := Q'; clear Q'; have Q' : w8.heap[w6.heap.size + 1]? = _ := hb.block (w6.heap.size + 1) (by (first | omega | ((try simp only [World.size_alloc, World.size_setCell, World.size_drew, size_put]); omega))); simp only [alloc_block_if, put_block_if, over_block_if, set_block_if, setObj_cells, drew_block, drewN_block, Option.map_some, List.setIfInBounds_toArray, List.set_cons_zero, List.set_cons_succ, World.size_alloc, World.size_setCell, size_put, World.size_drew, if_true, if_false, ↓IntWalk.iteOmega, Qw6_1] at Q'; clear Qw6_1; have Qw6_1 := Q'; clear Q'; have Q' : w8.heap[w6.heap.size + 1 + 1]? = _ := hb.block (w6.heap.size + 1 + 1) (by (first | omega | ((try simp only [World.size_alloc, World.size_setCell, World.size_drew, size_put]); omega))); simp only [alloc_block_if, put_block_if, over_block_if, set_block_if, setObj_cells, drew_block, drewN_block, Option.map_some, List.setIfInBounds_toArray, List.set_cons_zero, List.set_cons_succ, World.size_alloc, World.size_setCell, size_put, World.size_drew, if_true, if_false, ↓IntWalk.iteOmega, Qw6_2] at Q'; clear Qw6_2; have Qw6_2 := Q'; clear Q'; have qw2_0 := cell_of_block Qw2_0; have qw4_0 := cell_of_block Qw4_0; have qw4_1 := cell_of_block Qw4_1; have qw6_0 := cell_of_block Qw6_0; have qw6_1 := cell_of_block Qw6_1; have qw6_2 := cell_of_block Qw6_2; clear hb)
  have hB78 := hB
  refine wp_letter (fun w9 hb => ?_)
  have hz := hb.size
  (try simp only [World.size_alloc, World.size_setCell, World.size_drew, size_put] at hz)
  have hB : Below w8.heap.size w8 w9 := below_step (by (repeat' (first | (with_reducible exact Below.refl _ _) | (with_reducible exact Nat.le_refl _) | (with_reducible assumption) | (with_reducible refine below_step ?_ ?_ hr) | (with_reducible refine below_over ?_ ?_ _) | (with_reducible refine Below.alloc ?_ ?_ _) | (with_reducible refine Below.setCell ?_ ?_ _) | (with_reducible refine below_put ?_ ?_ _) | (with_reducible refine Below.drew ?_) | (with_reducible refine below_drewN_ ?_ _) | (with_reducible refine le_drewN ?_ _) | (with_reducible refine over_le _ _ _ ?_) | (with_reducible refine le_alloc ?_ _) | (with_reducible refine le_setCell ?_ _ _) | (with_reducible refine le_put ?_ _ _) | (with_reducible refine le_drew ?_) | dsimp only | omega | ((try simp only [World.size_alloc, World.size_setCell, World.size_drew, size_put]); omega) | (simp; done)))) (by (first | omega | ((try simp only [World.size_alloc, World.size_setCell, World.size_drew, size_put]); omega))) hb
  have HVA := Lib.hid (HVA.out.toW (below_step (by (repeat' (first | (with_reducible exact Below.refl _ _) | (with_reducible exact Nat.le_refl _) | (with_reducible assumption) | (with_reducible refine below_step ?_ ?_ hr) | (with_reducible refine below_over ?_ ?_ _) | (with_reducible refine Below.alloc ?_ ?_ _) | (with_reducible refine Below.setCell ?_ ?_ _) | (with_reducible refine below_put ?_ ?_ _) | (with_reducible refine Below.drew ?_) | (with_reducible refine below_drewN_ ?_ _) | (with_reducible refine le_drewN ?_ _) | (with_reducible refine over_le _ _ _ ?_) | (with_reducible refine le_alloc ?_ _) | (with_reducible refine le_setCell ?_ _ _) | (with_reducible refine le_put ?_ _ _) | (with_reducible refine le_drew ?_) | dsimp only | omega | ((try simp only [World.size_alloc, World.size_setCell, World.size_drew, size_put]); omega) | (simp; done)))) (by (first | omega | ((try simp only [World.size_alloc, World.size_setCell, World.size_drew, size_put]); omega))) hb))
  have Q' : w9.heap[w2.heap.size]? = _ := hb.block (w2.heap.size) (by (first | omega | ((try simp only [World.size_alloc, World.size_setCell, World.size_drew, size_put]); omega)))
  simp only [alloc_block_if, put_block_if, over_block_if, set_block_if, setObj_cells, drew_block, drewN_block, Option.map_some, List.setIfInBounds_toArray, List.set_cons_zero, List.set_cons_succ, World.size_alloc, World.size_setCell, size_put, World.size_drew, if_true, if_false, ↓IntWalk.iteOmega, Qw2_0] at Q'
  clear Qw2_0
  have Qw2_0 := Q'
  clear Q'
  have Q' : w9.heap[w4.heap.size]? = _ := hb.block (w4.heap.size) (by (first | omega | ((try simp only [World.size_alloc, World.size_setCell, World.size_drew, size_put]); omega)))
  simp only [alloc_block_if, put_block_if, over_block_if, set_block_if, setObj_cells, drew_block, drewN_block, Option.map_some, List.setIfInBounds_toArray, List.set_cons_zero, List.set_cons_succ, World.size_alloc, World.size_setCell, size_put, World.size_drew, if_true, if_false, ↓IntWalk.iteOmega, Qw4_0] at Q'
  clear Qw4_0
  have Qw4_0 := Q'
  clear Q'
  have Q' : w9.heap[w4.heap.size + 1]? = _ := hb.block (w4.heap.size + 1) (by (first | omega | ((try simp only [World.size_alloc, World.size_setCell, World.size_drew, size_put]); omega)))
  simp only [alloc_block_if, put_block_if, over_block_if, set_block_if, setObj_cells, drew_block, drewN_block, Option.map_some, List.setIfInBounds_toArray, List.set_cons_zero, List.set_cons_succ, World.size_alloc, World.size_setCell, size_put, World.size_drew, if_true, if_false, ↓IntWalk.iteOmega, Qw4_1] at Q'
  clear Qw4_1
  have Qw4_1 := Q'
  clear Q'
  have Q' : w9.heap[w6.heap.size]? = _ := hb.block (w6.heap.size) (by (first | omega | ((try simp only [World.size_alloc, World.size_setCell, World.size_drew, size_put]); omega)))
  simp only [alloc_block_if, put_block_if, over_block_if, set_block_if, setObj_cells, drew_block, drewN_block, Option.map_some, List.setIfInBounds_toArray, List.set_cons_zero, List.set_cons_succ, World.size_alloc, World.size_setCell, size_put, World.size_drew, if_true, if_false, ↓IntWalk.iteOmega, Qw6_0] at Q'
  clear Qw6_0
  have Qw6_0 := Q'
  clear Q'
  have Q' : w9.heap[w6.heap.size + 1]? = _ := hb.block (w6.heap.size + 1) (by (first | omega | ((try simp only [World.size_alloc, World.size_setCell, World.size_drew, size_put]); omega)))
  simp only [alloc_block_if, put_block_if, over_block_if, set_block_if, setObj_cells, drew_block, drewN_block, Option.map_some, List.setIfInBounds_toArray, List.set_cons_zero, List.set_cons_succ, World.size_alloc, World.size_setCell, size_put, World.size_drew, if_true, if_false, ↓IntWalk.iteOmega, Qw6_1] at Q'
  clear Qw6_1
  have Qw6_1 := Q'
  clear Q'
  have Q' : w9.heap[w6.heap.size + 1 + 1]? = _ := hb.block (w6.heap.size + 1 + 1) (by (first | omega | ((try simp only [World.size_alloc, World.size_setCell, World.size_drew, size_put]); omega)))
  simp only [alloc_block_if, put_block_if, over_block_if, set_block_if, setObj_cells, drew_block, drewN_block, Option.map_some, List.setIfInBounds_toArray, List.set_cons_zero, List.set_cons_succ, World.size_alloc, World.size_setCell, size_put, World.size_drew, if_true, if_false, ↓IntWalk.iteOmega, Qw6_2] at Q'
  clear Qw6_2
  have Qw6_2 := Q'
  clear Q'
  have Q' : w9.heap[w8.heap.size + 1]? = _ := hb.block (w8.heap.size + 1) (by (first | omega | ((try simp only [World.size_alloc, World.size_setCell, World.size_drew, size_put]); omega)))
  simp only [alloc_block_if, put_block_if, over_block_if, set_block_if, setObj_cells, drew_block, drewN_block, Option.map_some, List.setIfInBounds_toArray, List.set_cons_zero, List.set_cons_succ, World.size_alloc, World.size_setCell, size_put, World.size_drew, if_true, if_false, ↓IntWalk.iteOmega] at Q'
  have Qw8_1 := Q'
  clear Q'
  have qw2_0 := cell_of_block Qw2_0
  have qw4_0 := cell_of_block Qw4_0
  have qw4_1 := cell_of_block Qw4_1
  have qw6_0 := cell_of_block Qw6_0
  have qw6_1 := cell_of_block Qw6_1
  have qw6_2 := cell_of_block Qw6_2
  have qw8_1 := cell_of_block Qw8_1
  clear hb
  have hB89 := hB
  have hB79 : Below w7.heap.size w7 w9 := hB78.trans (hB89.mono hB78.size)
  have hB29 : Below w2.heap.size w2 w9 := hB27.trans (hB79.mono hB27.size)
  go_upto_region 8 with (go_at_call 12; refine (hear28 (B := w9.heap.size) (by rw [alloc_block_if, if_pos rfl])).mono ?_; rintro e w10 ⟨hb, vb, rfl, hv⟩; have HVB := Lib.hid hv; clear hv; have hz := hb.size; (try simp only [World.size_alloc, World.size_setCell, World.size_drew, size_put] at hz); have hB : Below w9.heap.size w9 w10 := below_step (by (repeat' (first | (with_reducible exact Below.refl _ _) | (with_reducible exact Nat.le_refl _) | (with_reducible assumption) | (with_reducible refine below_step ?_ ?_ hr) | (with_reducible refine below_over ?_ ?_ _) | (with_reducible refine Below.alloc ?_ ?_ _) | (with_reducible refine Below.setCell ?_ ?_ _) | (with_reducible refine below_put ?_ ?_ _) | (with_reducible refine Below.drew ?_) | (with_reducible refine below_drewN_ ?_ _) | (with_reducible refine le_drewN ?_ _) | (with_reducible refine over_le _ _ _ ?_) | (with_reducible refine le_alloc ?_ _) | (with_reducible refine le_setCell ?_ _ _) | (with_reducible refine le_put ?_ _ _) | (with_reducible refine le_drew ?_) | dsimp only | omega | ((try simp only [World.size_alloc, World.size_setCell, World.size_drew, size_put]); omega) | (simp; done)))) (by (first | omega | ((try simp only [World.size_alloc, World.size_setCell, World.size_drew, size_put]); omega))) hb; have HVA := Lib.hid (HVA.out.toW (below_step (by (repeat' (first | (with_reducible exact Below.refl _ _) | (with_reducible exact Nat.le_refl _) | (with_reducible assumption) | (with_reducible refine below_step ?_ ?_ hr) | (with_reducible refine below_over ?_ ?_ _) | (with_reducible refine Below.alloc ?_ ?_ _) | (with_reducible refine Below.setCell ?_ ?_ _) | (with_reducible refine below_put ?_ ?_ _) | (with_reducible refine Below.drew ?_) | (with_reducible refine below_drewN_ ?_ _) | (with_reducible refine le_drewN ?_ _) | (with_reducible refine over_le _ _ _ ?_) | (with_reducible refine le_alloc ?_ _) | (with_reducible refine le_setCell ?_ _ _) | (with_reducible refine le_put ?_ _ _) | (with_reducible refine le_drew ?_) | dsimp only | omega | ((try simp only [World.size_alloc, World.size_setCell, World.size_drew, size_put]); omega) | (simp; done)))) (by (first | omega | ((try simp only [World.size_alloc, World.size_setCell, World.size_drew, size_put]); omega))) hb)); have Q' : w10.heap[w2.heap.size]? = _ := hb.block (w2.heap.size) (by (first | omega | ((try simp only [World.size_alloc, World.size_setCell, World.size_drew, size_put]); omega))); simp only [alloc_block_if, put_block_if, over_block_if, set_block_if, setObj_cells, drew_block, drewN_block, Option.map_some, List.setIfInBounds_toArray, List.set_cons_zero, List.set_cons_succ, World.size_alloc, World.size_setCell, size_put, World.size_drew, if_true, if_false, ↓IntWalk.iteOmega, Qw2_0] at Q'; clear Qw2_0; have Qw2_0 := Q'; clear Q'; have Q' : w10.heap[w4.heap.size]? = _ := hb.block (w4.heap.size) (by (first | omega | ((try simp only [World.size_alloc, World.size_setCell, World.size_drew, size_put]); omega))); simp only [alloc_block_if, put_block_if, over_block_if, set_block_if, setObj_cells, drew_block, drewN_block, Option.map_some, List.setIfInBounds_toArray, List.set_cons_zero, List.set_cons_succ, World.size_alloc, World.size_setCell, size_put, World.size_drew, if_true, if_false, ↓IntWalk.iteOmega, Qw4_0] at Q'; clear Qw4_0; have Qw4_0 := Q'; clear Q'; have Q' : w10.heap[w4.heap.size + 1]? = _ := hb.block (w4.heap.size + 1) (by (first | omega | ((try simp only [World.size_alloc, World.size_setCell, World.size_drew, size_put]); omega))); simp only [alloc_block_if, put_block_if, over_block_if, set_block_if, setObj_cells, drew_block, drewN_block, Option.map_some, List.setIfInBounds_toArray, List.set_cons_zero, List.set_cons_succ, World.size_alloc, World.size_setCell, size_put, World.size_drew, if_true, if_false, ↓IntWalk.iteOmega, Qw4_1] at Q'; clear Qw4_1; have Qw4_1 := Q'; clear Q'; have Q' : w10.heap[w6.heap.size]? = _ := hb.block (w6.heap.size) (by (first | omega | ((try simp only [World.size_alloc, World.size_setCell, World.size_drew, size_put]); omega))); simp only [alloc_block_if, put_block_if, over_block_if, set_block_if, setObj_cells, drew_block, drewN_block, Option.map_some, List.setIfInBounds_toArray, List.set_cons_zero, List.set_cons_succ, World.size_alloc, World.size_setCell, size_put, World.size_drew, if_true, if_false, ↓IntWalk.iteOmega, Qw6_0] at Q'; clear Qw6_0; have Qw6_0 := Q'; clear Q'; have Q' : w10.heap[w6.heap.size + 1]? = _ := hb.block (w6.heap.size + 1) (by (first | omega | ((try simp only [World.size_alloc, World.size_setCell, World.size_drew, size_put]); omega))); simp only [alloc_block_if, put_block_if, over_block_if, set_block_if, setObj_cells, drew_block, drewN_block, Option.map_some, List.setIfInBounds_toArray, List.set_cons_zero, List.set_cons_succ, World.size_alloc, World.size_setCell, size_put, World.size_drew, if_true, if_false, ↓IntWalk.iteOmega, Qw6_1] at Q'; clear Qw6_1; have Qw6_1 := Q'; clear Q'; have Q' : w10.heap[w6.heap.size + 1 + 1]? = _ := hb.block (w6.heap.size + 1 + 1) (by (first | omega | ((try simp only [World.size_alloc, World.size_setCell, World.size_drew, size_put]); omega))); simp only [alloc_block_if, put_block_if, over_block_if, set_block_if, setObj_cells, drew_block, drewN_block, Option.map_some, List.setIfInBounds_toArray, List.set_cons_zero, List.set_cons_succ, World.size_alloc, World.size_setCell, size_put, World.size_drew, if_true, if_false, ↓IntWalk.iteOmega, Qw6_2] at Q'; clear Qw6_2; have Qw6_2 := Q'; clear Q'; have Q' : w10.heap[w8.heap.size + 1]? = _ := hb.block (w8.heap.size + 1) (by (first | omega | ((try simp only [World.size_alloc, World.size_setCell, World.size_drew, size_put]); omega))); simp only [alloc_block_if, put_block_if, over_block_if, set_block_if, setObj_cells, drew_block, drewN_block, Option.map_some, List.setIfInBounds_toArray, List.set_cons_zero, List.set_cons_succ, World.size_alloc, World.size_setCell, size_put, World.size_drew, if_true, if_false, ↓IntWalk.iteOmega, Qw8_1] at Q'; clear Qw8_1; have Qw8_1 := Q'; clear Q'; have qw2_0 := cell_of_block Qw2_0; have qw4_0 := cell_of_block Qw4_0; have qw4_1 := cell_of_block Qw4_1; have qw6_0 := cell_of_block Qw6_0; have qw6_1 := cell_of_block Qw6_1; have qw6_2 := cell_of_block Qw6_2; have qw8_1 := cell_of_block Qw8_1; clear hb)
  have hB910 := hB
  refine wp_letter (fun w11 hb => ?_)
  have hz := hb.size
  (try simp only [World.size_alloc, World.size_setCell, World.size_drew, size_put] at hz)
  have hB : Below w10.heap.size w10 w11 := below_step (by (repeat' (first | (with_reducible exact Below.refl _ _) | (with_reducible exact Nat.le_refl _) | (with_reducible assumption) | (with_reducible refine below_step ?_ ?_ hr) | (with_reducible refine below_over ?_ ?_ _) | (with_reducible refine Below.alloc ?_ ?_ _) | (with_reducible refine Below.setCell ?_ ?_ _) | (with_reducible refine below_put ?_ ?_ _) | (with_reducible refine Below.drew ?_) | (with_reducible refine below_drewN_ ?_ _) | (with_reducible refine le_drewN ?_ _) | (with_reducible refine over_le _ _ _ ?_) | (with_reducible refine le_alloc ?_ _) | (with_reducible refine le_setCell ?_ _ _) | (with_reducible refine le_put ?_ _ _) | (with_reducible refine le_drew ?_) | dsimp only | omega | ((try simp only [World.size_alloc, World.size_setCell, World.size_drew, size_put]); omega) | (simp; done)))) (by (first | omega | ((try simp only [World.size_alloc, World.size_setCell, World.size_drew, size_put]); omega))) hb
  have HVA := Lib.hid (HVA.out.toW (below_step (by (repeat' (first | (with_reducible exact Below.refl _ _) | (with_reducible exact Nat.le_refl _) | (with_reducible assumption) | (with_reducible refine below_step ?_ ?_ hr) | (with_reducible refine below_over ?_ ?_ _) | (with_reducible refine Below.alloc ?_ ?_ _) | (with_reducible refine Below.setCell ?_ ?_ _) | (with_reducible refine below_put ?_ ?_ _) | (with_reducible refine Below.drew ?_) | (with_reducible refine below_drewN_ ?_ _) | (with_reducible refine le_drewN ?_ _) | (with_reducible refine over_le _ _ _ ?_) | (with_reducible refine le_alloc ?_ _) | (with_reducible refine le_setCell ?_ _ _) | (with_reducible refine le_put ?_ _ _) | (with_reducible refine le_drew ?_) | dsimp only | omega | ((try simp only [World.size_alloc, World.size_setCell, World.size_drew, size_put]); omega) | (simp; done)))) (by (first | omega | ((try simp only [World.size_alloc, World.size_setCell, World.size_drew, size_put]); omega))) hb))
  have HVB := Lib.hid (HVB.out.toW (below_step (by (repeat' (first | (with_reducible exact Below.refl _ _) | (with_reducible exact Nat.le_refl _) | (with_reducible assumption) | (with_reducible refine below_step ?_ ?_ hr) | (with_reducible refine below_over ?_ ?_ _) | (with_reducible refine Below.alloc ?_ ?_ _) | (with_reducible refine Below.setCell ?_ ?_ _) | (with_reducible refine below_put ?_ ?_ _) | (with_reducible refine Below.drew ?_) | (with_reducible refine below_drewN_ ?_ _) | (with_reducible refine le_drewN ?_ _) | (with_reducible refine over_le _ _ _ ?_) | (with_reducible refine le_alloc ?_ _) | (with_reducible refine le_setCell ?_ _ _) | (with_reducible refine le_put ?_ _ _) | (with_reducible refine le_drew ?_) | dsimp only | omega | ((try simp only [World.size_alloc, World.size_setCell, World.size_drew, size_put]); omega) | (simp; done)))) (by (first | omega | ((try simp only [World.size_alloc, World.size_setCell, World.size_drew, size_put]); omega))) hb))
  have Q' : w11.heap[w2.heap.size]? = _ := hb.block (w2.heap.size) (by (first | omega | ((try simp only [World.size_alloc, World.size_setCell, World.size_drew, size_put]); omega)))
  simp only [alloc_block_if, put_block_if, over_block_if, set_block_if, setObj_cells, drew_block, drewN_block, Option.map_some, List.setIfInBounds_toArray, List.set_cons_zero, List.set_cons_succ, World.size_alloc, World.size_setCell, size_put, World.size_drew, if_true, if_false, ↓IntWalk.iteOmega, Qw2_0] at Q'
  clear Qw2_0
  have Qw2_0 := Q'
  clear Q'
  have Q' : w11.heap[w4.heap.size]? = _ := hb.block (w4.heap.size) (by (first | omega | ((try simp only [World.size_alloc, World.size_setCell, World.size_drew, size_put]); omega)))
  simp only [alloc_block_if, put_block_if, over_block_if, set_block_if, setObj_cells, drew_block, drewN_block, Option.map_some, List.setIfInBounds_toArray, List.set_cons_zero, List.set_cons_succ, World.size_alloc, World.size_setCell, size_put, World.size_drew, if_true, if_false, ↓IntWalk.iteOmega, Qw4_0] at Q'
  clear Qw4_0
  have Qw4_0 := Q'
  clear Q'
  have Q' : w11.heap[w4.heap.size + 1]? = _ := hb.block (w4.heap.size + 1) (by (first | omega | ((try simp only [World.size_alloc, World.size_setCell, World.size_drew, size_put]); omega)))
  simp only [alloc_block_if, put_block_if, over_block_if, set_block_if, setObj_cells, drew_block, drewN_block, Option.map_some, List.setIfInBounds_toArray, List.set_cons_zero, List.set_cons_succ, World.size_alloc, World.size_setCell, size_put, World.size_drew, if_true, if_false, ↓IntWalk.iteOmega, Qw4_1] at Q'
  clear Qw4_1
  have Qw4_1 := Q'
  clear Q'
  have Q' : w11.heap[w6.heap.size]? = _ := hb.block (w6.heap.size) (by (first | omega | ((try simp only [World.size_alloc, World.size_setCell, World.size_drew, size_put]); omega)))
  simp only [alloc_block_if, put_block_if, over_block_if, set_block_if, setObj_cells, drew_block, drewN_block, Option.map_some, List.setIfInBounds_toArray, List.set_cons_zero, List.set_cons_succ, World.size_alloc, World.size_setCell, size_put, World.size_drew, if_true, if_false, ↓IntWalk.iteOmega, Qw6_0] at Q'
  clear Qw6_0
  have Qw6_0 := Q'
  clear Q'
  have Q' : w11.heap[w6.heap.size + 1]? = _ := hb.block (w6.heap.size + 1) (by (first | omega | ((try simp only [World.size_alloc, World.size_setCell, World.size_drew, size_put]); omega)))
  simp only [alloc_block_if, put_block_if, over_block_if, set_block_if, setObj_cells, drew_block, drewN_block, Option.map_some, List.setIfInBounds_toArray, List.set_cons_zero, List.set_cons_succ, World.size_alloc, World.size_setCell, size_put, World.size_drew, if_true, if_false, ↓IntWalk.iteOmega, Qw6_1] at Q'
  clear Qw6_1
  have Qw6_1 := Q'
  clear Q'
  have Q' : w11.heap[w6.heap.size + 1 + 1]? = _ := hb.block (w6.heap.size + 1 + 1) (by (first | omega | ((try simp only [World.size_alloc, World.size_setCell, World.size_drew, size_put]); omega)))
  simp only [alloc_block_if, put_block_if, over_block_if, set_block_if, setObj_cells, drew_block, drewN_block, Option.map_some, List.setIfInBounds_toArray, List.set_cons_zero, List.set_cons_succ, World.size_alloc, World.size_setCell, size_put, World.size_drew, if_true, if_false, ↓IntWalk.iteOmega, Qw6_2] at Q'
  clear Qw6_2
  have Qw6_2 := Q'
  clear Q'
  have Q' : w11.heap[w8.heap.size + 1]? = _ := hb.block (w8.heap.size + 1) (by (first | omega | ((try simp only [World.size_alloc, World.size_setCell, World.size_drew, size_put]); omega)))
  simp only [alloc_block_if, put_block_if, over_block_if, set_block_if, setObj_cells, drew_block, drewN_block, Option.map_some, List.setIfInBounds_toArray, List.set_cons_zero, List.set_cons_succ, World.size_alloc, World.size_setCell, size_put, World.size_drew, if_true, if_false, ↓IntWalk.iteOmega, Qw8_1] at Q'
  clear Qw8_1
  have Qw8_1 := Q'
  clear Q'
  have Q' : w11.heap[w10.heap.size]? = _ := hb.block (w10.heap.size) (by (first | omega | ((try simp only [World.size_alloc, World.size_setCell, World.size_drew, size_put]); omega)))
  simp only [alloc_block_if, put_block_if, over_block_if, set_block_if, setObj_cells, drew_block, drewN_block, Option.map_some, List.setIfInBounds_toArray, List.set_cons_zero, List.set_cons_succ, World.size_alloc, World.size_setCell, size_put, World.size_drew, if_true, if_false, ↓IntWalk.iteOmega] at Q'
  have Qw10_0 := Q'
  clear Q'
  have qw2_0 := cell_of_block Qw2_0
  have qw4_0 := cell_of_block Qw4_0
  have qw4_1 := cell_of_block Qw4_1
  have qw6_0 := cell_of_block Qw6_0
  have qw6_1 := cell_of_block Qw6_1
  have qw6_2 := cell_of_block Qw6_2
  have qw8_1 := cell_of_block Qw8_1
  have qw10_0 := cell_of_block Qw10_0
  clear hb
  have hB1011 := hB
  have hB911 : Below w9.heap.size w9 w11 := hB910.trans (hB1011.mono hB910.size)
  have hB211 : Below w2.heap.size w2 w11 := hB29.trans (hB911.mono hB29.size)
  have HS11 := Lib.hid (HS.out.toW hB211)
  have HE11 : Hid (∀ p ∈ [pr3 w1.heap.size], p.at_ w11) := fun p hp => (HE.out p hp).toW hB211
  have HDa : Hid (∀ w', Below w11.heap.size w11 w' → Calls Tryz.prog 15 #[ga4.val, .slice (some ⟨w1.heap.size + 1, 0, none⟩) 1 1, MV.val ⟨5, 0, 3, -1, 2, -1, 0, -1, TA⟩, .int .i64 1000] w' (Gives (.int .i64 0) w')) := fun w' hb => by
    have h := decide_is (s := ⟨some ⟨w1.heap.size + 1, 0, none⟩, 1, 1⟩) (ex28_a w1.heap.size) (Rd.nil_ _ _) (by decide) (by decide) (HS11.out.toW hb) (fun p hp => (HE11.out p hp).toW hb) (ex28_right _)
    rw [← HA.out] at h
    exact h
  have HDb : Hid (∀ w', Below w11.heap.size w11 w' → Calls Tryz.prog 15 #[ga4.val, .slice (some ⟨w1.heap.size + 1, 0, none⟩) 1 1, MV.val ⟨5, 0, 3, -1, 2, -1, 0, -1, TA⟩, .int .i64 87399] w' (Gives (.int .i64 0) w')) := fun w' hb => by
    have h := decide_is (s := ⟨some ⟨w1.heap.size + 1, 0, none⟩, 1, 1⟩) (ex28_b w1.heap.size) (Rd.nil_ _ _) (by decide) (by decide) (HS11.out.toW hb) (fun p hp => (HE11.out p hp).toW hb) (ex28_right _)
    rw [← HA.out] at h
    exact h
  have HDc : Hid (∀ w', Below w11.heap.size w11 w' → Calls Tryz.prog 15 #[ga4.val, .slice (some ⟨w1.heap.size + 1, 0, none⟩) 1 1, MV.val ⟨5, 0, 3, -1, 2, -1, 0, -1, TA⟩, .int .i64 999] w' (Gives (.int .i64 9) w')) := fun w' hb => by
    have h := decide_is (s := ⟨some ⟨w1.heap.size + 1, 0, none⟩, 1, 1⟩) (ex28_c w1.heap.size (signF 7 m28)) (Rd.nil_ _ _) (by decide) (by decide) (HS11.out.toW hb) (fun p hp => (HE11.out p hp).toW hb) (ex28_right _)
    rw [← HA.out] at h
    exact h
  have HDd : Hid (∀ w', Below w11.heap.size w11 w' → Calls Tryz.prog 15 #[ga4.val, .slice (some ⟨w1.heap.size + 1, 0, none⟩) 1 1, MV.val ⟨5, 0, 3, -1, 2, -1, 0, -1, TA⟩, .int .i64 87400] w' (Gives (.int .i64 9) w')) := fun w' hb => by
    have h := decide_is (s := ⟨some ⟨w1.heap.size + 1, 0, none⟩, 1, 1⟩) (ex28_d w1.heap.size (signF 7 m28)) (Rd.nil_ _ _) (by decide) (by decide) (HS11.out.toW hb) (fun p hp => (HE11.out p hp).toW hb) (ex28_right _)
    rw [← HA.out] at h
    exact h
  have HDe : Hid (∀ w', Below w11.heap.size w11 w' → Calls Tryz.prog 15 #[ga4.val, .slice (some ⟨w1.heap.size + 1, 0, none⟩) 1 1, MV.val ⟨5, 0, 3, -1, 1, -1, 0, -1, TA⟩, .int .i64 1000] w' (Gives (.int .i64 1) w')) := fun w' hb => by
    have h := decide_is (s := ⟨some ⟨w1.heap.size + 1, 0, none⟩, 1, 1⟩) (ex28_e w1.heap.size) (Rd.nil_ _ _) (by decide) (by decide) (HS11.out.toW hb) (fun p hp => (HE11.out p hp).toW hb) (ex28_right _)
    rw [← HA.out] at h
    exact h
  have HDf : Hid (∀ w', Below w11.heap.size w11 w' → Calls Tryz.prog 15 #[(gB28 va).val, .slice (some ⟨w1.heap.size + 1, 0, none⟩) 1 1, MV.val ⟨5, 1, 3, 2000, 1, 0, 9, 2000, TB⟩, .int .i64 2299] w' (Gives (.int .i64 8) w')) := fun w' hb => by
    have h := decide_is (s := ⟨some ⟨w1.heap.size + 1, 0, none⟩, 1, 1⟩) (ex28_f w1.heap.size va) (HVA.out.toW hb) (show (0 : Int) ≤ 1000 by decide) (show (1000 : Int) ≤ 20000000 by decide) (HS11.out.toW hb) (fun p hp => (HE11.out p hp).toW hb) (ex28_right _)
    rw [← HB.out] at h
    exact h
  have HDg : Hid (∀ w', Below w11.heap.size w11 w' → Calls Tryz.prog 15 #[(gB28 va).val, .slice (some ⟨w1.heap.size + 1, 0, none⟩) 1 1, MV.val ⟨5, 1, 3, 2000, 1, 0, 9, 2000, TB⟩, .int .i64 2300] w' (Gives (.int .i64 0) w')) := fun w' hb => by
    have h := decide_is (s := ⟨some ⟨w1.heap.size + 1, 0, none⟩, 1, 1⟩) (ex28_g w1.heap.size va) (HVA.out.toW hb) (show (0 : Int) ≤ 1000 by decide) (show (1000 : Int) ≤ 20000000 by decide) (HS11.out.toW hb) (fun p hp => (HE11.out p hp).toW hb) (ex28_right _)
    rw [← HB.out] at h
    exact h
  have HDh : Hid (∀ w', Below w11.heap.size w11 w' → Calls Tryz.prog 15 #[(gB28 va).val, .slice (some ⟨w1.heap.size + 1, 0, none⟩) 1 1, MV.val ⟨5, 2, 3, 2000, 0, 0, 9, 2300, TC⟩, .int .i64 9000] w' (Gives (.int .i64 7) w')) := fun w' hb => by
    have h := decide_is (s := ⟨some ⟨w1.heap.size + 1, 0, none⟩, 1, 1⟩) (ex28_h w1.heap.size va) (HVA.out.toW hb) (show (0 : Int) ≤ 1000 by decide) (show (1000 : Int) ≤ 20000000 by decide) (HS11.out.toW hb) (fun p hp => (HE11.out p hp).toW hb) (ex28_right _)
    rw [← HC.out] at h
    exact h
  have HDi : Hid (∀ w', Below w11.heap.size w11 w' → Calls Tryz.prog 15 #[(gC28 vb).val, .slice (some ⟨w1.heap.size + 1, 0, none⟩) 1 1, MV.val ⟨5, 0, 3, -1, 2, -1, 0, -1, TA⟩, .int .i64 1600] w' (Gives (.int .i64 2) w')) := fun w' hb => by
    have h := decide_is (s := ⟨some ⟨w1.heap.size + 1, 0, none⟩, 1, 1⟩) (ex28_i w1.heap.size vb) (HVB.out.toW hb) (show (0 : Int) ≤ 1500 by decide) (show (1500 : Int) ≤ 20000000 by decide) (HS11.out.toW hb) (fun p hp => (HE11.out p hp).toW hb) (ex28_right _)
    rw [← HA.out] at h
    exact h
  have HRt : Hid (∀ w', Calls Tryz.prog 13 #[ga4.val] w' (Gives (.int .i64 0) w')) := fun w' => by
    have h := gate_Right ga4 w' (Rd.nil_ _ _)
    rw [ex28_gate] at h
    exact h
  have HUn : Hid (∀ w', Calls Tryz.prog 14 #[ga4.val] w' (Gives (.int .i64 87400) w')) := fun w' => gate_Until ga4 w' (by decide) (by decide)
  go_wp2_with fail
  refine (HRt.out _).mono ?_
  rintro e w12 hg
  obtain ⟨rfl, hb⟩ := hg.below
  clear hg
  have hz := hb.size
  (try simp only [World.size_alloc, World.size_setCell, World.size_drew, size_put] at hz)
  have hB : Below w11.heap.size w11 w12 := below_step (by (repeat' (first | (with_reducible exact Below.refl _ _) | (with_reducible exact Nat.le_refl _) | (with_reducible assumption) | (with_reducible refine below_step ?_ ?_ hr) | (with_reducible refine below_over ?_ ?_ _) | (with_reducible refine Below.alloc ?_ ?_ _) | (with_reducible refine Below.setCell ?_ ?_ _) | (with_reducible refine below_put ?_ ?_ _) | (with_reducible refine Below.drew ?_) | (with_reducible refine below_drewN_ ?_ _) | (with_reducible refine le_drewN ?_ _) | (with_reducible refine over_le _ _ _ ?_) | (with_reducible refine le_alloc ?_ _) | (with_reducible refine le_setCell ?_ _ _) | (with_reducible refine le_put ?_ _ _) | (with_reducible refine le_drew ?_) | dsimp only | omega | ((try simp only [World.size_alloc, World.size_setCell, World.size_drew, size_put]); omega) | (simp; done)))) (by (first | omega | ((try simp only [World.size_alloc, World.size_setCell, World.size_drew, size_put]); omega))) hb
  have Q' : w12.heap[w2.heap.size]? = _ := hb.block (w2.heap.size) (by (first | omega | ((try simp only [World.size_alloc, World.size_setCell, World.size_drew, size_put]); omega)))
  simp only [alloc_block_if, put_block_if, over_block_if, set_block_if, setObj_cells, drew_block, drewN_block, Option.map_some, List.setIfInBounds_toArray, List.set_cons_zero, List.set_cons_succ, World.size_alloc, World.size_setCell, size_put, World.size_drew, if_true, if_false, ↓IntWalk.iteOmega, Qw2_0] at Q'
  clear Qw2_0
  have Qw2_0 := Q'
  clear Q'
  have Q' : w12.heap[w4.heap.size]? = _ := hb.block (w4.heap.size) (by (first | omega | ((try simp only [World.size_alloc, World.size_setCell, World.size_drew, size_put]); omega)))
  simp only [alloc_block_if, put_block_if, over_block_if, set_block_if, setObj_cells, drew_block, drewN_block, Option.map_some, List.setIfInBounds_toArray, List.set_cons_zero, List.set_cons_succ, World.size_alloc, World.size_setCell, size_put, World.size_drew, if_true, if_false, ↓IntWalk.iteOmega, Qw4_0] at Q'
  clear Qw4_0
  have Qw4_0 := Q'
  clear Q'
  have Q' : w12.heap[w4.heap.size + 1]? = _ := hb.block (w4.heap.size + 1) (by (first | omega | ((try simp only [World.size_alloc, World.size_setCell, World.size_drew, size_put]); omega)))
  simp only [alloc_block_if, put_block_if, over_block_if, set_block_if, setObj_cells, drew_block, drewN_block, Option.map_some, List.setIfInBounds_toArray, List.set_cons_zero, List.set_cons_succ, World.size_alloc, World.size_setCell, size_put, World.size_drew, if_true, if_false, ↓IntWalk.iteOmega, Qw4_1] at Q'
  clear Qw4_1
  have Qw4_1 := Q'
  clear Q'
  have Q' : w12.heap[w6.heap.size]? = _ := hb.block (w6.heap.size) (by (first | omega | ((try simp only [World.size_alloc, World.size_setCell, World.size_drew, size_put]); omega)))
  simp only [alloc_block_if, put_block_if, over_block_if, set_block_if, setObj_cells, drew_block, drewN_block, Option.map_some, List.setIfInBounds_toArray, List.set_cons_zero, List.set_cons_succ, World.size_alloc, World.size_setCell, size_put, World.size_drew, if_true, if_false, ↓IntWalk.iteOmega, Qw6_0] at Q'
  clear Qw6_0
  have Qw6_0 := Q'
  clear Q'
  have Q' : w12.heap[w6.heap.size + 1]? = _ := hb.block (w6.heap.size + 1) (by (first | omega | ((try simp only [World.size_alloc, World.size_setCell, World.size_drew, size_put]); omega)))
  simp only [alloc_block_if, put_block_if, over_block_if, set_block_if, setObj_cells, drew_block, drewN_block, Option.map_some, List.setIfInBounds_toArray, List.set_cons_zero, List.set_cons_succ, World.size_alloc, World.size_setCell, size_put, World.size_drew, if_true, if_false, ↓IntWalk.iteOmega, Qw6_1] at Q'
  clear Qw6_1
  have Qw6_1 := Q'
  clear Q'
  have Q' : w12.heap[w6.heap.size + 1 + 1]? = _ := hb.block (w6.heap.size + 1 + 1) (by (first | omega | ((try simp only [World.size_alloc, World.size_setCell, World.size_drew, size_put]); omega)))
  simp only [alloc_block_if, put_block_if, over_block_if, set_block_if, setObj_cells, drew_block, drewN_block, Option.map_some, List.setIfInBounds_toArray, List.set_cons_zero, List.set_cons_succ, World.size_alloc, World.size_setCell, size_put, World.size_drew, if_true, if_false, ↓IntWalk.iteOmega, Qw6_2] at Q'
  clear Qw6_2
  have Qw6_2 := Q'
  clear Q'
  have Q' : w12.heap[w8.heap.size + 1]? = _ := hb.block (w8.heap.size + 1) (by (first | omega | ((try simp only [World.size_alloc, World.size_setCell, World.size_drew, size_put]); omega)))
  simp only [alloc_block_if, put_block_if, over_block_if, set_block_if, setObj_cells, drew_block, drewN_block, Option.map_some, List.setIfInBounds_toArray, List.set_cons_zero, List.set_cons_succ, World.size_alloc, World.size_setCell, size_put, World.size_drew, if_true, if_false, ↓IntWalk.iteOmega, Qw8_1] at Q'
  clear Qw8_1
  have Qw8_1 := Q'
  clear Q'
  have Q' : w12.heap[w10.heap.size]? = _ := hb.block (w10.heap.size) (by (first | omega | ((try simp only [World.size_alloc, World.size_setCell, World.size_drew, size_put]); omega)))
  simp only [alloc_block_if, put_block_if, over_block_if, set_block_if, setObj_cells, drew_block, drewN_block, Option.map_some, List.setIfInBounds_toArray, List.set_cons_zero, List.set_cons_succ, World.size_alloc, World.size_setCell, size_put, World.size_drew, if_true, if_false, ↓IntWalk.iteOmega, Qw10_0] at Q'
  clear Qw10_0
  have Qw10_0 := Q'
  clear Q'
  have qw2_0 := cell_of_block Qw2_0
  have qw4_0 := cell_of_block Qw4_0
  have qw4_1 := cell_of_block Qw4_1
  have qw6_0 := cell_of_block Qw6_0
  have qw6_1 := cell_of_block Qw6_1
  have qw6_2 := cell_of_block Qw6_2
  have qw8_1 := cell_of_block Qw8_1
  have qw10_0 := cell_of_block Qw10_0
  clear hb
  have hk12 : Below w11.heap.size w11 w12 := hB
  go_wp2_with fail
  refine (HUn.out _).mono ?_
  rintro e w13 hg
  obtain ⟨rfl, hb⟩ := hg.below
  clear hg
  have hz := hb.size
  (try simp only [World.size_alloc, World.size_setCell, World.size_drew, size_put] at hz)
  have hB : Below w12.heap.size w12 w13 := below_step (by (repeat' (first | (with_reducible exact Below.refl _ _) | (with_reducible exact Nat.le_refl _) | (with_reducible assumption) | (with_reducible refine below_step ?_ ?_ hr) | (with_reducible refine below_over ?_ ?_ _) | (with_reducible refine Below.alloc ?_ ?_ _) | (with_reducible refine Below.setCell ?_ ?_ _) | (with_reducible refine below_put ?_ ?_ _) | (with_reducible refine Below.drew ?_) | (with_reducible refine below_drewN_ ?_ _) | (with_reducible refine le_drewN ?_ _) | (with_reducible refine over_le _ _ _ ?_) | (with_reducible refine le_alloc ?_ _) | (with_reducible refine le_setCell ?_ _ _) | (with_reducible refine le_put ?_ _ _) | (with_reducible refine le_drew ?_) | dsimp only | omega | ((try simp only [World.size_alloc, World.size_setCell, World.size_drew, size_put]); omega) | (simp; done)))) (by (first | omega | ((try simp only [World.size_alloc, World.size_setCell, World.size_drew, size_put]); omega))) hb
  have Q' : w13.heap[w2.heap.size]? = _ := hb.block (w2.heap.size) (by (first | omega | ((try simp only [World.size_alloc, World.size_setCell, World.size_drew, size_put]); omega)))
  simp only [alloc_block_if, put_block_if, over_block_if, set_block_if, setObj_cells, drew_block, drewN_block, Option.map_some, List.setIfInBounds_toArray, List.set_cons_zero, List.set_cons_succ, World.size_alloc, World.size_setCell, size_put, World.size_drew, if_true, if_false, ↓IntWalk.iteOmega, Qw2_0] at Q'
  clear Qw2_0
  have Qw2_0 := Q'
  clear Q'
  have Q' : w13.heap[w4.heap.size]? = _ := hb.block (w4.heap.size) (by (first | omega | ((try simp only [World.size_alloc, World.size_setCell, World.size_drew, size_put]); omega)))
  simp only [alloc_block_if, put_block_if, over_block_if, set_block_if, setObj_cells, drew_block, drewN_block, Option.map_some, List.setIfInBounds_toArray, List.set_cons_zero, List.set_cons_succ, World.size_alloc, World.size_setCell, size_put, World.size_drew, if_true, if_false, ↓IntWalk.iteOmega, Qw4_0] at Q'
  clear Qw4_0
  have Qw4_0 := Q'
  clear Q'
  have Q' : w13.heap[w4.heap.size + 1]? = _ := hb.block (w4.heap.size + 1) (by (first | omega | ((try simp only [World.size_alloc, World.size_setCell, World.size_drew, size_put]); omega)))
  simp only [alloc_block_if, put_block_if, over_block_if, set_block_if, setObj_cells, drew_block, drewN_block, Option.map_some, List.setIfInBounds_toArray, List.set_cons_zero, List.set_cons_succ, World.size_alloc, World.size_setCell, size_put, World.size_drew, if_true, if_false, ↓IntWalk.iteOmega, Qw4_1] at Q'
  clear Qw4_1
  have Qw4_1 := Q'
  clear Q'
  have Q' : w13.heap[w6.heap.size]? = _ := hb.block (w6.heap.size) (by (first | omega | ((try simp only [World.size_alloc, World.size_setCell, World.size_drew, size_put]); omega)))
  simp only [alloc_block_if, put_block_if, over_block_if, set_block_if, setObj_cells, drew_block, drewN_block, Option.map_some, List.setIfInBounds_toArray, List.set_cons_zero, List.set_cons_succ, World.size_alloc, World.size_setCell, size_put, World.size_drew, if_true, if_false, ↓IntWalk.iteOmega, Qw6_0] at Q'
  clear Qw6_0
  have Qw6_0 := Q'
  clear Q'
  have Q' : w13.heap[w6.heap.size + 1]? = _ := hb.block (w6.heap.size + 1) (by (first | omega | ((try simp only [World.size_alloc, World.size_setCell, World.size_drew, size_put]); omega)))
  simp only [alloc_block_if, put_block_if, over_block_if, set_block_if, setObj_cells, drew_block, drewN_block, Option.map_some, List.setIfInBounds_toArray, List.set_cons_zero, List.set_cons_succ, World.size_alloc, World.size_setCell, size_put, World.size_drew, if_true, if_false, ↓IntWalk.iteOmega, Qw6_1] at Q'
  clear Qw6_1
  have Qw6_1 := Q'
  clear Q'
  have Q' : w13.heap[w6.heap.size + 1 + 1]? = _ := hb.block (w6.heap.size + 1 + 1) (by (first | omega | ((try simp only [World.size_alloc, World.size_setCell, World.size_drew, size_put]); omega)))
  simp only [alloc_block_if, put_block_if, over_block_if, set_block_if, setObj_cells, drew_block, drewN_block, Option.map_some, List.setIfInBounds_toArray, List.set_cons_zero, List.set_cons_succ, World.size_alloc, World.size_setCell, size_put, World.size_drew, if_true, if_false, ↓IntWalk.iteOmega, Qw6_2] at Q'
  clear Qw6_2
  have Qw6_2 := Q'
  clear Q'
  have Q' : w13.heap[w8.heap.size + 1]? = _ := hb.block (w8.heap.size + 1) (by (first | omega | ((try simp only [World.size_alloc, World.size_setCell, World.size_drew, size_put]); omega)))
  simp only [alloc_block_if, put_block_if, over_block_if, set_block_if, setObj_cells, drew_block, drewN_block, Option.map_some, List.setIfInBounds_toArray, List.set_cons_zero, List.set_cons_succ, World.size_alloc, World.size_setCell, size_put, World.size_drew, if_true, if_false, ↓IntWalk.iteOmega, Qw8_1] at Q'
  clear Qw8_1
  have Qw8_1 := Q'
  clear Q'
  have Q' : w13.heap[w10.heap.size]? = _ := hb.block (w10.heap.size) (by (first | omega | ((try simp only [World.size_alloc, World.size_setCell, World.size_drew, size_put]); omega)))
  simp only [alloc_block_if, put_block_if, over_block_if, set_block_if, setObj_cells, drew_block, drewN_block, Option.map_some, List.setIfInBounds_toArray, List.set_cons_zero, List.set_cons_succ, World.size_alloc, World.size_setCell, size_put, World.size_drew, if_true, if_false, ↓IntWalk.iteOmega, Qw10_0] at Q'
  clear Qw10_0
  have Qw10_0 := Q'
  clear Q'
  have qw2_0 := cell_of_block Qw2_0
  have qw4_0 := cell_of_block Qw4_0
  have qw4_1 := cell_of_block Qw4_1
  have qw6_0 := cell_of_block Qw6_0
  have qw6_1 := cell_of_block Qw6_1
  have qw6_2 := cell_of_block Qw6_2
  have qw8_1 := cell_of_block Qw8_1
  have qw10_0 := cell_of_block Qw10_0
  clear hb
  have hk13 : Below w11.heap.size w11 w13 := hk12.trans (hB.mono hk12.size)
  go_wp2_with fail
  refine (HDa.out _ hk13).mono ?_
  rintro e w14 hg
  obtain ⟨rfl, hb⟩ := hg.below
  clear hg
  have hz := hb.size
  (try simp only [World.size_alloc, World.size_setCell, World.size_drew, size_put] at hz)
  have hB : Below w13.heap.size w13 w14 := below_step (by (repeat' (first | (with_reducible exact Below.refl _ _) | (with_reducible exact Nat.le_refl _) | (with_reducible assumption) | (with_reducible refine below_step ?_ ?_ hr) | (with_reducible refine below_over ?_ ?_ _) | (with_reducible refine Below.alloc ?_ ?_ _) | (with_reducible refine Below.setCell ?_ ?_ _) | (with_reducible refine below_put ?_ ?_ _) | (with_reducible refine Below.drew ?_) | (with_reducible refine below_drewN_ ?_ _) | (with_reducible refine le_drewN ?_ _) | (with_reducible refine over_le _ _ _ ?_) | (with_reducible refine le_alloc ?_ _) | (with_reducible refine le_setCell ?_ _ _) | (with_reducible refine le_put ?_ _ _) | (with_reducible refine le_drew ?_) | dsimp only | omega | ((try simp only [World.size_alloc, World.size_setCell, World.size_drew, size_put]); omega) | (simp; done)))) (by (first | omega | ((try simp only [World.size_alloc, World.size_setCell, World.size_drew, size_put]); omega))) hb
  have Q' : w14.heap[w2.heap.size]? = _ := hb.block (w2.heap.size) (by (first | omega | ((try simp only [World.size_alloc, World.size_setCell, World.size_drew, size_put]); omega)))
  simp only [alloc_block_if, put_block_if, over_block_if, set_block_if, setObj_cells, drew_block, drewN_block, Option.map_some, List.setIfInBounds_toArray, List.set_cons_zero, List.set_cons_succ, World.size_alloc, World.size_setCell, size_put, World.size_drew, if_true, if_false, ↓IntWalk.iteOmega, Qw2_0] at Q'
  clear Qw2_0
  have Qw2_0 := Q'
  clear Q'
  have Q' : w14.heap[w4.heap.size]? = _ := hb.block (w4.heap.size) (by (first | omega | ((try simp only [World.size_alloc, World.size_setCell, World.size_drew, size_put]); omega)))
  simp only [alloc_block_if, put_block_if, over_block_if, set_block_if, setObj_cells, drew_block, drewN_block, Option.map_some, List.setIfInBounds_toArray, List.set_cons_zero, List.set_cons_succ, World.size_alloc, World.size_setCell, size_put, World.size_drew, if_true, if_false, ↓IntWalk.iteOmega, Qw4_0] at Q'
  clear Qw4_0
  have Qw4_0 := Q'
  clear Q'
  have Q' : w14.heap[w4.heap.size + 1]? = _ := hb.block (w4.heap.size + 1) (by (first | omega | ((try simp only [World.size_alloc, World.size_setCell, World.size_drew, size_put]); omega)))
  simp only [alloc_block_if, put_block_if, over_block_if, set_block_if, setObj_cells, drew_block, drewN_block, Option.map_some, List.setIfInBounds_toArray, List.set_cons_zero, List.set_cons_succ, World.size_alloc, World.size_setCell, size_put, World.size_drew, if_true, if_false, ↓IntWalk.iteOmega, Qw4_1] at Q'
  clear Qw4_1
  have Qw4_1 := Q'
  clear Q'
  have Q' : w14.heap[w6.heap.size]? = _ := hb.block (w6.heap.size) (by (first | omega | ((try simp only [World.size_alloc, World.size_setCell, World.size_drew, size_put]); omega)))
  simp only [alloc_block_if, put_block_if, over_block_if, set_block_if, setObj_cells, drew_block, drewN_block, Option.map_some, List.setIfInBounds_toArray, List.set_cons_zero, List.set_cons_succ, World.size_alloc, World.size_setCell, size_put, World.size_drew, if_true, if_false, ↓IntWalk.iteOmega, Qw6_0] at Q'
  clear Qw6_0
  have Qw6_0 := Q'
  clear Q'
  have Q' : w14.heap[w6.heap.size + 1]? = _ := hb.block (w6.heap.size + 1) (by (first | omega | ((try simp only [World.size_alloc, World.size_setCell, World.size_drew, size_put]); omega)))
  simp only [alloc_block_if, put_block_if, over_block_if, set_block_if, setObj_cells, drew_block, drewN_block, Option.map_some, List.setIfInBounds_toArray, List.set_cons_zero, List.set_cons_succ, World.size_alloc, World.size_setCell, size_put, World.size_drew, if_true, if_false, ↓IntWalk.iteOmega, Qw6_1] at Q'
  clear Qw6_1
  have Qw6_1 := Q'
  clear Q'
  have Q' : w14.heap[w6.heap.size + 1 + 1]? = _ := hb.block (w6.heap.size + 1 + 1) (by (first | omega | ((try simp only [World.size_alloc, World.size_setCell, World.size_drew, size_put]); omega)))
  simp only [alloc_block_if, put_block_if, over_block_if, set_block_if, setObj_cells, drew_block, drewN_block, Option.map_some, List.setIfInBounds_toArray, List.set_cons_zero, List.set_cons_succ, World.size_alloc, World.size_setCell, size_put, World.size_drew, if_true, if_false, ↓IntWalk.iteOmega, Qw6_2] at Q'
  clear Qw6_2
  have Qw6_2 := Q'
  clear Q'
  have Q' : w14.heap[w8.heap.size + 1]? = _ := hb.block (w8.heap.size + 1) (by (first | omega | ((try simp only [World.size_alloc, World.size_setCell, World.size_drew, size_put]); omega)))
  simp only [alloc_block_if, put_block_if, over_block_if, set_block_if, setObj_cells, drew_block, drewN_block, Option.map_some, List.setIfInBounds_toArray, List.set_cons_zero, List.set_cons_succ, World.size_alloc, World.size_setCell, size_put, World.size_drew, if_true, if_false, ↓IntWalk.iteOmega, Qw8_1] at Q'
  clear Qw8_1
  have Qw8_1 := Q'
  clear Q'
  have Q' : w14.heap[w10.heap.size]? = _ := hb.block (w10.heap.size) (by (first | omega | ((try simp only [World.size_alloc, World.size_setCell, World.size_drew, size_put]); omega)))
  simp only [alloc_block_if, put_block_if, over_block_if, set_block_if, setObj_cells, drew_block, drewN_block, Option.map_some, List.setIfInBounds_toArray, List.set_cons_zero, List.set_cons_succ, World.size_alloc, World.size_setCell, size_put, World.size_drew, if_true, if_false, ↓IntWalk.iteOmega, Qw10_0] at Q'
  clear Qw10_0
  have Qw10_0 := Q'
  clear Q'
  have qw2_0 := cell_of_block Qw2_0
  have qw4_0 := cell_of_block Qw4_0
  have qw4_1 := cell_of_block Qw4_1
  have qw6_0 := cell_of_block Qw6_0
  have qw6_1 := cell_of_block Qw6_1
  have qw6_2 := cell_of_block Qw6_2
  have qw8_1 := cell_of_block Qw8_1
  have qw10_0 := cell_of_block Qw10_0
  clear hb
  have hk14 : Below w11.heap.size w11 w14 := hk13.trans (hB.mono hk13.size)
  go_wp2_with fail
  refine (HDb.out _ hk14).mono ?_
  rintro e w15 hg
  obtain ⟨rfl, hb⟩ := hg.below
  clear hg
  have hz := hb.size
  (try simp only [World.size_alloc, World.size_setCell, World.size_drew, size_put] at hz)
  have hB : Below w14.heap.size w14 w15 := below_step (by (repeat' (first | (with_reducible exact Below.refl _ _) | (with_reducible exact Nat.le_refl _) | (with_reducible assumption) | (with_reducible refine below_step ?_ ?_ hr) | (with_reducible refine below_over ?_ ?_ _) | (with_reducible refine Below.alloc ?_ ?_ _) | (with_reducible refine Below.setCell ?_ ?_ _) | (with_reducible refine below_put ?_ ?_ _) | (with_reducible refine Below.drew ?_) | (with_reducible refine below_drewN_ ?_ _) | (with_reducible refine le_drewN ?_ _) | (with_reducible refine over_le _ _ _ ?_) | (with_reducible refine le_alloc ?_ _) | (with_reducible refine le_setCell ?_ _ _) | (with_reducible refine le_put ?_ _ _) | (with_reducible refine le_drew ?_) | dsimp only | omega | ((try simp only [World.size_alloc, World.size_setCell, World.size_drew, size_put]); omega) | (simp; done)))) (by (first | omega | ((try simp only [World.size_alloc, World.size_setCell, World.size_drew, size_put]); omega))) hb
  have Q' : w15.heap[w2.heap.size]? = _ := hb.block (w2.heap.size) (by (first | omega | ((try simp only [World.size_alloc, World.size_setCell, World.size_drew, size_put]); omega)))
  simp only [alloc_block_if, put_block_if, over_block_if, set_block_if, setObj_cells, drew_block, drewN_block, Option.map_some, List.setIfInBounds_toArray, List.set_cons_zero, List.set_cons_succ, World.size_alloc, World.size_setCell, size_put, World.size_drew, if_true, if_false, ↓IntWalk.iteOmega, Qw2_0] at Q'
  clear Qw2_0
  have Qw2_0 := Q'
  clear Q'
  have Q' : w15.heap[w4.heap.size]? = _ := hb.block (w4.heap.size) (by (first | omega | ((try simp only [World.size_alloc, World.size_setCell, World.size_drew, size_put]); omega)))
  simp only [alloc_block_if, put_block_if, over_block_if, set_block_if, setObj_cells, drew_block, drewN_block, Option.map_some, List.setIfInBounds_toArray, List.set_cons_zero, List.set_cons_succ, World.size_alloc, World.size_setCell, size_put, World.size_drew, if_true, if_false, ↓IntWalk.iteOmega, Qw4_0] at Q'
  clear Qw4_0
  have Qw4_0 := Q'
  clear Q'
  have Q' : w15.heap[w4.heap.size + 1]? = _ := hb.block (w4.heap.size + 1) (by (first | omega | ((try simp only [World.size_alloc, World.size_setCell, World.size_drew, size_put]); omega)))
  simp only [alloc_block_if, put_block_if, over_block_if, set_block_if, setObj_cells, drew_block, drewN_block, Option.map_some, List.setIfInBounds_toArray, List.set_cons_zero, List.set_cons_succ, World.size_alloc, World.size_setCell, size_put, World.size_drew, if_true, if_false, ↓IntWalk.iteOmega, Qw4_1] at Q'
  clear Qw4_1
  have Qw4_1 := Q'
  clear Q'
  have Q' : w15.heap[w6.heap.size]? = _ := hb.block (w6.heap.size) (by (first | omega | ((try simp only [World.size_alloc, World.size_setCell, World.size_drew, size_put]); omega)))
  simp only [alloc_block_if, put_block_if, over_block_if, set_block_if, setObj_cells, drew_block, drewN_block, Option.map_some, List.setIfInBounds_toArray, List.set_cons_zero, List.set_cons_succ, World.size_alloc, World.size_setCell, size_put, World.size_drew, if_true, if_false, ↓IntWalk.iteOmega, Qw6_0] at Q'
  clear Qw6_0
  have Qw6_0 := Q'
  clear Q'
  have Q' : w15.heap[w6.heap.size + 1]? = _ := hb.block (w6.heap.size + 1) (by (first | omega | ((try simp only [World.size_alloc, World.size_setCell, World.size_drew, size_put]); omega)))
  simp only [alloc_block_if, put_block_if, over_block_if, set_block_if, setObj_cells, drew_block, drewN_block, Option.map_some, List.setIfInBounds_toArray, List.set_cons_zero, List.set_cons_succ, World.size_alloc, World.size_setCell, size_put, World.size_drew, if_true, if_false, ↓IntWalk.iteOmega, Qw6_1] at Q'
  clear Qw6_1
  have Qw6_1 := Q'
  clear Q'
  have Q' : w15.heap[w6.heap.size + 1 + 1]? = _ := hb.block (w6.heap.size + 1 + 1) (by (first | omega | ((try simp only [World.size_alloc, World.size_setCell, World.size_drew, size_put]); omega)))
  simp only [alloc_block_if, put_block_if, over_block_if, set_block_if, setObj_cells, drew_block, drewN_block, Option.map_some, List.setIfInBounds_toArray, List.set_cons_zero, List.set_cons_succ, World.size_alloc, World.size_setCell, size_put, World.size_drew, if_true, if_false, ↓IntWalk.iteOmega, Qw6_2] at Q'
  clear Qw6_2
  have Qw6_2 := Q'
  clear Q'
  have Q' : w15.heap[w8.heap.size + 1]? = _ := hb.block (w8.heap.size + 1) (by (first | omega | ((try simp only [World.size_alloc, World.size_setCell, World.size_drew, size_put]); omega)))
  simp only [alloc_block_if, put_block_if, over_block_if, set_block_if, setObj_cells, drew_block, drewN_block, Option.map_some, List.setIfInBounds_toArray, List.set_cons_zero, List.set_cons_succ, World.size_alloc, World.size_setCell, size_put, World.size_drew, if_true, if_false, ↓IntWalk.iteOmega, Qw8_1] at Q'
  clear Qw8_1
  have Qw8_1 := Q'
  clear Q'
  have Q' : w15.heap[w10.heap.size]? = _ := hb.block (w10.heap.size) (by (first | omega | ((try simp only [World.size_alloc, World.size_setCell, World.size_drew, size_put]); omega)))
  simp only [alloc_block_if, put_block_if, over_block_if, set_block_if, setObj_cells, drew_block, drewN_block, Option.map_some, List.setIfInBounds_toArray, List.set_cons_zero, List.set_cons_succ, World.size_alloc, World.size_setCell, size_put, World.size_drew, if_true, if_false, ↓IntWalk.iteOmega, Qw10_0] at Q'
  clear Qw10_0
  have Qw10_0 := Q'
  clear Q'
  have qw2_0 := cell_of_block Qw2_0
  have qw4_0 := cell_of_block Qw4_0
  have qw4_1 := cell_of_block Qw4_1
  have qw6_0 := cell_of_block Qw6_0
  have qw6_1 := cell_of_block Qw6_1
  have qw6_2 := cell_of_block Qw6_2
  have qw8_1 := cell_of_block Qw8_1
  have qw10_0 := cell_of_block Qw10_0
  clear hb
  have hk15 : Below w11.heap.size w11 w15 := hk14.trans (hB.mono hk14.size)
  go_wp2_with fail
  refine (HDc.out _ hk15).mono ?_
  rintro e w16 hg
  obtain ⟨rfl, hb⟩ := hg.below
  clear hg
  have hz := hb.size
  (try simp only [World.size_alloc, World.size_setCell, World.size_drew, size_put] at hz)
  have hB : Below w15.heap.size w15 w16 := below_step (by (repeat' (first | (with_reducible exact Below.refl _ _) | (with_reducible exact Nat.le_refl _) | (with_reducible assumption) | (with_reducible refine below_step ?_ ?_ hr) | (with_reducible refine below_over ?_ ?_ _) | (with_reducible refine Below.alloc ?_ ?_ _) | (with_reducible refine Below.setCell ?_ ?_ _) | (with_reducible refine below_put ?_ ?_ _) | (with_reducible refine Below.drew ?_) | (with_reducible refine below_drewN_ ?_ _) | (with_reducible refine le_drewN ?_ _) | (with_reducible refine over_le _ _ _ ?_) | (with_reducible refine le_alloc ?_ _) | (with_reducible refine le_setCell ?_ _ _) | (with_reducible refine le_put ?_ _ _) | (with_reducible refine le_drew ?_) | dsimp only | omega | ((try simp only [World.size_alloc, World.size_setCell, World.size_drew, size_put]); omega) | (simp; done)))) (by (first | omega | ((try simp only [World.size_alloc, World.size_setCell, World.size_drew, size_put]); omega))) hb
  have Q' : w16.heap[w2.heap.size]? = _ := hb.block (w2.heap.size) (by (first | omega | ((try simp only [World.size_alloc, World.size_setCell, World.size_drew, size_put]); omega)))
  simp only [alloc_block_if, put_block_if, over_block_if, set_block_if, setObj_cells, drew_block, drewN_block, Option.map_some, List.setIfInBounds_toArray, List.set_cons_zero, List.set_cons_succ, World.size_alloc, World.size_setCell, size_put, World.size_drew, if_true, if_false, ↓IntWalk.iteOmega, Qw2_0] at Q'
  clear Qw2_0
  have Qw2_0 := Q'
  clear Q'
  have Q' : w16.heap[w4.heap.size]? = _ := hb.block (w4.heap.size) (by (first | omega | ((try simp only [World.size_alloc, World.size_setCell, World.size_drew, size_put]); omega)))
  simp only [alloc_block_if, put_block_if, over_block_if, set_block_if, setObj_cells, drew_block, drewN_block, Option.map_some, List.setIfInBounds_toArray, List.set_cons_zero, List.set_cons_succ, World.size_alloc, World.size_setCell, size_put, World.size_drew, if_true, if_false, ↓IntWalk.iteOmega, Qw4_0] at Q'
  clear Qw4_0
  have Qw4_0 := Q'
  clear Q'
  have Q' : w16.heap[w4.heap.size + 1]? = _ := hb.block (w4.heap.size + 1) (by (first | omega | ((try simp only [World.size_alloc, World.size_setCell, World.size_drew, size_put]); omega)))
  simp only [alloc_block_if, put_block_if, over_block_if, set_block_if, setObj_cells, drew_block, drewN_block, Option.map_some, List.setIfInBounds_toArray, List.set_cons_zero, List.set_cons_succ, World.size_alloc, World.size_setCell, size_put, World.size_drew, if_true, if_false, ↓IntWalk.iteOmega, Qw4_1] at Q'
  clear Qw4_1
  have Qw4_1 := Q'
  clear Q'
  have Q' : w16.heap[w6.heap.size]? = _ := hb.block (w6.heap.size) (by (first | omega | ((try simp only [World.size_alloc, World.size_setCell, World.size_drew, size_put]); omega)))
  simp only [alloc_block_if, put_block_if, over_block_if, set_block_if, setObj_cells, drew_block, drewN_block, Option.map_some, List.setIfInBounds_toArray, List.set_cons_zero, List.set_cons_succ, World.size_alloc, World.size_setCell, size_put, World.size_drew, if_true, if_false, ↓IntWalk.iteOmega, Qw6_0] at Q'
  clear Qw6_0
  have Qw6_0 := Q'
  clear Q'
  have Q' : w16.heap[w6.heap.size + 1]? = _ := hb.block (w6.heap.size + 1) (by (first | omega | ((try simp only [World.size_alloc, World.size_setCell, World.size_drew, size_put]); omega)))
  simp only [alloc_block_if, put_block_if, over_block_if, set_block_if, setObj_cells, drew_block, drewN_block, Option.map_some, List.setIfInBounds_toArray, List.set_cons_zero, List.set_cons_succ, World.size_alloc, World.size_setCell, size_put, World.size_drew, if_true, if_false, ↓IntWalk.iteOmega, Qw6_1] at Q'
  clear Qw6_1
  have Qw6_1 := Q'
  clear Q'
  have Q' : w16.heap[w6.heap.size + 1 + 1]? = _ := hb.block (w6.heap.size + 1 + 1) (by (first | omega | ((try simp only [World.size_alloc, World.size_setCell, World.size_drew, size_put]); omega)))
  simp only [alloc_block_if, put_block_if, over_block_if, set_block_if, setObj_cells, drew_block, drewN_block, Option.map_some, List.setIfInBounds_toArray, List.set_cons_zero, List.set_cons_succ, World.size_alloc, World.size_setCell, size_put, World.size_drew, if_true, if_false, ↓IntWalk.iteOmega, Qw6_2] at Q'
  clear Qw6_2
  have Qw6_2 := Q'
  clear Q'
  have Q' : w16.heap[w8.heap.size + 1]? = _ := hb.block (w8.heap.size + 1) (by (first | omega | ((try simp only [World.size_alloc, World.size_setCell, World.size_drew, size_put]); omega)))
  simp only [alloc_block_if, put_block_if, over_block_if, set_block_if, setObj_cells, drew_block, drewN_block, Option.map_some, List.setIfInBounds_toArray, List.set_cons_zero, List.set_cons_succ, World.size_alloc, World.size_setCell, size_put, World.size_drew, if_true, if_false, ↓IntWalk.iteOmega, Qw8_1] at Q'
  clear Qw8_1
  have Qw8_1 := Q'
  clear Q'
  have Q' : w16.heap[w10.heap.size]? = _ := hb.block (w10.heap.size) (by (first | omega | ((try simp only [World.size_alloc, World.size_setCell, World.size_drew, size_put]); omega)))
  simp only [alloc_block_if, put_block_if, over_block_if, set_block_if, setObj_cells, drew_block, drewN_block, Option.map_some, List.setIfInBounds_toArray, List.set_cons_zero, List.set_cons_succ, World.size_alloc, World.size_setCell, size_put, World.size_drew, if_true, if_false, ↓IntWalk.iteOmega, Qw10_0] at Q'
  clear Qw10_0
  have Qw10_0 := Q'
  clear Q'
  have qw2_0 := cell_of_block Qw2_0
  have qw4_0 := cell_of_block Qw4_0
  have qw4_1 := cell_of_block Qw4_1
  have qw6_0 := cell_of_block Qw6_0
  have qw6_1 := cell_of_block Qw6_1
  have qw6_2 := cell_of_block Qw6_2
  have qw8_1 := cell_of_block Qw8_1
  have qw10_0 := cell_of_block Qw10_0
  clear hb
  have hk16 : Below w11.heap.size w11 w16 := hk15.trans (hB.mono hk15.size)
  go_wp2_with fail
  refine (HDd.out _ hk16).mono ?_
  rintro e w17 hg
  obtain ⟨rfl, hb⟩ := hg.below
  clear hg
  have hz := hb.size
  (try simp only [World.size_alloc, World.size_setCell, World.size_drew, size_put] at hz)
  have hB : Below w16.heap.size w16 w17 := below_step (by (repeat' (first | (with_reducible exact Below.refl _ _) | (with_reducible exact Nat.le_refl _) | (with_reducible assumption) | (with_reducible refine below_step ?_ ?_ hr) | (with_reducible refine below_over ?_ ?_ _) | (with_reducible refine Below.alloc ?_ ?_ _) | (with_reducible refine Below.setCell ?_ ?_ _) | (with_reducible refine below_put ?_ ?_ _) | (with_reducible refine Below.drew ?_) | (with_reducible refine below_drewN_ ?_ _) | (with_reducible refine le_drewN ?_ _) | (with_reducible refine over_le _ _ _ ?_) | (with_reducible refine le_alloc ?_ _) | (with_reducible refine le_setCell ?_ _ _) | (with_reducible refine le_put ?_ _ _) | (with_reducible refine le_drew ?_) | dsimp only | omega | ((try simp only [World.size_alloc, World.size_setCell, World.size_drew, size_put]); omega) | (simp; done)))) (by (first | omega | ((try simp only [World.size_alloc, World.size_setCell, World.size_drew, size_put]); omega))) hb
  have Q' : w17.heap[w2.heap.size]? = _ := hb.block (w2.heap.size) (by (first | omega | ((try simp only [World.size_alloc, World.size_setCell, World.size_drew, size_put]); omega)))
  simp only [alloc_block_if, put_block_if, over_block_if, set_block_if, setObj_cells, drew_block, drewN_block, Option.map_some, List.setIfInBounds_toArray, List.set_cons_zero, List.set_cons_succ, World.size_alloc, World.size_setCell, size_put, World.size_drew, if_true, if_false, ↓IntWalk.iteOmega, Qw2_0] at Q'
  clear Qw2_0
  have Qw2_0 := Q'
  clear Q'
  have Q' : w17.heap[w4.heap.size]? = _ := hb.block (w4.heap.size) (by (first | omega | ((try simp only [World.size_alloc, World.size_setCell, World.size_drew, size_put]); omega)))
  simp only [alloc_block_if, put_block_if, over_block_if, set_block_if, setObj_cells, drew_block, drewN_block, Option.map_some, List.setIfInBounds_toArray, List.set_cons_zero, List.set_cons_succ, World.size_alloc, World.size_setCell, size_put, World.size_drew, if_true, if_false, ↓IntWalk.iteOmega, Qw4_0] at Q'
  clear Qw4_0
  have Qw4_0 := Q'
  clear Q'
  have Q' : w17.heap[w4.heap.size + 1]? = _ := hb.block (w4.heap.size + 1) (by (first | omega | ((try simp only [World.size_alloc, World.size_setCell, World.size_drew, size_put]); omega)))
  simp only [alloc_block_if, put_block_if, over_block_if, set_block_if, setObj_cells, drew_block, drewN_block, Option.map_some, List.setIfInBounds_toArray, List.set_cons_zero, List.set_cons_succ, World.size_alloc, World.size_setCell, size_put, World.size_drew, if_true, if_false, ↓IntWalk.iteOmega, Qw4_1] at Q'
  clear Qw4_1
  have Qw4_1 := Q'
  clear Q'
  have Q' : w17.heap[w6.heap.size]? = _ := hb.block (w6.heap.size) (by (first | omega | ((try simp only [World.size_alloc, World.size_setCell, World.size_drew, size_put]); omega)))
  simp only [alloc_block_if, put_block_if, over_block_if, set_block_if, setObj_cells, drew_block, drewN_block, Option.map_some, List.setIfInBounds_toArray, List.set_cons_zero, List.set_cons_succ, World.size_alloc, World.size_setCell, size_put, World.size_drew, if_true, if_false, ↓IntWalk.iteOmega, Qw6_0] at Q'
  clear Qw6_0
  have Qw6_0 := Q'
  clear Q'
  have Q' : w17.heap[w6.heap.size + 1]? = _ := hb.block (w6.heap.size + 1) (by (first | omega | ((try simp only [World.size_alloc, World.size_setCell, World.size_drew, size_put]); omega)))
  simp only [alloc_block_if, put_block_if, over_block_if, set_block_if, setObj_cells, drew_block, drewN_block, Option.map_some, List.setIfInBounds_toArray, List.set_cons_zero, List.set_cons_succ, World.size_alloc, World.size_setCell, size_put, World.size_drew, if_true, if_false, ↓IntWalk.iteOmega, Qw6_1] at Q'
  clear Qw6_1
  have Qw6_1 := Q'
  clear Q'
  have Q' : w17.heap[w6.heap.size + 1 + 1]? = _ := hb.block (w6.heap.size + 1 + 1) (by (first | omega | ((try simp only [World.size_alloc, World.size_setCell, World.size_drew, size_put]); omega)))
  simp only [alloc_block_if, put_block_if, over_block_if, set_block_if, setObj_cells, drew_block, drewN_block, Option.map_some, List.setIfInBounds_toArray, List.set_cons_zero, List.set_cons_succ, World.size_alloc, World.size_setCell, size_put, World.size_drew, if_true, if_false, ↓IntWalk.iteOmega, Qw6_2] at Q'
  clear Qw6_2
  have Qw6_2 := Q'
  clear Q'
  have Q' : w17.heap[w8.heap.size + 1]? = _ := hb.block (w8.heap.size + 1) (by (first | omega | ((try simp only [World.size_alloc, World.size_setCell, World.size_drew, size_put]); omega)))
  simp only [alloc_block_if, put_block_if, over_block_if, set_block_if, setObj_cells, drew_block, drewN_block, Option.map_some, List.setIfInBounds_toArray, List.set_cons_zero, List.set_cons_succ, World.size_alloc, World.size_setCell, size_put, World.size_drew, if_true, if_false, ↓IntWalk.iteOmega, Qw8_1] at Q'
  clear Qw8_1
  have Qw8_1 := Q'
  clear Q'
  have Q' : w17.heap[w10.heap.size]? = _ := hb.block (w10.heap.size) (by (first | omega | ((try simp only [World.size_alloc, World.size_setCell, World.size_drew, size_put]); omega)))
  simp only [alloc_block_if, put_block_if, over_block_if, set_block_if, setObj_cells, drew_block, drewN_block, Option.map_some, List.setIfInBounds_toArray, List.set_cons_zero, List.set_cons_succ, World.size_alloc, World.size_setCell, size_put, World.size_drew, if_true, if_false, ↓IntWalk.iteOmega, Qw10_0] at Q'
  clear Qw10_0
  have Qw10_0 := Q'
  clear Q'
  have qw2_0 := cell_of_block Qw2_0
  have qw4_0 := cell_of_block Qw4_0
  have qw4_1 := cell_of_block Qw4_1
  have qw6_0 := cell_of_block Qw6_0
  have qw6_1 := cell_of_block Qw6_1
  have qw6_2 := cell_of_block Qw6_2
  have qw8_1 := cell_of_block Qw8_1
  have qw10_0 := cell_of_block Qw10_0
  clear hb
  have hk17 : Below w11.heap.size w11 w17 := hk16.trans (hB.mono hk16.size)
  go_wp2_with fail
  refine (HDe.out _ hk17).mono ?_
  rintro e w18 hg
  obtain ⟨rfl, hb⟩ := hg.below
  clear hg
  have hz := hb.size
  (try simp only [World.size_alloc, World.size_setCell, World.size_drew, size_put] at hz)
  have hB : Below w17.heap.size w17 w18 := below_step (by (repeat' (first | (with_reducible exact Below.refl _ _) | (with_reducible exact Nat.le_refl _) | (with_reducible assumption) | (with_reducible refine below_step ?_ ?_ hr) | (with_reducible refine below_over ?_ ?_ _) | (with_reducible refine Below.alloc ?_ ?_ _) | (with_reducible refine Below.setCell ?_ ?_ _) | (with_reducible refine below_put ?_ ?_ _) | (with_reducible refine Below.drew ?_) | (with_reducible refine below_drewN_ ?_ _) | (with_reducible refine le_drewN ?_ _) | (with_reducible refine over_le _ _ _ ?_) | (with_reducible refine le_alloc ?_ _) | (with_reducible refine le_setCell ?_ _ _) | (with_reducible refine le_put ?_ _ _) | (with_reducible refine le_drew ?_) | dsimp only | omega | ((try simp only [World.size_alloc, World.size_setCell, World.size_drew, size_put]); omega) | (simp; done)))) (by (first | omega | ((try simp only [World.size_alloc, World.size_setCell, World.size_drew, size_put]); omega))) hb
  have Q' : w18.heap[w2.heap.size]? = _ := hb.block (w2.heap.size) (by (first | omega | ((try simp only [World.size_alloc, World.size_setCell, World.size_drew, size_put]); omega)))
  simp only [alloc_block_if, put_block_if, over_block_if, set_block_if, setObj_cells, drew_block, drewN_block, Option.map_some, List.setIfInBounds_toArray, List.set_cons_zero, List.set_cons_succ, World.size_alloc, World.size_setCell, size_put, World.size_drew, if_true, if_false, ↓IntWalk.iteOmega, Qw2_0] at Q'
  clear Qw2_0
  have Qw2_0 := Q'
  clear Q'
  have Q' : w18.heap[w4.heap.size]? = _ := hb.block (w4.heap.size) (by (first | omega | ((try simp only [World.size_alloc, World.size_setCell, World.size_drew, size_put]); omega)))
  simp only [alloc_block_if, put_block_if, over_block_if, set_block_if, setObj_cells, drew_block, drewN_block, Option.map_some, List.setIfInBounds_toArray, List.set_cons_zero, List.set_cons_succ, World.size_alloc, World.size_setCell, size_put, World.size_drew, if_true, if_false, ↓IntWalk.iteOmega, Qw4_0] at Q'
  clear Qw4_0
  have Qw4_0 := Q'
  clear Q'
  have Q' : w18.heap[w4.heap.size + 1]? = _ := hb.block (w4.heap.size + 1) (by (first | omega | ((try simp only [World.size_alloc, World.size_setCell, World.size_drew, size_put]); omega)))
  simp only [alloc_block_if, put_block_if, over_block_if, set_block_if, setObj_cells, drew_block, drewN_block, Option.map_some, List.setIfInBounds_toArray, List.set_cons_zero, List.set_cons_succ, World.size_alloc, World.size_setCell, size_put, World.size_drew, if_true, if_false, ↓IntWalk.iteOmega, Qw4_1] at Q'
  clear Qw4_1
  have Qw4_1 := Q'
  clear Q'
  have Q' : w18.heap[w6.heap.size]? = _ := hb.block (w6.heap.size) (by (first | omega | ((try simp only [World.size_alloc, World.size_setCell, World.size_drew, size_put]); omega)))
  simp only [alloc_block_if, put_block_if, over_block_if, set_block_if, setObj_cells, drew_block, drewN_block, Option.map_some, List.setIfInBounds_toArray, List.set_cons_zero, List.set_cons_succ, World.size_alloc, World.size_setCell, size_put, World.size_drew, if_true, if_false, ↓IntWalk.iteOmega, Qw6_0] at Q'
  clear Qw6_0
  have Qw6_0 := Q'
  clear Q'
  have Q' : w18.heap[w6.heap.size + 1]? = _ := hb.block (w6.heap.size + 1) (by (first | omega | ((try simp only [World.size_alloc, World.size_setCell, World.size_drew, size_put]); omega)))
  simp only [alloc_block_if, put_block_if, over_block_if, set_block_if, setObj_cells, drew_block, drewN_block, Option.map_some, List.setIfInBounds_toArray, List.set_cons_zero, List.set_cons_succ, World.size_alloc, World.size_setCell, size_put, World.size_drew, if_true, if_false, ↓IntWalk.iteOmega, Qw6_1] at Q'
  clear Qw6_1
  have Qw6_1 := Q'
  clear Q'
  have Q' : w18.heap[w6.heap.size + 1 + 1]? = _ := hb.block (w6.heap.size + 1 + 1) (by (first | omega | ((try simp only [World.size_alloc, World.size_setCell, World.size_drew, size_put]); omega)))
  simp only [alloc_block_if, put_block_if, over_block_if, set_block_if, setObj_cells, drew_block, drewN_block, Option.map_some, List.setIfInBounds_toArray, List.set_cons_zero, List.set_cons_succ, World.size_alloc, World.size_setCell, size_put, World.size_drew, if_true, if_false, ↓IntWalk.iteOmega, Qw6_2] at Q'
  clear Qw6_2
  have Qw6_2 := Q'
  clear Q'
  have Q' : w18.heap[w8.heap.size + 1]? = _ := hb.block (w8.heap.size + 1) (by (first | omega | ((try simp only [World.size_alloc, World.size_setCell, World.size_drew, size_put]); omega)))
  simp only [alloc_block_if, put_block_if, over_block_if, set_block_if, setObj_cells, drew_block, drewN_block, Option.map_some, List.setIfInBounds_toArray, List.set_cons_zero, List.set_cons_succ, World.size_alloc, World.size_setCell, size_put, World.size_drew, if_true, if_false, ↓IntWalk.iteOmega, Qw8_1] at Q'
  clear Qw8_1
  have Qw8_1 := Q'
  clear Q'
  have Q' : w18.heap[w10.heap.size]? = _ := hb.block (w10.heap.size) (by (first | omega | ((try simp only [World.size_alloc, World.size_setCell, World.size_drew, size_put]); omega)))
  simp only [alloc_block_if, put_block_if, over_block_if, set_block_if, setObj_cells, drew_block, drewN_block, Option.map_some, List.setIfInBounds_toArray, List.set_cons_zero, List.set_cons_succ, World.size_alloc, World.size_setCell, size_put, World.size_drew, if_true, if_false, ↓IntWalk.iteOmega, Qw10_0] at Q'
  clear Qw10_0
  have Qw10_0 := Q'
  clear Q'
  have qw2_0 := cell_of_block Qw2_0
  have qw4_0 := cell_of_block Qw4_0
  have qw4_1 := cell_of_block Qw4_1
  have qw6_0 := cell_of_block Qw6_0
  have qw6_1 := cell_of_block Qw6_1
  have qw6_2 := cell_of_block Qw6_2
  have qw8_1 := cell_of_block Qw8_1
  have qw10_0 := cell_of_block Qw10_0
  clear hb
  have hk18 : Below w11.heap.size w11 w18 := hk17.trans (hB.mono hk17.size)
  go_wp2_with fail
  refine (HDf.out _ hk18).mono ?_
  rintro e w19 hg
  obtain ⟨rfl, hb⟩ := hg.below
  clear hg
  have hz := hb.size
  (try simp only [World.size_alloc, World.size_setCell, World.size_drew, size_put] at hz)
  have hB : Below w18.heap.size w18 w19 := below_step (by (repeat' (first | (with_reducible exact Below.refl _ _) | (with_reducible exact Nat.le_refl _) | (with_reducible assumption) | (with_reducible refine below_step ?_ ?_ hr) | (with_reducible refine below_over ?_ ?_ _) | (with_reducible refine Below.alloc ?_ ?_ _) | (with_reducible refine Below.setCell ?_ ?_ _) | (with_reducible refine below_put ?_ ?_ _) | (with_reducible refine Below.drew ?_) | (with_reducible refine below_drewN_ ?_ _) | (with_reducible refine le_drewN ?_ _) | (with_reducible refine over_le _ _ _ ?_) | (with_reducible refine le_alloc ?_ _) | (with_reducible refine le_setCell ?_ _ _) | (with_reducible refine le_put ?_ _ _) | (with_reducible refine le_drew ?_) | dsimp only | omega | ((try simp only [World.size_alloc, World.size_setCell, World.size_drew, size_put]); omega) | (simp; done)))) (by (first | omega | ((try simp only [World.size_alloc, World.size_setCell, World.size_drew, size_put]); omega))) hb
  have Q' : w19.heap[w2.heap.size]? = _ := hb.block (w2.heap.size) (by (first | omega | ((try simp only [World.size_alloc, World.size_setCell, World.size_drew, size_put]); omega)))
  simp only [alloc_block_if, put_block_if, over_block_if, set_block_if, setObj_cells, drew_block, drewN_block, Option.map_some, List.setIfInBounds_toArray, List.set_cons_zero, List.set_cons_succ, World.size_alloc, World.size_setCell, size_put, World.size_drew, if_true, if_false, ↓IntWalk.iteOmega, Qw2_0] at Q'
  clear Qw2_0
  have Qw2_0 := Q'
  clear Q'
  have Q' : w19.heap[w4.heap.size]? = _ := hb.block (w4.heap.size) (by (first | omega | ((try simp only [World.size_alloc, World.size_setCell, World.size_drew, size_put]); omega)))
  simp only [alloc_block_if, put_block_if, over_block_if, set_block_if, setObj_cells, drew_block, drewN_block, Option.map_some, List.setIfInBounds_toArray, List.set_cons_zero, List.set_cons_succ, World.size_alloc, World.size_setCell, size_put, World.size_drew, if_true, if_false, ↓IntWalk.iteOmega, Qw4_0] at Q'
  clear Qw4_0
  have Qw4_0 := Q'
  clear Q'
  have Q' : w19.heap[w4.heap.size + 1]? = _ := hb.block (w4.heap.size + 1) (by (first | omega | ((try simp only [World.size_alloc, World.size_setCell, World.size_drew, size_put]); omega)))
  simp only [alloc_block_if, put_block_if, over_block_if, set_block_if, setObj_cells, drew_block, drewN_block, Option.map_some, List.setIfInBounds_toArray, List.set_cons_zero, List.set_cons_succ, World.size_alloc, World.size_setCell, size_put, World.size_drew, if_true, if_false, ↓IntWalk.iteOmega, Qw4_1] at Q'
  clear Qw4_1
  have Qw4_1 := Q'
  clear Q'
  have Q' : w19.heap[w6.heap.size]? = _ := hb.block (w6.heap.size) (by (first | omega | ((try simp only [World.size_alloc, World.size_setCell, World.size_drew, size_put]); omega)))
  simp only [alloc_block_if, put_block_if, over_block_if, set_block_if, setObj_cells, drew_block, drewN_block, Option.map_some, List.setIfInBounds_toArray, List.set_cons_zero, List.set_cons_succ, World.size_alloc, World.size_setCell, size_put, World.size_drew, if_true, if_false, ↓IntWalk.iteOmega, Qw6_0] at Q'
  clear Qw6_0
  have Qw6_0 := Q'
  clear Q'
  have Q' : w19.heap[w6.heap.size + 1]? = _ := hb.block (w6.heap.size + 1) (by (first | omega | ((try simp only [World.size_alloc, World.size_setCell, World.size_drew, size_put]); omega)))
  simp only [alloc_block_if, put_block_if, over_block_if, set_block_if, setObj_cells, drew_block, drewN_block, Option.map_some, List.setIfInBounds_toArray, List.set_cons_zero, List.set_cons_succ, World.size_alloc, World.size_setCell, size_put, World.size_drew, if_true, if_false, ↓IntWalk.iteOmega, Qw6_1] at Q'
  clear Qw6_1
  have Qw6_1 := Q'
  clear Q'
  have Q' : w19.heap[w6.heap.size + 1 + 1]? = _ := hb.block (w6.heap.size + 1 + 1) (by (first | omega | ((try simp only [World.size_alloc, World.size_setCell, World.size_drew, size_put]); omega)))
  simp only [alloc_block_if, put_block_if, over_block_if, set_block_if, setObj_cells, drew_block, drewN_block, Option.map_some, List.setIfInBounds_toArray, List.set_cons_zero, List.set_cons_succ, World.size_alloc, World.size_setCell, size_put, World.size_drew, if_true, if_false, ↓IntWalk.iteOmega, Qw6_2] at Q'
  clear Qw6_2
  have Qw6_2 := Q'
  clear Q'
  have Q' : w19.heap[w8.heap.size + 1]? = _ := hb.block (w8.heap.size + 1) (by (first | omega | ((try simp only [World.size_alloc, World.size_setCell, World.size_drew, size_put]); omega)))
  simp only [alloc_block_if, put_block_if, over_block_if, set_block_if, setObj_cells, drew_block, drewN_block, Option.map_some, List.setIfInBounds_toArray, List.set_cons_zero, List.set_cons_succ, World.size_alloc, World.size_setCell, size_put, World.size_drew, if_true, if_false, ↓IntWalk.iteOmega, Qw8_1] at Q'
  clear Qw8_1
  have Qw8_1 := Q'
  clear Q'
  have Q' : w19.heap[w10.heap.size]? = _ := hb.block (w10.heap.size) (by (first | omega | ((try simp only [World.size_alloc, World.size_setCell, World.size_drew, size_put]); omega)))
  simp only [alloc_block_if, put_block_if, over_block_if, set_block_if, setObj_cells, drew_block, drewN_block, Option.map_some, List.setIfInBounds_toArray, List.set_cons_zero, List.set_cons_succ, World.size_alloc, World.size_setCell, size_put, World.size_drew, if_true, if_false, ↓IntWalk.iteOmega, Qw10_0] at Q'
  clear Qw10_0
  have Qw10_0 := Q'
  clear Q'
  have qw2_0 := cell_of_block Qw2_0
  have qw4_0 := cell_of_block Qw4_0
  have qw4_1 := cell_of_block Qw4_1
  have qw6_0 := cell_of_block Qw6_0
  have qw6_1 := cell_of_block Qw6_1
  have qw6_2 := cell_of_block Qw6_2
  have qw8_1 := cell_of_block Qw8_1
  have qw10_0 := cell_of_block Qw10_0
  clear hb
  have hk19 : Below w11.heap.size w11 w19 := hk18.trans (hB.mono hk18.size)
  go_wp2_with fail
  refine (HDg.out _ hk19).mono ?_
  rintro e w20 hg
  obtain ⟨rfl, hb⟩ := hg.below
  clear hg
  have hz := hb.size
  (try simp only [World.size_alloc, World.size_setCell, World.size_drew, size_put] at hz)
  have hB : Below w19.heap.size w19 w20 := below_step (by (repeat' (first | (with_reducible exact Below.refl _ _) | (with_reducible exact Nat.le_refl _) | (with_reducible assumption) | (with_reducible refine below_step ?_ ?_ hr) | (with_reducible refine below_over ?_ ?_ _) | (with_reducible refine Below.alloc ?_ ?_ _) | (with_reducible refine Below.setCell ?_ ?_ _) | (with_reducible refine below_put ?_ ?_ _) | (with_reducible refine Below.drew ?_) | (with_reducible refine below_drewN_ ?_ _) | (with_reducible refine le_drewN ?_ _) | (with_reducible refine over_le _ _ _ ?_) | (with_reducible refine le_alloc ?_ _) | (with_reducible refine le_setCell ?_ _ _) | (with_reducible refine le_put ?_ _ _) | (with_reducible refine le_drew ?_) | dsimp only | omega | ((try simp only [World.size_alloc, World.size_setCell, World.size_drew, size_put]); omega) | (simp; done)))) (by (first | omega | ((try simp only [World.size_alloc, World.size_setCell, World.size_drew, size_put]); omega))) hb
  have Q' : w20.heap[w2.heap.size]? = _ := hb.block (w2.heap.size) (by (first | omega | ((try simp only [World.size_alloc, World.size_setCell, World.size_drew, size_put]); omega)))
  simp only [alloc_block_if, put_block_if, over_block_if, set_block_if, setObj_cells, drew_block, drewN_block, Option.map_some, List.setIfInBounds_toArray, List.set_cons_zero, List.set_cons_succ, World.size_alloc, World.size_setCell, size_put, World.size_drew, if_true, if_false, ↓IntWalk.iteOmega, Qw2_0] at Q'
  clear Qw2_0
  have Qw2_0 := Q'
  clear Q'
  have Q' : w20.heap[w4.heap.size]? = _ := hb.block (w4.heap.size) (by (first | omega | ((try simp only [World.size_alloc, World.size_setCell, World.size_drew, size_put]); omega)))
  simp only [alloc_block_if, put_block_if, over_block_if, set_block_if, setObj_cells, drew_block, drewN_block, Option.map_some, List.setIfInBounds_toArray, List.set_cons_zero, List.set_cons_succ, World.size_alloc, World.size_setCell, size_put, World.size_drew, if_true, if_false, ↓IntWalk.iteOmega, Qw4_0] at Q'
  clear Qw4_0
  have Qw4_0 := Q'
  clear Q'
  have Q' : w20.heap[w4.heap.size + 1]? = _ := hb.block (w4.heap.size + 1) (by (first | omega | ((try simp only [World.size_alloc, World.size_setCell, World.size_drew, size_put]); omega)))
  simp only [alloc_block_if, put_block_if, over_block_if, set_block_if, setObj_cells, drew_block, drewN_block, Option.map_some, List.setIfInBounds_toArray, List.set_cons_zero, List.set_cons_succ, World.size_alloc, World.size_setCell, size_put, World.size_drew, if_true, if_false, ↓IntWalk.iteOmega, Qw4_1] at Q'
  clear Qw4_1
  have Qw4_1 := Q'
  clear Q'
  have Q' : w20.heap[w6.heap.size]? = _ := hb.block (w6.heap.size) (by (first | omega | ((try simp only [World.size_alloc, World.size_setCell, World.size_drew, size_put]); omega)))
  simp only [alloc_block_if, put_block_if, over_block_if, set_block_if, setObj_cells, drew_block, drewN_block, Option.map_some, List.setIfInBounds_toArray, List.set_cons_zero, List.set_cons_succ, World.size_alloc, World.size_setCell, size_put, World.size_drew, if_true, if_false, ↓IntWalk.iteOmega, Qw6_0] at Q'
  clear Qw6_0
  have Qw6_0 := Q'
  clear Q'
  have Q' : w20.heap[w6.heap.size + 1]? = _ := hb.block (w6.heap.size + 1) (by (first | omega | ((try simp only [World.size_alloc, World.size_setCell, World.size_drew, size_put]); omega)))
  simp only [alloc_block_if, put_block_if, over_block_if, set_block_if, setObj_cells, drew_block, drewN_block, Option.map_some, List.setIfInBounds_toArray, List.set_cons_zero, List.set_cons_succ, World.size_alloc, World.size_setCell, size_put, World.size_drew, if_true, if_false, ↓IntWalk.iteOmega, Qw6_1] at Q'
  clear Qw6_1
  have Qw6_1 := Q'
  clear Q'
  have Q' : w20.heap[w6.heap.size + 1 + 1]? = _ := hb.block (w6.heap.size + 1 + 1) (by (first | omega | ((try simp only [World.size_alloc, World.size_setCell, World.size_drew, size_put]); omega)))
  simp only [alloc_block_if, put_block_if, over_block_if, set_block_if, setObj_cells, drew_block, drewN_block, Option.map_some, List.setIfInBounds_toArray, List.set_cons_zero, List.set_cons_succ, World.size_alloc, World.size_setCell, size_put, World.size_drew, if_true, if_false, ↓IntWalk.iteOmega, Qw6_2] at Q'
  clear Qw6_2
  have Qw6_2 := Q'
  clear Q'
  have Q' : w20.heap[w8.heap.size + 1]? = _ := hb.block (w8.heap.size + 1) (by (first | omega | ((try simp only [World.size_alloc, World.size_setCell, World.size_drew, size_put]); omega)))
  simp only [alloc_block_if, put_block_if, over_block_if, set_block_if, setObj_cells, drew_block, drewN_block, Option.map_some, List.setIfInBounds_toArray, List.set_cons_zero, List.set_cons_succ, World.size_alloc, World.size_setCell, size_put, World.size_drew, if_true, if_false, ↓IntWalk.iteOmega, Qw8_1] at Q'
  clear Qw8_1
  have Qw8_1 := Q'
  clear Q'
  have Q' : w20.heap[w10.heap.size]? = _ := hb.block (w10.heap.size) (by (first | omega | ((try simp only [World.size_alloc, World.size_setCell, World.size_drew, size_put]); omega)))
  simp only [alloc_block_if, put_block_if, over_block_if, set_block_if, setObj_cells, drew_block, drewN_block, Option.map_some, List.setIfInBounds_toArray, List.set_cons_zero, List.set_cons_succ, World.size_alloc, World.size_setCell, size_put, World.size_drew, if_true, if_false, ↓IntWalk.iteOmega, Qw10_0] at Q'
  clear Qw10_0
  have Qw10_0 := Q'
  clear Q'
  have qw2_0 := cell_of_block Qw2_0
  have qw4_0 := cell_of_block Qw4_0
  have qw4_1 := cell_of_block Qw4_1
  have qw6_0 := cell_of_block Qw6_0
  have qw6_1 := cell_of_block Qw6_1
  have qw6_2 := cell_of_block Qw6_2
  have qw8_1 := cell_of_block Qw8_1
  have qw10_0 := cell_of_block Qw10_0
  clear hb
  have hk20 : Below w11.heap.size w11 w20 := hk19.trans (hB.mono hk19.size)
  go_wp2_with fail
  refine (HDh.out _ hk20).mono ?_
  rintro e w21 hg
  obtain ⟨rfl, hb⟩ := hg.below
  clear hg
  have hz := hb.size
  (try simp only [World.size_alloc, World.size_setCell, World.size_drew, size_put] at hz)
  have hB : Below w20.heap.size w20 w21 := below_step (by (repeat' (first | (with_reducible exact Below.refl _ _) | (with_reducible exact Nat.le_refl _) | (with_reducible assumption) | (with_reducible refine below_step ?_ ?_ hr) | (with_reducible refine below_over ?_ ?_ _) | (with_reducible refine Below.alloc ?_ ?_ _) | (with_reducible refine Below.setCell ?_ ?_ _) | (with_reducible refine below_put ?_ ?_ _) | (with_reducible refine Below.drew ?_) | (with_reducible refine below_drewN_ ?_ _) | (with_reducible refine le_drewN ?_ _) | (with_reducible refine over_le _ _ _ ?_) | (with_reducible refine le_alloc ?_ _) | (with_reducible refine le_setCell ?_ _ _) | (with_reducible refine le_put ?_ _ _) | (with_reducible refine le_drew ?_) | dsimp only | omega | ((try simp only [World.size_alloc, World.size_setCell, World.size_drew, size_put]); omega) | (simp; done)))) (by (first | omega | ((try simp only [World.size_alloc, World.size_setCell, World.size_drew, size_put]); omega))) hb
  have Q' : w21.heap[w2.heap.size]? = _ := hb.block (w2.heap.size) (by (first | omega | ((try simp only [World.size_alloc, World.size_setCell, World.size_drew, size_put]); omega)))
  simp only [alloc_block_if, put_block_if, over_block_if, set_block_if, setObj_cells, drew_block, drewN_block, Option.map_some, List.setIfInBounds_toArray, List.set_cons_zero, List.set_cons_succ, World.size_alloc, World.size_setCell, size_put, World.size_drew, if_true, if_false, ↓IntWalk.iteOmega, Qw2_0] at Q'
  clear Qw2_0
  have Qw2_0 := Q'
  clear Q'
  have Q' : w21.heap[w4.heap.size]? = _ := hb.block (w4.heap.size) (by (first | omega | ((try simp only [World.size_alloc, World.size_setCell, World.size_drew, size_put]); omega)))
  simp only [alloc_block_if, put_block_if, over_block_if, set_block_if, setObj_cells, drew_block, drewN_block, Option.map_some, List.setIfInBounds_toArray, List.set_cons_zero, List.set_cons_succ, World.size_alloc, World.size_setCell, size_put, World.size_drew, if_true, if_false, ↓IntWalk.iteOmega, Qw4_0] at Q'
  clear Qw4_0
  have Qw4_0 := Q'
  clear Q'
  have Q' : w21.heap[w4.heap.size + 1]? = _ := hb.block (w4.heap.size + 1) (by (first | omega | ((try simp only [World.size_alloc, World.size_setCell, World.size_drew, size_put]); omega)))
  simp only [alloc_block_if, put_block_if, over_block_if, set_block_if, setObj_cells, drew_block, drewN_block, Option.map_some, List.setIfInBounds_toArray, List.set_cons_zero, List.set_cons_succ, World.size_alloc, World.size_setCell, size_put, World.size_drew, if_true, if_false, ↓IntWalk.iteOmega, Qw4_1] at Q'
  clear Qw4_1
  have Qw4_1 := Q'
  clear Q'
  have Q' : w21.heap[w6.heap.size]? = _ := hb.block (w6.heap.size) (by (first | omega | ((try simp only [World.size_alloc, World.size_setCell, World.size_drew, size_put]); omega)))
  simp only [alloc_block_if, put_block_if, over_block_if, set_block_if, setObj_cells, drew_block, drewN_block, Option.map_some, List.setIfInBounds_toArray, List.set_cons_zero, List.set_cons_succ, World.size_alloc, World.size_setCell, size_put, World.size_drew, if_true, if_false, ↓IntWalk.iteOmega, Qw6_0] at Q'
  clear Qw6_0
  have Qw6_0 := Q'
  clear Q'
  have Q' : w21.heap[w6.heap.size + 1]? = _ := hb.block (w6.heap.size + 1) (by (first | omega | ((try simp only [World.size_alloc, World.size_setCell, World.size_drew, size_put]); omega)))
  simp only [alloc_block_if, put_block_if, over_block_if, set_block_if, setObj_cells, drew_block, drewN_block, Option.map_some, List.setIfInBounds_toArray, List.set_cons_zero, List.set_cons_succ, World.size_alloc, World.size_setCell, size_put, World.size_drew, if_true, if_false, ↓IntWalk.iteOmega, Qw6_1] at Q'
  clear Qw6_1
  have Qw6_1 := Q'
  clear Q'
  have Q' : w21.heap[w6.heap.size + 1 + 1]? = _ := hb.block (w6.heap.size + 1 + 1) (by (first | omega | ((try simp only [World.size_alloc, World.size_setCell, World.size_drew, size_put]); omega)))
  simp only [alloc_block_if, put_block_if, over_block_if, set_block_if, setObj_cells, drew_block, drewN_block, Option.map_some, List.setIfInBounds_toArray, List.set_cons_zero, List.set_cons_succ, World.size_alloc, World.size_setCell, size_put, World.size_drew, if_true, if_false, ↓IntWalk.iteOmega, Qw6_2] at Q'
  clear Qw6_2
  have Qw6_2 := Q'
  clear Q'
  have Q' : w21.heap[w8.heap.size + 1]? = _ := hb.block (w8.heap.size + 1) (by (first | omega | ((try simp only [World.size_alloc, World.size_setCell, World.size_drew, size_put]); omega)))
  simp only [alloc_block_if, put_block_if, over_block_if, set_block_if, setObj_cells, drew_block, drewN_block, Option.map_some, List.setIfInBounds_toArray, List.set_cons_zero, List.set_cons_succ, World.size_alloc, World.size_setCell, size_put, World.size_drew, if_true, if_false, ↓IntWalk.iteOmega, Qw8_1] at Q'
  clear Qw8_1
  have Qw8_1 := Q'
  clear Q'
  have Q' : w21.heap[w10.heap.size]? = _ := hb.block (w10.heap.size) (by (first | omega | ((try simp only [World.size_alloc, World.size_setCell, World.size_drew, size_put]); omega)))
  simp only [alloc_block_if, put_block_if, over_block_if, set_block_if, setObj_cells, drew_block, drewN_block, Option.map_some, List.setIfInBounds_toArray, List.set_cons_zero, List.set_cons_succ, World.size_alloc, World.size_setCell, size_put, World.size_drew, if_true, if_false, ↓IntWalk.iteOmega, Qw10_0] at Q'
  clear Qw10_0
  have Qw10_0 := Q'
  clear Q'
  have qw2_0 := cell_of_block Qw2_0
  have qw4_0 := cell_of_block Qw4_0
  have qw4_1 := cell_of_block Qw4_1
  have qw6_0 := cell_of_block Qw6_0
  have qw6_1 := cell_of_block Qw6_1
  have qw6_2 := cell_of_block Qw6_2
  have qw8_1 := cell_of_block Qw8_1
  have qw10_0 := cell_of_block Qw10_0
  clear hb
  have hk21 : Below w11.heap.size w11 w21 := hk20.trans (hB.mono hk20.size)
  go_wp2_with fail
  refine (HDi.out _ hk21).mono ?_
  rintro e w22 hg
  obtain ⟨rfl, hb⟩ := hg.below
  clear hg
  have hz := hb.size
  (try simp only [World.size_alloc, World.size_setCell, World.size_drew, size_put] at hz)
  have hB : Below w21.heap.size w21 w22 := below_step (by (repeat' (first | (with_reducible exact Below.refl _ _) | (with_reducible exact Nat.le_refl _) | (with_reducible assumption) | (with_reducible refine below_step ?_ ?_ hr) | (with_reducible refine below_over ?_ ?_ _) | (with_reducible refine Below.alloc ?_ ?_ _) | (with_reducible refine Below.setCell ?_ ?_ _) | (with_reducible refine below_put ?_ ?_ _) | (with_reducible refine Below.drew ?_) | (with_reducible refine below_drewN_ ?_ _) | (with_reducible refine le_drewN ?_ _) | (with_reducible refine over_le _ _ _ ?_) | (with_reducible refine le_alloc ?_ _) | (with_reducible refine le_setCell ?_ _ _) | (with_reducible refine le_put ?_ _ _) | (with_reducible refine le_drew ?_) | dsimp only | omega | ((try simp only [World.size_alloc, World.size_setCell, World.size_drew, size_put]); omega) | (simp; done)))) (by (first | omega | ((try simp only [World.size_alloc, World.size_setCell, World.size_drew, size_put]); omega))) hb
  have Q' : w22.heap[w2.heap.size]? = _ := hb.block (w2.heap.size) (by (first | omega | ((try simp only [World.size_alloc, World.size_setCell, World.size_drew, size_put]); omega)))
  simp only [alloc_block_if, put_block_if, over_block_if, set_block_if, setObj_cells, drew_block, drewN_block, Option.map_some, List.setIfInBounds_toArray, List.set_cons_zero, List.set_cons_succ, World.size_alloc, World.size_setCell, size_put, World.size_drew, if_true, if_false, ↓IntWalk.iteOmega, Qw2_0] at Q'
  clear Qw2_0
  have Qw2_0 := Q'
  clear Q'
  have Q' : w22.heap[w4.heap.size]? = _ := hb.block (w4.heap.size) (by (first | omega | ((try simp only [World.size_alloc, World.size_setCell, World.size_drew, size_put]); omega)))
  simp only [alloc_block_if, put_block_if, over_block_if, set_block_if, setObj_cells, drew_block, drewN_block, Option.map_some, List.setIfInBounds_toArray, List.set_cons_zero, List.set_cons_succ, World.size_alloc, World.size_setCell, size_put, World.size_drew, if_true, if_false, ↓IntWalk.iteOmega, Qw4_0] at Q'
  clear Qw4_0
  have Qw4_0 := Q'
  clear Q'
  have Q' : w22.heap[w4.heap.size + 1]? = _ := hb.block (w4.heap.size + 1) (by (first | omega | ((try simp only [World.size_alloc, World.size_setCell, World.size_drew, size_put]); omega)))
  simp only [alloc_block_if, put_block_if, over_block_if, set_block_if, setObj_cells, drew_block, drewN_block, Option.map_some, List.setIfInBounds_toArray, List.set_cons_zero, List.set_cons_succ, World.size_alloc, World.size_setCell, size_put, World.size_drew, if_true, if_false, ↓IntWalk.iteOmega, Qw4_1] at Q'
  clear Qw4_1
  have Qw4_1 := Q'
  clear Q'
  have Q' : w22.heap[w6.heap.size]? = _ := hb.block (w6.heap.size) (by (first | omega | ((try simp only [World.size_alloc, World.size_setCell, World.size_drew, size_put]); omega)))
  simp only [alloc_block_if, put_block_if, over_block_if, set_block_if, setObj_cells, drew_block, drewN_block, Option.map_some, List.setIfInBounds_toArray, List.set_cons_zero, List.set_cons_succ, World.size_alloc, World.size_setCell, size_put, World.size_drew, if_true, if_false, ↓IntWalk.iteOmega, Qw6_0] at Q'
  clear Qw6_0
  have Qw6_0 := Q'
  clear Q'
  have Q' : w22.heap[w6.heap.size + 1]? = _ := hb.block (w6.heap.size + 1) (by (first | omega | ((try simp only [World.size_alloc, World.size_setCell, World.size_drew, size_put]); omega)))
  simp only [alloc_block_if, put_block_if, over_block_if, set_block_if, setObj_cells, drew_block, drewN_block, Option.map_some, List.setIfInBounds_toArray, List.set_cons_zero, List.set_cons_succ, World.size_alloc, World.size_setCell, size_put, World.size_drew, if_true, if_false, ↓IntWalk.iteOmega, Qw6_1] at Q'
  clear Qw6_1
  have Qw6_1 := Q'
  clear Q'
  have Q' : w22.heap[w6.heap.size + 1 + 1]? = _ := hb.block (w6.heap.size + 1 + 1) (by (first | omega | ((try simp only [World.size_alloc, World.size_setCell, World.size_drew, size_put]); omega)))
  simp only [alloc_block_if, put_block_if, over_block_if, set_block_if, setObj_cells, drew_block, drewN_block, Option.map_some, List.setIfInBounds_toArray, List.set_cons_zero, List.set_cons_succ, World.size_alloc, World.size_setCell, size_put, World.size_drew, if_true, if_false, ↓IntWalk.iteOmega, Qw6_2] at Q'
  clear Qw6_2
  have Qw6_2 := Q'
  clear Q'
  have Q' : w22.heap[w8.heap.size + 1]? = _ := hb.block (w8.heap.size + 1) (by (first | omega | ((try simp only [World.size_alloc, World.size_setCell, World.size_drew, size_put]); omega)))
  simp only [alloc_block_if, put_block_if, over_block_if, set_block_if, setObj_cells, drew_block, drewN_block, Option.map_some, List.setIfInBounds_toArray, List.set_cons_zero, List.set_cons_succ, World.size_alloc, World.size_setCell, size_put, World.size_drew, if_true, if_false, ↓IntWalk.iteOmega, Qw8_1] at Q'
  clear Qw8_1
  have Qw8_1 := Q'
  clear Q'
  have Q' : w22.heap[w10.heap.size]? = _ := hb.block (w10.heap.size) (by (first | omega | ((try simp only [World.size_alloc, World.size_setCell, World.size_drew, size_put]); omega)))
  simp only [alloc_block_if, put_block_if, over_block_if, set_block_if, setObj_cells, drew_block, drewN_block, Option.map_some, List.setIfInBounds_toArray, List.set_cons_zero, List.set_cons_succ, World.size_alloc, World.size_setCell, size_put, World.size_drew, if_true, if_false, ↓IntWalk.iteOmega, Qw10_0] at Q'
  clear Qw10_0
  have Qw10_0 := Q'
  clear Q'
  have qw2_0 := cell_of_block Qw2_0
  have qw4_0 := cell_of_block Qw4_0
  have qw4_1 := cell_of_block Qw4_1
  have qw6_0 := cell_of_block Qw6_0
  have qw6_1 := cell_of_block Qw6_1
  have qw6_2 := cell_of_block Qw6_2
  have qw8_1 := cell_of_block Qw8_1
  have qw10_0 := cell_of_block Qw10_0
  clear hb
  have hk22 : Below w11.heap.size w11 w22 := hk21.trans (hB.mono hk21.size)
  have hBw : Below w.heap.size w w22 := (hB01.trans (hB12.mono hB01.size)).trans ((hB211.trans (hk22.mono hB211.size)).mono (hB01.trans (hB12.mono hB01.size)).size)
  go_wp2_with fail
  go_ret
  exact gives_of rfl (by go_light; exact hBw)
end Go.Proofs.YtfajjgkhanjcfaaGreat
