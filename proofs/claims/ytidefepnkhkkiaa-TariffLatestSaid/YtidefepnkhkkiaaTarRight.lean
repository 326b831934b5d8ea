/- Tariffs: Right of the program and of the reference. -/
import Derived.Test.YtidefepnkhkkiaaTarRates
namespace Go.Proofs.Ytidefepnkhkkiaa
set_option linter.unusedSimpArgs false
set_option linter.unusedVariables false
open Go.RowKit
def firstBad : Option Int → Int → Bool
  | none, f => !(f == 0)
  | some _, _ => false
def ordBad : Option Int → Int → Bool
  | none, _ => false
  | some p, f => decide (f ≤ p)
/-- The error of a tariff behind tariffs of which the last began at prev. -/
def tarE (prev : Option Int) (x : TF) : Int :=
  if x.from_ < 0 ∨ 20000000 < x.from_ ∨ firstBad prev x.from_ = true then 2
  else if ordBad prev x.from_ = true then 11
  else if 32 < x.rates.length then 4 else ratesF x.rates
def tarsL : Option Int → List TF → Int
  | _, [] => 0
  | prev, x :: r => if tarE prev x = 0 then tarsL (some x.from_) r else tarE prev x
def tarF (l : List TF) : Int := if l.length = 0 then 8 else if 16 < l.length then 4 else tarsL none l
theorem tarsL_stop {p : Option Int} {x : TF} {r : List TF} {e : Int} (h : tarE p x = e) (he : e ≠ 0) : tarsL p (x :: r) = e := by
  show (if tarE p x = 0 then _ else tarE p x) = e
  rw [h, if_neg he]
theorem tarsL_go {p : Option Int} {x : TF} {r : List TF} (h : tarE p x = 0) : tarsL p (x :: r) = tarsL (some x.from_) r := by
  show (if tarE p x = 0 then _ else tarE p x) = _
  rw [if_pos h]
def prevF (xs : List TF) (k : Nat) : Option Int := if k = 0 then none else (xs[k - 1]?).map TF.from_
theorem prevF_succ {xs : List TF} {k : Nat} {x : TF} (h : xs[k]? = some x) : prevF xs (k + 1) = some x.from_ := by
  unfold prevF; rw [if_neg (by omega)]; simp [h]
set_option maxRecDepth 100000 in
set_option maxHeartbeats 1600000 in
theorem tariff_Right (s : Sl) (xs : List TF) (w : World) (hs : TFs w s xs) : Calls Try.prog 12 #[s.val] w (Gives (.int .i64 (tarF xs)) w) := by
  obtain ⟨A, n, c⟩ := s
  have hmax : n ≤ 9223372036854775807 := hs.rd.bound
  have Hs := Lib.hid hs
  clear hs
  have Hn : Hid (xs.length = n) := Hs.out.rd.len
  generalize hV : tarF xs = V
  have HV := Lib.hid hV
  clear hV
  simp only [Sl.val]
  by_cases hn0 : n = 0
  · have HE : Hid (V = 8) := by show V = 8; rw [← HV.out, tarF, Hn.out, if_pos hn0]
    have hb : ((n : Int) == 0) = true := by simpa using hn0
    clear hn0
    (go_enter Try.func12, Try.ntmps12; try dsimp only [List.append])
    go_wp2
    go_ret
    exact gives_of (ret_int HE.out.symm) (by go_light; (repeat' (first | (with_reducible exact Below.refl _ _) | (with_reducible exact Nat.le_refl _) | (with_reducible assumption) | (with_reducible refine below_step ?_ ?_ hr) | (with_reducible refine below_over ?_ ?_ _) | (with_reducible refine Below.alloc ?_ ?_ _) | (with_reducible refine Below.setCell ?_ ?_ _) | (with_reducible refine below_put ?_ ?_ _) | (with_reducible refine Below.drew ?_) | (with_reducible refine below_drewN_ ?_ _) | (with_reducible refine le_drewN ?_ _) | (with_reducible refine over_le _ _ _ ?_) | (with_reducible refine le_alloc ?_ _) | (with_reducible refine le_setCell ?_ _ _) | (with_reducible refine le_put ?_ _ _) | (with_reducible refine le_drew ?_) | dsimp only | omega | ((try simp only [World.size_alloc, World.size_setCell, World.size_drew, size_put]); omega) | (simp; done))))
  · have hb : ((n : Int) == 0) = false := by simpa using hn0
    by_cases hn16 : 16 < n
    · have HE : Hid (V = 4) := by show V = 4; rw [← HV.out, tarF, Hn.out, if_neg hn0, if_pos hn16]
      clear hn0
      (go_enter Try.func12, Try.ntmps12; try dsimp only [List.append])
      go_wp2
      go_ret
      exact gives_of (ret_int HE.out.symm) (by go_light; (repeat' (first | (with_reducible exact Below.refl _ _) | (with_reducible exact Nat.le_refl _) | (with_reducible assumption) | (with_reducible refine below_step ?_ ?_ hr) | (with_reducible refine below_over ?_ ?_ _) | (with_reducible refine Below.alloc ?_ ?_ _) | (with_reducible refine Below.setCell ?_ ?_ _) | (with_reducible refine below_put ?_ ?_ _) | (with_reducible refine Below.drew ?_) | (with_reducible refine below_drewN_ ?_ _) | (with_reducible refine le_drewN ?_ _) | (with_reducible refine over_le _ _ _ ?_) | (with_reducible refine le_alloc ?_ _) | (with_reducible refine le_setCell ?_ _ _) | (with_reducible refine le_put ?_ _ _) | (with_reducible refine le_drew ?_) | dsimp only | omega | ((try simp only [World.size_alloc, World.size_setCell, World.size_drew, size_put]); omega) | (simp; done))))
    · have H0 : Hid (tarsL none xs = V) := by show tarsL none xs = V; rw [← HV.out, tarF, Hn.out, if_neg hn0, if_neg hn16]
      clear hn0
      (go_enter Try.func12, Try.ntmps12; try dsimp only [List.append])
      go_wp2
      go_loopw [14] (fun i wr => ∃ k : Nat, k ≤ n ∧ i = .int .i64 k ∧ Hid (tarsL (prevF xs k) (xs.drop k) = V) ∧ Below w.heap.size w wr) (fun i _ => n - (intOf i).toNat)
      case atStart => exact ⟨0, Nat.zero_le _, rfl, H0, Below.refl _ _⟩
      case round =>
        obtain ⟨k, hk, rfl, Hl, hB⟩ := hrel
        have hz := hB.size
        by_cases hlt : k < n
        · obtain ⟨b, off, x, rfl, hbw, Hx, Hx0, hc0, hc1⟩ := Hs.out.rd.tf hlt
          have e0 := (hB.cell (p := ⟨b, _, none⟩) hbw).trans hc0
          have e1 := (hB.cell (p := ⟨b, _, none⟩) hbw).trans hc1
          clear hc0 hc1
          have Hxa := Lib.hid (Hs.out.all x (List.mem_of_getElem? Hx0.out))
          have Hm : Hid (x.rates.length = x.sr.n) := Hxa.out.rd.len
          have hm : x.sr.n ≤ 9223372036854775807 := Hxa.out.rd.bound
          have Hp := Lib.hid (prevF_succ Hx0.out)
          rw [Hx.out] at Hl
          by_cases hk0 : k = 0
          · subst hk0
            have e0 : wr.cell? ⟨b, off, none⟩ = some (.int .i64 x.from_) := by simpa using e0
            have e1 : wr.cell? ⟨b, off + 1, none⟩ = some (.slice x.sr.a x.sr.n x.sr.c) := by simpa using e1
            obtain ⟨P, hP⟩ : ∃ P, P = prevF xs 0 := ⟨_, rfl⟩
            rw [← hP] at Hl
            have HPn : Hid (P = none) := by show P = none; rw [hP]; rfl
            clear hP
            by_cases hr : x.from_ < 0 ∨ 20000000 < x.from_ ∨ ¬ x.from_ = 0
            · have HE : Hid (tarE P x = 2) := by show tarE P x = 2; rw [tarE, if_pos (by rw [HPn.out]; simpa [firstBad] using hr)]
              have Hr := Lib.hid hr
              clear hr
              go_wp2_with fail
              all_goals first
                | (go_ret; exact gives_of (ret_int (by go_light; have h := HE.out; rw [← Hl.out, tarsL_stop h (by decide)])) (by go_light; (repeat' (first | (with_reducible exact Below.refl _ _) | (with_reducible exact Nat.le_refl _) | (with_reducible assumption) | (with_reducible refine below_step ?_ ?_ hr) | (with_reducible refine below_over ?_ ?_ _) | (with_reducible refine Below.alloc ?_ ?_ _) | (with_reducible refine Below.setCell ?_ ?_ _) | (with_reducible refine below_put ?_ ?_ _) | (with_reducible refine Below.drew ?_) | (with_reducible refine below_drewN_ ?_ _) | (with_reducible refine le_drewN ?_ _) | (with_reducible refine over_le _ _ _ ?_) | (with_reducible refine le_alloc ?_ _) | (with_reducible refine le_setCell ?_ _ _) | (with_reducible refine le_put ?_ _ _) | (with_reducible refine le_drew ?_) | dsimp only | omega | ((try simp only [World.size_alloc, World.size_setCell, World.size_drew, size_put]); omega) | (simp; done)))))
                | (exfalso; go_light; have h := Hr.out; (try simp at *); omega)
            · have h1 : x.from_ = 0 := by omega
              have HR : Hid (¬ (x.from_ < 0 ∨ 20000000 < x.from_ ∨ firstBad P x.from_ = true)) := by show ¬ _; rw [HPn.out]; simpa [firstBad] using hr
              have HO : Hid (ordBad P x.from_ = false) := by show _ = _; rw [HPn.out]; rfl
              have h1b : (x.from_ != 0) = false := by simpa using h1
              have h2 : ¬ x.from_ < 0 := by omega
              have h3 : ¬ 20000000 < x.from_ := by omega
              clear hr h1
              by_cases hm32 : 32 < x.sr.n
              · have HE : Hid (tarE P x = 4) := by show tarE P x = 4; rw [tarE, if_neg HR.out, if_neg (by rw [HO.out]; simp), Hm.out, if_pos hm32]
                go_wp2_with fail
                all_goals refine wp_region_over (by kernel_rfl) (by kernel_rfl) ?_
                repeat (any_goals (first | go_big_quiet_step ((fail)) | (refine wpQuiet_step (fun K hK => ?_); go_simp; split <;> (refine hK _ ?_; clear hK K)) | quiet_step ((fail))))
                all_goals (refine wpQuiet_nil ?_; intro _ hw'; obtain ⟨xq, hw''⟩ := hw'; have hz := size_of hw''; (try simp only [World.size_alloc, World.size_setCell, World.size_drew] at hz); subst hw'')
                go_wp2_with fail
                go_ret
                exact gives_of (ret_int (by go_light; have h := HE.out; rw [← Hl.out, tarsL_stop h (by decide)])) (by go_light; (repeat' (first | (with_reducible exact Below.refl _ _) | (with_reducible exact Nat.le_refl _) | (with_reducible assumption) | (with_reducible refine below_step ?_ ?_ hr) | (with_reducible refine below_over ?_ ?_ _) | (with_reducible refine Below.alloc ?_ ?_ _) | (with_reducible refine Below.setCell ?_ ?_ _) | (with_reducible refine below_put ?_ ?_ _) | (with_reducible refine Below.drew ?_) | (with_reducible refine below_drewN_ ?_ _) | (with_reducible refine le_drewN ?_ _) | (with_reducible refine over_le _ _ _ ?_) | (with_reducible refine le_alloc ?_ _) | (with_reducible refine le_setCell ?_ _ _) | (with_reducible refine le_put ?_ _ _) | (with_reducible refine le_drew ?_) | dsimp only | omega | ((try simp only [World.size_alloc, World.size_setCell, World.size_drew, size_put]); omega) | (simp; done))))
              · generalize hR : ratesF x.rates = R
                have HE : Hid (tarE P x = R) := by show tarE P x = R; rw [tarE, if_neg HR.out, if_neg (by rw [HO.out]; simp), Hm.out, if_neg hm32, hR]
                by_cases hR0 : R = 0
                · subst hR0
                  go_wp2_with fail
                  all_goals refine wp_region_over (by kernel_rfl) (by kernel_rfl) ?_
                  repeat (any_goals (first | go_big_quiet_step ((fail)) | (refine wpQuiet_step (fun K hK => ?_); go_simp; split <;> (refine hK _ ?_; clear hK K)) | quiet_step ((fail))))
                  all_goals (refine wpQuiet_nil ?_; intro _ hw'; obtain ⟨xq, hw''⟩ := hw'; have hz := size_of hw''; (try simp only [World.size_alloc, World.size_setCell, World.size_drew] at hz); subst hw'')
                  go_wp2_with fail
                  refine ((hR ▸ tariff_rates x.sr x.rates _ (Hxa.out.rd.toW (by (repeat' (first | (with_reducible exact Below.refl _ _) | (with_reducible exact Nat.le_refl _) | (with_reducible assumption) | (with_reducible refine below_step ?_ ?_ hr) | (with_reducible refine below_over ?_ ?_ _) | (with_reducible refine Below.alloc ?_ ?_ _) | (with_reducible refine Below.setCell ?_ ?_ _) | (with_reducible refine below_put ?_ ?_ _) | (with_reducible refine Below.drew ?_) | (with_reducible refine below_drewN_ ?_ _) | (with_reducible refine le_drewN ?_ _) | (with_reducible refine over_le _ _ _ ?_) | (with_reducible refine le_alloc ?_ _) | (with_reducible refine le_setCell ?_ _ _) | (with_reducible refine le_put ?_ _ _) | (with_reducible refine le_drew ?_) | dsimp only | omega | ((try simp only [World.size_alloc, World.size_setCell, World.size_drew, size_put]); omega) | (simp; done))))) (fun y hy => (Hxa.out.all y hy).toW (by (repeat' (first | (with_reducible exact Below.refl _ _) | (with_reducible exact Nat.le_refl _) | (with_reducible assumption) | (with_reducible refine below_step ?_ ?_ hr) | (with_reducible refine below_over ?_ ?_ _) | (with_reducible refine Below.alloc ?_ ?_ _) | (with_reducible refine Below.setCell ?_ ?_ _) | (with_reducible refine below_put ?_ ?_ _) | (with_reducible refine Below.drew ?_) | (with_reducible refine below_drewN_ ?_ _) | (with_reducible refine le_drewN ?_ _) | (with_reducible refine over_le _ _ _ ?_) | (with_reducible refine le_alloc ?_ _) | (with_reducible refine le_setCell ?_ _ _) | (with_reducible refine le_put ?_ _ _) | (with_reducible refine le_drew ?_) | dsimp only | omega | ((try simp only [World.size_alloc, World.size_setCell, World.size_drew, size_put]); omega) | (simp; done))))))).mono ?_
                  rintro e w2 hg
                  obtain ⟨rfl, hb⟩ := hg.below
                  clear hg
                  have hz := hb.size
                  (try simp only [World.size_alloc, World.size_setCell, World.size_drew, size_put] at hz)
                  have hB : Below w.heap.size w w2 := below_step (by (repeat' (first | (with_reducible exact Below.refl _ _) | (with_reducible exact Nat.le_refl _) | (with_reducible assumption) | (with_reducible refine below_step ?_ ?_ hr) | (with_reducible refine below_over ?_ ?_ _) | (with_reducible refine Below.alloc ?_ ?_ _) | (with_reducible refine Below.setCell ?_ ?_ _) | (with_reducible refine below_put ?_ ?_ _) | (with_reducible refine Below.drew ?_) | (with_reducible refine below_drewN_ ?_ _) | (with_reducible refine le_drewN ?_ _) | (with_reducible refine over_le _ _ _ ?_) | (with_reducible refine le_alloc ?_ _) | (with_reducible refine le_setCell ?_ _ _) | (with_reducible refine le_put ?_ _ _) | (with_reducible refine le_drew ?_) | dsimp only | omega | ((try simp only [World.size_alloc, World.size_setCell, World.size_drew, size_put]); omega) | (simp; done)))) (by (first | omega | ((try simp only [World.size_alloc, World.size_setCell, World.size_drew, size_put]); omega))) hb
                  clear hb
                  go_wp2_with fail
                  go_roundw
                  case rel => exact ⟨0 + 1, by omega, by go_num, Lib.hid (by go_light; rw [Hp.out, ← Hl.out, tarsL_go HE.out]), by go_light; (repeat' (first | (with_reducible exact Below.refl _ _) | (with_reducible exact Nat.le_refl _) | (with_reducible assumption) | (with_reducible refine below_step ?_ ?_ hr) | (with_reducible refine below_over ?_ ?_ _) | (with_reducible refine Below.alloc ?_ ?_ _) | (with_reducible refine Below.setCell ?_ ?_ _) | (with_reducible refine below_put ?_ ?_ _) | (with_reducible refine Below.drew ?_) | (with_reducible refine below_drewN_ ?_ _) | (with_reducible refine le_drewN ?_ _) | (with_reducible refine over_le _ _ _ ?_) | (with_reducible refine le_alloc ?_ _) | (with_reducible refine le_setCell ?_ _ _) | (with_reducible refine le_put ?_ _ _) | (with_reducible refine le_drew ?_) | dsimp only | omega | ((try simp only [World.size_alloc, World.size_setCell, World.size_drew, size_put]); omega) | (simp; done)))⟩
                  case measure => simp [intOf]; omega
                · have hRb : (R != 0) = true := by simpa using hR0
                  have HR0 := Lib.hid hR0
                  clear hR0
                  go_wp2_with fail
                  all_goals refine wp_region_over (by kernel_rfl) (by kernel_rfl) ?_
                  repeat (any_goals (first | go_big_quiet_step ((fail)) | (refine wpQuiet_step (fun K hK => ?_); go_simp; split <;> (refine hK _ ?_; clear hK K)) | quiet_step ((fail))))
                  all_goals (refine wpQuiet_nil ?_; intro _ hw'; obtain ⟨xq, hw''⟩ := hw'; have hz := size_of hw''; (try simp only [World.size_alloc, World.size_setCell, World.size_drew] at hz); subst hw'')
                  go_wp2_with fail
                  refine ((hR ▸ tariff_rates x.sr x.rates _ (Hxa.out.rd.toW (by (repeat' (first | (with_reducible exact Below.refl _ _) | (with_reducible exact Nat.le_refl _) | (with_reducible assumption) | (with_reducible refine below_step ?_ ?_ hr) | (with_reducible refine below_over ?_ ?_ _) | (with_reducible refine Below.alloc ?_ ?_ _) | (with_reducible refine Below.setCell ?_ ?_ _) | (with_reducible refine below_put ?_ ?_ _) | (with_reducible refine Below.drew ?_) | (with_reducible refine below_drewN_ ?_ _) | (with_reducible refine le_drewN ?_ _) | (with_reducible refine over_le _ _ _ ?_) | (with_reducible refine le_alloc ?_ _) | (with_reducible refine le_setCell ?_ _ _) | (with_reducible refine le_put ?_ _ _) | (with_reducible refine le_drew ?_) | dsimp only | omega | ((try simp only [World.size_alloc, World.size_setCell, World.size_drew, size_put]); omega) | (simp; done))))) (fun y hy => (Hxa.out.all y hy).toW (by (repeat' (first | (with_reducible exact Below.refl _ _) | (with_reducible exact Nat.le_refl _) | (with_reducible assumption) | (with_reducible refine below_step ?_ ?_ hr) | (with_reducible refine below_over ?_ ?_ _) | (with_reducible refine Below.alloc ?_ ?_ _) | (with_reducible refine Below.setCell ?_ ?_ _) | (with_reducible refine below_put ?_ ?_ _) | (with_reducible refine Below.drew ?_) | (with_reducible refine below_drewN_ ?_ _) | (with_reducible refine le_drewN ?_ _) | (with_reducible refine over_le _ _ _ ?_) | (with_reducible refine le_alloc ?_ _) | (with_reducible refine le_setCell ?_ _ _) | (with_reducible refine le_put ?_ _ _) | (with_reducible refine le_drew ?_) | dsimp only | omega | ((try simp only [World.size_alloc, World.size_setCell, World.size_drew, size_put]); omega) | (simp; done))))))).mono ?_
                  rintro e w2 hg
                  obtain ⟨rfl, hb⟩ := hg.below
                  clear hg
                  have hz := hb.size
                  (try simp only [World.size_alloc, World.size_setCell, World.size_drew, size_put] at hz)
                  have hB : Below w.heap.size w w2 := below_step (by (repeat' (first | (with_reducible exact Below.refl _ _) | (with_reducible exact Nat.le_refl _) | (with_reducible assumption) | (with_reducible refine below_step ?_ ?_ hr) | (with_reducible refine below_over ?_ ?_ _) | (with_reducible refine Below.alloc ?_ ?_ _) | (with_reducible refine Below.setCell ?_ ?_ _) | (with_reducible refine below_put ?_ ?_ _) | (with_reducible refine Below.drew ?_) | (with_reducible refine below_drewN_ ?_ _) | (with_reducible refine le_drewN ?_ _) | (with_reducible refine over_le _ _ _ ?_) | (with_reducible refine le_alloc ?_ _) | (with_reducible refine le_setCell ?_ _ _) | (with_reducible refine le_put ?_ _ _) | (with_reducible refine le_drew ?_) | dsimp only | omega | ((try simp only [World.size_alloc, World.size_setCell, World.size_drew, size_put]); omega) | (simp; done)))) (by (first | omega | ((try simp only [World.size_alloc, World.size_setCell, World.size_drew, size_put]); omega))) hb
                  clear hb
                  go_wp2_with fail
                  go_ret
                  exact gives_of (ret_int (by go_light; have h := HE.out; rw [← Hl.out, tarsL_stop h HR0.out])) (by go_light; (repeat' (first | (with_reducible exact Below.refl _ _) | (with_reducible exact Nat.le_refl _) | (with_reducible assumption) | (with_reducible refine below_step ?_ ?_ hr) | (with_reducible refine below_over ?_ ?_ _) | (with_reducible refine Below.alloc ?_ ?_ _) | (with_reducible refine Below.setCell ?_ ?_ _) | (with_reducible refine below_put ?_ ?_ _) | (with_reducible refine Below.drew ?_) | (with_reducible refine below_drewN_ ?_ _) | (with_reducible refine le_drewN ?_ _) | (with_reducible refine over_le _ _ _ ?_) | (with_reducible refine le_alloc ?_ _) | (with_reducible refine le_setCell ?_ _ _) | (with_reducible refine le_put ?_ _ _) | (with_reducible refine le_drew ?_) | dsimp only | omega | ((try simp only [World.size_alloc, World.size_setCell, World.size_drew, size_put]); omega) | (simp; done))))
          · obtain ⟨b', off', y, heq, -, -, Hy0, hd0, hd1⟩ := Hs.out.rd.tf (show k - 1 < n by omega)
            obtain ⟨rfl, rfl⟩ : b = b' ∧ off = off' := by simpa using heq
            have e5 := (hB.cell (p := ⟨b, _, none⟩) hbw).trans hd0
            clear heq hd0 hd1
            obtain ⟨P, hP⟩ : ∃ P, P = prevF xs k := ⟨_, rfl⟩
            rw [← hP] at Hl
            have HPn : Hid (P = some y.from_) := by show P = _; rw [hP, prevF, if_neg hk0, Hy0.out]; rfl
            clear hP
            have hk1 : 0 < k := by omega
            have hkb : ((k : Int) == 0) = false := by simpa using hk0
            clear hk0
            have e2 : 0 ≤ (k : Int) - 1 := by omega
            have e3 : IntKind.i64.wrap ((k : Int) - 1) = (k : Int) - 1 := IntWalk.i64_in _ (by omega)
            have e4 : ((k : Int) - 1).toNat = k - 1 := by omega
            by_cases hr : x.from_ < 0 ∨ 20000000 < x.from_
            · have HE : Hid (tarE P x = 2) := by show tarE P x = 2; rw [tarE, if_pos (by rcases hr with hr | hr; exact .inl hr; exact .inr (.inl hr))]
              have Hr := Lib.hid hr
              clear hr e2 e3 e4
              go_wp2_with fail
              all_goals first
                | (go_ret; exact gives_of (ret_int (by go_light; have h := HE.out; rw [← Hl.out, tarsL_stop h (by decide)])) (by go_light; (repeat' (first | (with_reducible exact Below.refl _ _) | (with_reducible exact Nat.le_refl _) | (with_reducible assumption) | (with_reducible refine below_step ?_ ?_ hr) | (with_reducible refine below_over ?_ ?_ _) | (with_reducible refine Below.alloc ?_ ?_ _) | (with_reducible refine Below.setCell ?_ ?_ _) | (with_reducible refine below_put ?_ ?_ _) | (with_reducible refine Below.drew ?_) | (with_reducible refine below_drewN_ ?_ _) | (with_reducible refine le_drewN ?_ _) | (with_reducible refine over_le _ _ _ ?_) | (with_reducible refine le_alloc ?_ _) | (with_reducible refine le_setCell ?_ _ _) | (with_reducible refine le_put ?_ _ _) | (with_reducible refine le_drew ?_) | dsimp only | omega | ((try simp only [World.size_alloc, World.size_setCell, World.size_drew, size_put]); omega) | (simp; done)))))
                | (exfalso; go_light; have h := Hr.out; (try simp at *); omega)
            · have HR : Hid (¬ (x.from_ < 0 ∨ 20000000 < x.from_ ∨ firstBad P x.from_ = true)) := by
                show ¬ _
                rw [HPn.out]
                simp [firstBad]; omega
              have h2 : ¬ x.from_ < 0 := by omega
              have h3 : ¬ 20000000 < x.from_ := by omega
              clear hr
              by_cases ho : x.from_ ≤ y.from_
              · have HE : Hid (tarE P x = 11) := by show tarE P x = 11; rw [tarE, if_neg HR.out, if_pos (by rw [HPn.out]; simpa [ordBad] using ho)]
                go_wp2_with fail
                all_goals refine wp_region_over (by kernel_rfl) (by kernel_rfl) ?_
                repeat (any_goals (first | go_big_quiet_step ((fail)) | (refine wpQuiet_step (fun K hK => ?_); go_simp; split <;> (refine hK _ ?_; clear hK K)) | quiet_step ((fail))))
                all_goals (refine wpQuiet_nil ?_; intro _ hw'; obtain ⟨xq, hw''⟩ := hw'; have hz := size_of hw''; (try simp only [World.size_alloc, World.size_setCell, World.size_drew] at hz); subst hw'')
                clear e2 e3 e4
                go_wp2_with fail
                go_ret
                exact gives_of (ret_int (by go_light; have h := HE.out; rw [← Hl.out, tarsL_stop h (by decide)])) (by go_light; (repeat' (first | (with_reducible exact Below.refl _ _) | (with_reducible exact Nat.le_refl _) | (with_reducible assumption) | (with_reducible refine below_step ?_ ?_ hr) | (with_reducible refine below_over ?_ ?_ _) | (with_reducible refine Below.alloc ?_ ?_ _) | (with_reducible refine Below.setCell ?_ ?_ _) | (with_reducible refine below_put ?_ ?_ _) | (with_reducible refine Below.drew ?_) | (with_reducible refine below_drewN_ ?_ _) | (with_reducible refine le_drewN ?_ _) | (with_reducible refine over_le _ _ _ ?_) | (with_reducible refine le_alloc ?_ _) | (with_reducible refine le_setCell ?_ _ _) | (with_reducible refine le_put ?_ _ _) | (with_reducible refine le_drew ?_) | dsimp only | omega | ((try simp only [World.size_alloc, World.size_setCell, World.size_drew, size_put]); omega) | (simp; done))))
              · have HO : Hid (ordBad P x.from_ = false) := by show _ = _; rw [HPn.out]; simpa [ordBad] using ho
                by_cases hm32 : 32 < x.sr.n
                · have HE : Hid (tarE P x = 4) := by show tarE P x = 4; rw [tarE, if_neg HR.out, if_neg (by rw [HO.out]; simp), Hm.out, if_pos hm32]
                  go_wp2_with fail
                  all_goals refine wp_region_over (by kernel_rfl) (by kernel_rfl) ?_
                  repeat (any_goals (first | go_big_quiet_step ((fail)) | (refine wpQuiet_step (fun K hK => ?_); go_simp; split <;> (refine hK _ ?_; clear hK K)) | quiet_step ((fail))))
                  all_goals (refine wpQuiet_nil ?_; intro _ hw'; obtain ⟨xq, hw''⟩ := hw'; have hz := size_of hw''; (try simp only [World.size_alloc, World.size_setCell, World.size_drew] at hz); subst hw'')
                  go_wp2_with fail
                  go_ret
                  exact gives_of (ret_int (by go_light; have h := HE.out; rw [← Hl.out, tarsL_stop h (by decide)])) (by go_light; (repeat' (first | (with_reducible exact Below.refl _ _) | (with_reducible exact Nat.le_refl _) | (with_reducible assumption) | (with_reducible refine below_step ?_ ?_ hr) | (with_reducible refine below_over ?_ ?_ _) | (with_reducible refine Below.alloc ?_ ?_ _) | (with_reducible refine Below.setCell ?_ ?_ _) | (with_reducible refine below_put ?_ ?_ _) | (with_reducible refine Below.drew ?_) | (with_reducible refine below_drewN_ ?_ _) | (with_reducible refine le_drewN ?_ _) | (with_reducible refine over_le _ _ _ ?_) | (with_reducible refine le_alloc ?_ _) | (with_reducible refine le_setCell ?_ _ _) | (with_reducible refine le_put ?_ _ _) | (with_reducible refine le_drew ?_) | dsimp only | omega | ((try simp only [World.size_alloc, World.size_setCell, World.size_drew, size_put]); omega) | (simp; done))))
                · generalize hR : ratesF x.rates = R
                  have HE : Hid (tarE P x = R) := by show tarE P x = R; rw [tarE, if_neg HR.out, if_neg (by rw [HO.out]; simp), Hm.out, if_neg hm32, hR]
                  by_cases hR0 : R = 0
                  · subst hR0
                    go_wp2_with fail
                    all_goals refine wp_region_over (by kernel_rfl) (by kernel_rfl) ?_
                    repeat (any_goals (first | go_big_quiet_step ((fail)) | (refine wpQuiet_step (fun K hK => ?_); go_simp; split <;> (refine hK _ ?_; clear hK K)) | quiet_step ((fail))))
                    all_goals (refine wpQuiet_nil ?_; intro _ hw'; obtain ⟨xq, hw''⟩ := hw'; have hz := size_of hw''; (try simp only [World.size_alloc, World.size_setCell, World.size_drew] at hz); subst hw'')
                    clear e2 e3 e4
                    go_wp2_with fail
                    refine ((hR ▸ tariff_rates x.sr x.rates _ (Hxa.out.rd.toW (by (repeat' (first | (with_reducible exact Below.refl _ _) | (with_reducible exact Nat.le_refl _) | (with_reducible assumption) | (with_reducible refine below_step ?_ ?_ hr) | (with_reducible refine below_over ?_ ?_ _) | (with_reducible refine Below.alloc ?_ ?_ _) | (with_reducible refine Below.setCell ?_ ?_ _) | (with_reducible refine below_put ?_ ?_ _) | (with_reducible refine Below.drew ?_) | (with_reducible refine below_drewN_ ?_ _) | (with_reducible refine le_drewN ?_ _) | (with_reducible refine over_le _ _ _ ?_) | (with_reducible refine le_alloc ?_ _) | (with_reducible refine le_setCell ?_ _ _) | (with_reducible refine le_put ?_ _ _) | (with_reducible refine le_drew ?_) | dsimp only | omega | ((try simp only [World.size_alloc, World.size_setCell, World.size_drew, size_put]); omega) | (simp; done))))) (fun y hy => (Hxa.out.all y hy).toW (by (repeat' (first | (with_reducible exact Below.refl _ _) | (with_reducible exact Nat.le_refl _) | (with_reducible assumption) | (with_reducible refine below_step ?_ ?_ hr) | (with_reducible refine below_over ?_ ?_ _) | (with_reducible refine Below.alloc ?_ ?_ _) | (with_reducible refine Below.setCell ?_ ?_ _) | (with_reducible refine below_put ?_ ?_ _) | (with_reducible refine Below.drew ?_) | (with_reducible refine below_drewN_ ?_ _) | (with_reducible refine le_drewN ?_ _) | (with_reducible refine over_le _ _ _ ?_) | (with_reducible refine le_alloc ?_ _) | (with_reducible refine le_setCell ?_ _ _) | (with_reducible refine le_put ?_ _ _) | (with_reducible refine le_drew ?_) | dsimp only | omega | ((try simp only [World.size_alloc, World.size_setCell, World.size_drew, size_put]); omega) | (simp; done))))))).mono ?_
                    rintro e w2 hg
                    obtain ⟨rfl, hb⟩ := hg.below
                    clear hg
                    have hz := hb.size
                    (try simp only [World.size_alloc, World.size_setCell, World.size_drew, size_put] at hz)
                    have hB : Below w.heap.size w w2 := below_step (by (repeat' (first | (with_reducible exact Below.refl _ _) | (with_reducible exact Nat.le_refl _) | (with_reducible assumption) | (with_reducible refine below_step ?_ ?_ hr) | (with_reducible refine below_over ?_ ?_ _) | (with_reducible refine Below.alloc ?_ ?_ _) | (with_reducible refine Below.setCell ?_ ?_ _) | (with_reducible refine below_put ?_ ?_ _) | (with_reducible refine Below.drew ?_) | (with_reducible refine below_drewN_ ?_ _) | (with_reducible refine le_drewN ?_ _) | (with_reducible refine over_le _ _ _ ?_) | (with_reducible refine le_alloc ?_ _) | (with_reducible refine le_setCell ?_ _ _) | (with_reducible refine le_put ?_ _ _) | (with_reducible refine le_drew ?_) | dsimp only | omega | ((try simp only [World.size_alloc, World.size_setCell, World.size_drew, size_put]); omega) | (simp; done)))) (by (first | omega | ((try simp only [World.size_alloc, World.size_setCell, World.size_drew, size_put]); omega))) hb
                    clear hb
                    go_wp2_with fail
                    go_roundw
                    case rel => exact ⟨k + 1, by omega, by go_num, Lib.hid (by go_light; rw [Hp.out, ← Hl.out, tarsL_go HE.out]), by go_light; (repeat' (first | (with_reducible exact Below.refl _ _) | (with_reducible exact Nat.le_refl _) | (with_reducible assumption) | (with_reducible refine below_step ?_ ?_ hr) | (with_reducible refine below_over ?_ ?_ _) | (with_reducible refine Below.alloc ?_ ?_ _) | (with_reducible refine Below.setCell ?_ ?_ _) | (with_reducible refine below_put ?_ ?_ _) | (with_reducible refine Below.drew ?_) | (with_reducible refine below_drewN_ ?_ _) | (with_reducible refine le_drewN ?_ _) | (with_reducible refine over_le _ _ _ ?_) | (with_reducible refine le_alloc ?_ _) | (with_reducible refine le_setCell ?_ _ _) | (with_reducible refine le_put ?_ _ _) | (with_reducible refine le_drew ?_) | dsimp only | omega | ((try simp only [World.size_alloc, World.size_setCell, World.size_drew, size_put]); omega) | (simp; done)))⟩
                    case measure => simp [intOf]; omega
                  · have hRb : (R != 0) = true := by simpa using hR0
                    have HR0 := Lib.hid hR0
                    clear hR0
                    go_wp2_with fail
                    all_goals refine wp_region_over (by kernel_rfl) (by kernel_rfl) ?_
                    repeat (any_goals (first | go_big_quiet_step ((fail)) | (refine wpQuiet_step (fun K hK => ?_); go_simp; split <;> (refine hK _ ?_; clear hK K)) | quiet_step ((fail))))
                    all_goals (refine wpQuiet_nil ?_; intro _ hw'; obtain ⟨xq, hw''⟩ := hw'; have hz := size_of hw''; (try simp only [World.size_alloc, World.size_setCell, World.size_drew] at hz); subst hw'')
                    clear e2 e3 e4
                    go_wp2_with fail
                    refine ((hR ▸ tariff_rates x.sr x.rates _ (Hxa.out.rd.toW (by (repeat' (first | (with_reducible exact Below.refl _ _) | (with_reducible exact Nat.le_refl _) | (with_reducible assumption) | (with_reducible refine below_step ?_ ?_ hr) | (with_reducible refine below_over ?_ ?_ _) | (with_reducible refine Below.alloc ?_ ?_ _) | (with_reducible refine Below.setCell ?_ ?_ _) | (with_reducible refine below_put ?_ ?_ _) | (with_reducible refine Below.drew ?_) | (with_reducible refine below_drewN_ ?_ _) | (with_reducible refine le_drewN ?_ _) | (with_reducible refine over_le _ _ _ ?_) | (with_reducible refine le_alloc ?_ _) | (with_reducible refine le_setCell ?_ _ _) | (with_reducible refine le_put ?_ _ _) | (with_reducible refine le_drew ?_) | dsimp only | omega | ((try simp only [World.size_alloc, World.size_setCell, World.size_drew, size_put]); omega) | (simp; done))))) (fun y hy => (Hxa.out.all y hy).toW (by (repeat' (first | (with_reducible exact Below.refl _ _) | (with_reducible exact Nat.le_refl _) | (with_reducible assumption) | (with_reducible refine below_step ?_ ?_ hr) | (with_reducible refine below_over ?_ ?_ _) | (with_reducible refine Below.alloc ?_ ?_ _) | (with_reducible refine Below.setCell ?_ ?_ _) | (with_reducible refine below_put ?_ ?_ _) | (with_reducible refine Below.drew ?_) | (with_reducible refine below_drewN_ ?_ _) | (with_reducible refine le_drewN ?_ _) | (with_reducible refine over_le _ _ _ ?_) | (with_reducible refine le_alloc ?_ _) | (with_reducible refine le_setCell ?_ _ _) | (with_reducible refine le_put ?_ _ _) | (with_reducible refine le_drew ?_) | dsimp only | omega | ((try simp only [World.size_alloc, World.size_setCell, World.size_drew, size_put]); omega) | (simp; done))))))).mono ?_
                    rintro e w2 hg
                    obtain ⟨rfl, hb⟩ := hg.below
                    clear hg
                    have hz := hb.size
                    (try simp only [World.size_alloc, World.size_setCell, World.size_drew, size_put] at hz)
                    have hB : Below w.heap.size w w2 := below_step (by (repeat' (first | (with_reducible exact Below.refl _ _) | (with_reducible exact Nat.le_refl _) | (with_reducible assumption) | (with_reducible refine below_step ?_ ?_ hr) | (with_reducible refine below_over ?_ ?_ _) | (with_reducible refine Below.alloc ?_ ?_ _) | (with_reducible refine Below.setCell ?_ ?_ _) | (with_reducible refine below_put ?_ ?_ _) | (with_reducible refine Below.drew ?_) | (with_reducible refine below_drewN_ ?_ _) | (with_reducible refine le_drewN ?_ _) | (with_reducible refine over_le _ _ _ ?_) | (with_reducible refine le_alloc ?_ _) | (with_reducible refine le_setCell ?_ _ _) | (with_reducible refine le_put ?_ _ _) | (with_reducible refine le_drew ?_) | dsimp only | omega | ((try simp only [World.size_alloc, World.size_setCell, World.size_drew, size_put]); omega) | (simp; done)))) (by (first | omega | ((try simp only [World.size_alloc, World.size_setCell, World.size_drew, size_put]); omega))) hb
                    clear hb
                    go_wp2_with fail
                    go_ret
                    exact gives_of (ret_int (by go_light; have h := HE.out; rw [← Hl.out, tarsL_stop h HR0.out])) (by go_light; (repeat' (first | (with_reducible exact Below.refl _ _) | (with_reducible exact Nat.le_refl _) | (with_reducible assumption) | (with_reducible refine below_step ?_ ?_ hr) | (with_reducible refine below_over ?_ ?_ _) | (with_reducible refine Below.alloc ?_ ?_ _) | (with_reducible refine Below.setCell ?_ ?_ _) | (with_reducible refine below_put ?_ ?_ _) | (with_reducible refine Below.drew ?_) | (with_reducible refine below_drewN_ ?_ _) | (with_reducible refine le_drewN ?_ _) | (with_reducible refine over_le _ _ _ ?_) | (with_reducible refine le_alloc ?_ _) | (with_reducible refine le_setCell ?_ _ _) | (with_reducible refine le_put ?_ _ _) | (with_reducible refine le_drew ?_) | dsimp only | omega | ((try simp only [World.size_alloc, World.size_setCell, World.size_drew, size_put]); omega) | (simp; done))))
        · have HE : Hid (V = 0) := by show V = 0; rw [← Hl.out, Hs.out.rd.done_ hlt]; cases prevF xs k <;> rfl
          go_wp2
          go_ret
          exact gives_of (ret_int HE.out.symm) (by go_light; (repeat' (first | (with_reducible exact Below.refl _ _) | (with_reducible exact Nat.le_refl _) | (with_reducible assumption) | (with_reducible refine below_step ?_ ?_ hr) | (with_reducible refine below_over ?_ ?_ _) | (with_reducible refine Below.alloc ?_ ?_ _) | (with_reducible refine Below.setCell ?_ ?_ _) | (with_reducible refine below_put ?_ ?_ _) | (with_reducible refine Below.drew ?_) | (with_reducible refine below_drewN_ ?_ _) | (with_reducible refine le_drewN ?_ _) | (with_reducible refine over_le _ _ _ ?_) | (with_reducible refine le_alloc ?_ _) | (with_reducible refine le_setCell ?_ _ _) | (with_reducible refine le_put ?_ _ _) | (with_reducible refine le_drew ?_) | dsimp only | omega | ((try simp only [World.size_alloc, World.size_setCell, World.size_drew, size_put]); omega) | (simp; done))))
set_option maxRecDepth 100000 in
set_option maxHeartbeats 1600000 in
theorem ref33_Right (s : Sl) (xs : List TF) (w : World) (hs : TFs w s xs) : Calls Try.prog 13 #[s.val] w (Gives (.int .i64 (tarF xs)) w) := by
  obtain ⟨A, n, c⟩ := s
  have hmax : n ≤ 9223372036854775807 := hs.rd.bound
  have Hs := Lib.hid hs
  clear hs
  have Hn : Hid (xs.length = n) := Hs.out.rd.len
  generalize hV : tarF xs = V
  have HV := Lib.hid hV
  clear hV
  simp only [Sl.val]
  by_cases hn0 : n = 0
  · have HE : Hid (V = 8) := by show V = 8; rw [← HV.out, tarF, Hn.out, if_pos hn0]
    have hb : ((n : Int) == 0) = true := by simpa using hn0
    clear hn0
    (go_enter Try.func13, Try.ntmps13; try dsimp only [List.append])
    go_wp2
    go_ret
    exact gives_of (ret_int HE.out.symm) (by go_light; (repeat' (first | (with_reducible exact Below.refl _ _) | (with_reducible exact Nat.le_refl _) | (with_reducible assumption) | (with_reducible refine below_step ?_ ?_ hr) | (with_reducible refine below_over ?_ ?_ _) | (with_reducible refine Below.alloc ?_ ?_ _) | (with_reducible refine Below.setCell ?_ ?_ _) | (with_reducible refine below_put ?_ ?_ _) | (with_reducible refine Below.drew ?_) | (with_reducible refine below_drewN_ ?_ _) | (with_reducible refine le_drewN ?_ _) | (with_reducible refine over_le _ _ _ ?_) | (with_reducible refine le_alloc ?_ _) | (with_reducible refine le_setCell ?_ _ _) | (with_reducible refine le_put ?_ _ _) | (with_reducible refine le_drew ?_) | dsimp only | omega | ((try simp only [World.size_alloc, World.size_setCell, World.size_drew, size_put]); omega) | (simp; done))))
  · have hb : ((n : Int) == 0) = false := by simpa using hn0
    by_cases hn16 : 16 < n
    · have HE : Hid (V = 4) := by show V = 4; rw [← HV.out, tarF, Hn.out, if_neg hn0, if_pos hn16]
      clear hn0
      (go_enter Try.func13, Try.ntmps13; try dsimp only [List.append])
      go_wp2
      go_ret
      exact gives_of (ret_int HE.out.symm) (by go_light; (repeat' (first | (with_reducible exact Below.refl _ _) | (with_reducible exact Nat.le_refl _) | (with_reducible assumption) | (with_reducible refine below_step ?_ ?_ hr) | (with_reducible refine below_over ?_ ?_ _) | (with_reducible refine Below.alloc ?_ ?_ _) | (with_reducible refine Below.setCell ?_ ?_ _) | (with_reducible refine below_put ?_ ?_ _) | (with_reducible refine Below.drew ?_) | (with_reducible refine below_drewN_ ?_ _) | (with_reducible refine le_drewN ?_ _) | (with_reducible refine over_le _ _ _ ?_) | (with_reducible refine le_alloc ?_ _) | (with_reducible refine le_setCell ?_ _ _) | (with_reducible refine le_put ?_ _ _) | (with_reducible refine le_drew ?_) | dsimp only | omega | ((try simp only [World.size_alloc, World.size_setCell, World.size_drew, size_put]); omega) | (simp; done))))
    · have H0 : Hid (tarsL none xs = V) := by show tarsL none xs = V; rw [← HV.out, tarF, Hn.out, if_neg hn0, if_neg hn16]
      clear hn0
      (go_enter Try.func13, Try.ntmps13; try dsimp only [List.append])
      go_wp2
      go_loopw [3] (fun i wr => ∃ k : Nat, k ≤ n ∧ i = .int .i64 k ∧ Hid (tarsL (prevF xs k) (xs.drop k) = V) ∧ Below w.heap.size w wr) (fun i _ => n - (intOf i).toNat)
      case atStart => exact ⟨0, Nat.zero_le _, rfl, H0, Below.refl _ _⟩
      case round =>
        obtain ⟨k, hk, rfl, Hl, hB⟩ := hrel
        have hz := hB.size
        by_cases hlt : k < n
        · obtain ⟨b, off, x, rfl, hbw, Hx, Hx0, hc0, hc1⟩ := Hs.out.rd.tf hlt
          have e0 := (hB.cell (p := ⟨b, _, none⟩) hbw).trans hc0
          have e1 := (hB.cell (p := ⟨b, _, none⟩) hbw).trans hc1
          clear hc0
          have Hxa := Lib.hid (Hs.out.all x (List.mem_of_getElem? Hx0.out))
          have Hm : Hid (x.rates.length = x.sr.n) := Hxa.out.rd.len
          have hm : x.sr.n ≤ 9223372036854775807 := Hxa.out.rd.bound
          have Hp := Lib.hid (prevF_succ Hx0.out)
          rw [Hx.out] at Hl
          by_cases hk0 : k = 0
          · subst hk0
            have e0 : wr.cell? ⟨b, off, none⟩ = some (.int .i64 x.from_) := by simpa using e0
            have e1 : wr.cell? ⟨b, off + 1, none⟩ = some (.slice x.sr.a x.sr.n x.sr.c) := by simpa using e1
            obtain ⟨P, hP⟩ : ∃ P, P = prevF xs 0 := ⟨_, rfl⟩
            rw [← hP] at Hl
            have HPn : Hid (P = none) := by show P = none; rw [hP]; rfl
            clear hP
            by_cases hr : x.from_ < 0 ∨ 20000000 < x.from_ ∨ ¬ x.from_ = 0
            · have HE : Hid (tarE P x = 2) := by show tarE P x = 2; rw [tarE, if_pos (by rw [HPn.out]; simpa [firstBad] using hr)]
              have Hr := Lib.hid hr
              clear hr
              go_wp2_with fail
              all_goals first
                | (go_ret; exact gives_of (ret_int (by go_light; have h := HE.out; rw [← Hl.out, tarsL_stop h (by decide)])) (by go_light; (repeat' (first | (with_reducible exact Below.refl _ _) | (with_reducible exact Nat.le_refl _) | (with_reducible assumption) | (with_reducible refine below_step ?_ ?_ hr) | (with_reducible refine below_over ?_ ?_ _) | (with_reducible refine Below.alloc ?_ ?_ _) | (with_reducible refine Below.setCell ?_ ?_ _) | (with_reducible refine below_put ?_ ?_ _) | (with_reducible refine Below.drew ?_) | (with_reducible refine below_drewN_ ?_ _) | (with_reducible refine le_drewN ?_ _) | (with_reducible refine over_le _ _ _ ?_) | (with_reducible refine le_alloc ?_ _) | (with_reducible refine le_setCell ?_ _ _) | (with_reducible refine le_put ?_ _ _) | (with_reducible refine le_drew ?_) | dsimp only | omega | ((try simp only [World.size_alloc, World.size_setCell, World.size_drew, size_put]); omega) | (simp; done)))))
                | (exfalso; go_light; have h := Hr.out; (try simp at *); omega)
            · have h1 : x.from_ = 0 := by omega
              have HR : Hid (¬ (x.from_ < 0 ∨ 20000000 < x.from_ ∨ firstBad P x.from_ = true)) := by show ¬ _; rw [HPn.out]; simpa [firstBad] using hr
              have HO : Hid (ordBad P x.from_ = false) := by show _ = _; rw [HPn.out]; rfl
              have h1b : (x.from_ != 0) = false := by simpa using h1
              have h2 : ¬ x.from_ < 0 := by omega
              have h3 : ¬ 20000000 < x.from_ := by omega
              clear hr h1
              by_cases hm32 : 32 < x.sr.n
              · have HE : Hid (tarE P x = 4) := by show tarE P x = 4; rw [tarE, if_neg HR.out, if_neg (by rw [HO.out]; simp), Hm.out, if_pos hm32]
                go_wp2_with fail
                all_goals refine wp_region_over (by kernel_rfl) (by kernel_rfl) ?_
                repeat (any_goals (first | go_big_quiet_step ((fail)) | (refine wpQuiet_step (fun K hK => ?_); go_simp; split <;> (refine hK _ ?_; clear hK K)) | quiet_step ((fail))))
                all_goals (refine wpQuiet_nil ?_; intro _ hw'; obtain ⟨xq, hw''⟩ := hw'; have hz := size_of hw''; (try simp only [World.size_alloc, World.size_setCell, World.size_drew] at hz); subst hw'')
                go_wp2_with fail
                go_ret
                exact gives_of (ret_int (by go_light; have h := HE.out; rw [← Hl.out, tarsL_stop h (by decide)])) (by go_light; (repeat' (first | (with_reducible exact Below.refl _ _) | (with_reducible exact Nat.le_refl _) | (with_reducible assumption) | (with_reducible refine below_step ?_ ?_ hr) | (with_reducible refine below_over ?_ ?_ _) | (with_reducible refine Below.alloc ?_ ?_ _) | (with_reducible refine Below.setCell ?_ ?_ _) | (with_reducible refine below_put ?_ ?_ _) | (with_reducible refine Below.drew ?_) | (with_reducible refine below_drewN_ ?_ _) | (with_reducible refine le_drewN ?_ _) | (with_reducible refine over_le _ _ _ ?_) | (with_reducible refine le_alloc ?_ _) | (with_reducible refine le_setCell ?_ _ _) | (with_reducible refine le_put ?_ _ _) | (with_reducible refine le_drew ?_) | dsimp only | omega | ((try simp only [World.size_alloc, World.size_setCell, World.size_drew, size_put]); omega) | (simp; done))))
              · have HE : Hid (tarE P x = ratesF x.rates) := by show tarE P x = _; rw [tarE, if_neg HR.out, if_neg (by rw [HO.out]; simp), Hm.out, if_neg hm32]
                go_wp2_with fail
                all_goals refine wp_region_over (by kernel_rfl) (by kernel_rfl) ?_
                repeat (any_goals (first | go_big_quiet_step ((fail)) | (refine wpQuiet_step (fun K hK => ?_); go_simp; split <;> (refine hK _ ?_; clear hK K)) | quiet_step ((fail))))
                all_goals (refine wpQuiet_nil ?_; intro w1 hw'; have hb := below_of_ex hw'; clear hw'; have hz := hb.size; (try simp only [World.size_alloc, World.size_setCell, World.size_drew, size_put] at hz); have hB : Below w.heap.size w w1 := below_step (by (repeat' (first | (with_reducible exact Below.refl _ _) | (with_reducible exact Nat.le_refl _) | (with_reducible assumption) | (with_reducible refine below_step ?_ ?_ hr) | (with_reducible refine below_over ?_ ?_ _) | (with_reducible refine Below.alloc ?_ ?_ _) | (with_reducible refine Below.setCell ?_ ?_ _) | (with_reducible refine below_put ?_ ?_ _) | (with_reducible refine Below.drew ?_) | (with_reducible refine below_drewN_ ?_ _) | (with_reducible refine le_drewN ?_ _) | (with_reducible refine over_le _ _ _ ?_) | (with_reducible refine le_alloc ?_ _) | (with_reducible refine le_setCell ?_ _ _) | (with_reducible refine le_put ?_ _ _) | (with_reducible refine le_drew ?_) | dsimp only | omega | ((try simp only [World.size_alloc, World.size_setCell, World.size_drew, size_put]); omega) | (simp; done)))) (by (first | omega | ((try simp only [World.size_alloc, World.size_setCell, World.size_drew, size_put]); omega))) hb; clear hb)
                have e1' := (hB.cell (p := ⟨b, _, none⟩) hbw).trans hc1
                have e1' : w1.cell? ⟨b, off + 1, none⟩ = some (.slice x.sr.a x.sr.n x.sr.c) := by simpa using e1'
                go_wp2_with fail
                go_loopw [4] (fun q wq => ∃ j : Nat, j ≤ x.sr.n ∧ q = .int .i64 j ∧ Hid (ratesL ((x.rates.take j).map RT.lift) (x.rates.drop j) = ratesF x.rates) ∧ Below w.heap.size w wq) (fun q _ => x.sr.n - (intOf q).toNat)
                case atStart => exact ⟨0, Nat.zero_le _, rfl, rfl, by go_light; (repeat' (first | (with_reducible exact Below.refl _ _) | (with_reducible exact Nat.le_refl _) | (with_reducible assumption) | (with_reducible refine below_step ?_ ?_ hr) | (with_reducible refine below_over ?_ ?_ _) | (with_reducible refine Below.alloc ?_ ?_ _) | (with_reducible refine Below.setCell ?_ ?_ _) | (with_reducible refine below_put ?_ ?_ _) | (with_reducible refine Below.drew ?_) | (with_reducible refine below_drewN_ ?_ _) | (with_reducible refine le_drewN ?_ _) | (with_reducible refine over_le _ _ _ ?_) | (with_reducible refine le_alloc ?_ _) | (with_reducible refine le_setCell ?_ _ _) | (with_reducible refine le_put ?_ _ _) | (with_reducible refine le_drew ?_) | dsimp only | omega | ((try simp only [World.size_alloc, World.size_setCell, World.size_drew, size_put]); omega) | (simp; done)))⟩
                case round =>
                  obtain ⟨j, hj, rfl, Hj, hBq⟩ := hrel
                  have hzq := hBq.size
                  have e1q := (hBq.cell (p := ⟨b, _, none⟩) hbw).trans hc1
                  have e1q : wr.cell? ⟨b, off + 1, none⟩ = some (.slice x.sr.a x.sr.n x.sr.c) := by simpa using e1q
                  by_cases hlj : j < x.sr.n
                  · obtain ⟨b2, off2, y2, -, -, Hy2, Hy20, -, -, -, -⟩ := Hxa.out.rd.rt hlj
                    have Hy2a := Lib.hid (Hxa.out.all y2 (List.mem_of_getElem? Hy20.out))
                    have Ht := Lib.hid (lifts_take Hy20.out)
                    rw [Hy2.out] at Hj
                    have Hc := fun w' (h : Below w.heap.size w w') => ref33_rate x.sr x.rates j y2 w' (Hxa.out.rd.toW h) Hy20.out (Hy2a.out.toW h)
                    generalize hacc : (x.rates.take j).map RT.lift = acc at Hj Ht Hc
                    clear hacc
                    generalize hR : rateE acc y2 = R at Hc
                    have HRR := Lib.hid hR
                    clear hR
                    have Hc := Lib.hid Hc
                    by_cases hR0 : R = 0
                    · subst hR0
                      go_wp2_with fail
                      refine (Hc.out _ (by (repeat' (first | (with_reducible exact Below.refl _ _) | (with_reducible exact Nat.le_refl _) | (with_reducible assumption) | (with_reducible refine below_step ?_ ?_ hr) | (with_reducible refine below_over ?_ ?_ _) | (with_reducible refine Below.alloc ?_ ?_ _) | (with_reducible refine Below.setCell ?_ ?_ _) | (with_reducible refine below_put ?_ ?_ _) | (with_reducible refine Below.drew ?_) | (with_reducible refine below_drewN_ ?_ _) | (with_reducible refine le_drewN ?_ _) | (with_reducible refine over_le _ _ _ ?_) | (with_reducible refine le_alloc ?_ _) | (with_reducible refine le_setCell ?_ _ _) | (with_reducible refine le_put ?_ _ _) | (with_reducible refine le_drew ?_) | dsimp only | omega | ((try simp only [World.size_alloc, World.size_setCell, World.size_drew, size_put]); omega) | (simp; done))))).mono ?_
                      rintro e w2 hg
                      obtain ⟨rfl, hb⟩ := hg.below
                      clear hg
                      have hz := hb.size
                      (try simp only [World.size_alloc, World.size_setCell, World.size_drew, size_put] at hz)
                      have hB : Below w.heap.size w w2 := below_step (by (repeat' (first | (with_reducible exact Below.refl _ _) | (with_reducible exact Nat.le_refl _) | (with_reducible assumption) | (with_reducible refine below_step ?_ ?_ hr) | (with_reducible refine below_over ?_ ?_ _) | (with_reducible refine Below.alloc ?_ ?_ _) | (with_reducible refine Below.setCell ?_ ?_ _) | (with_reducible refine below_put ?_ ?_ _) | (with_reducible refine Below.drew ?_) | (with_reducible refine below_drewN_ ?_ _) | (with_reducible refine le_drewN ?_ _) | (with_reducible refine over_le _ _ _ ?_) | (with_reducible refine le_alloc ?_ _) | (with_reducible refine le_setCell ?_ _ _) | (with_reducible refine le_put ?_ _ _) | (with_reducible refine le_drew ?_) | dsimp only | omega | ((try simp only [World.size_alloc, World.size_setCell, World.size_drew, size_put]); omega) | (simp; done)))) (by (first | omega | ((try simp only [World.size_alloc, World.size_setCell, World.size_drew, size_put]); omega))) hb
                      clear hb
                      go_wp2_with fail
                      go_roundw
                      case rel => exact ⟨j + 1, by omega, by go_num, Lib.hid (by go_light; rw [Ht.out, ← Hj.out, ratesL_go HRR.out]), by go_light; (repeat' (first | (with_reducible exact Below.refl _ _) | (with_reducible exact Nat.le_refl _) | (with_reducible assumption) | (with_reducible refine below_step ?_ ?_ hr) | (with_reducible refine below_over ?_ ?_ _) | (with_reducible refine Below.alloc ?_ ?_ _) | (with_reducible refine Below.setCell ?_ ?_ _) | (with_reducible refine below_put ?_ ?_ _) | (with_reducible refine Below.drew ?_) | (with_reducible refine below_drewN_ ?_ _) | (with_reducible refine le_drewN ?_ _) | (with_reducible refine over_le _ _ _ ?_) | (with_reducible refine le_alloc ?_ _) | (with_reducible refine le_setCell ?_ _ _) | (with_reducible refine le_put ?_ _ _) | (with_reducible refine le_drew ?_) | dsimp only | omega | ((try simp only [World.size_alloc, World.size_setCell, World.size_drew, size_put]); omega) | (simp; done)))⟩
                      case measure => simp [intOf]; omega
                    · have hRb : (R != 0) = true := by simpa using hR0
                      have HR0 := Lib.hid hR0
                      clear hR0
                      have HE2 : Hid (tarE P x = R) := by show _ = _; rw [HE.out, ← Hj.out, ratesL_stop HRR.out HR0.out]
                      go_wp2_with fail
                      refine (Hc.out _ (by (repeat' (first | (with_reducible exact Below.refl _ _) | (with_reducible exact Nat.le_refl _) | (with_reducible assumption) | (with_reducible refine below_step ?_ ?_ hr) | (with_reducible refine below_over ?_ ?_ _) | (with_reducible refine Below.alloc ?_ ?_ _) | (with_reducible refine Below.setCell ?_ ?_ _) | (with_reducible refine below_put ?_ ?_ _) | (with_reducible refine Below.drew ?_) | (with_reducible refine below_drewN_ ?_ _) | (with_reducible refine le_drewN ?_ _) | (with_reducible refine over_le _ _ _ ?_) | (with_reducible refine le_alloc ?_ _) | (with_reducible refine le_setCell ?_ _ _) | (with_reducible refine le_put ?_ _ _) | (with_reducible refine le_drew ?_) | dsimp only | omega | ((try simp only [World.size_alloc, World.size_setCell, World.size_drew, size_put]); omega) | (simp; done))))).mono ?_
                      rintro e w2 hg
                      obtain ⟨rfl, hb⟩ := hg.below
                      clear hg
                      have hz := hb.size
                      (try simp only [World.size_alloc, World.size_setCell, World.size_drew, size_put] at hz)
                      have hB : Below w.heap.size w w2 := below_step (by (repeat' (first | (with_reducible exact Below.refl _ _) | (with_reducible exact Nat.le_refl _) | (with_reducible assumption) | (with_reducible refine below_step ?_ ?_ hr) | (with_reducible refine below_over ?_ ?_ _) | (with_reducible refine Below.alloc ?_ ?_ _) | (with_reducible refine Below.setCell ?_ ?_ _) | (with_reducible refine below_put ?_ ?_ _) | (with_reducible refine Below.drew ?_) | (with_reducible refine below_drewN_ ?_ _) | (with_reducible refine le_drewN ?_ _) | (with_reducible refine over_le _ _ _ ?_) | (with_reducible refine le_alloc ?_ _) | (with_reducible refine le_setCell ?_ _ _) | (with_reducible refine le_put ?_ _ _) | (with_reducible refine le_drew ?_) | dsimp only | omega | ((try simp only [World.size_alloc, World.size_setCell, World.size_drew, size_put]); omega) | (simp; done)))) (by (first | omega | ((try simp only [World.size_alloc, World.size_setCell, World.size_drew, size_put]); omega))) hb
                      clear hb
                      go_wp2_with fail
                      go_ret
                      exact gives_of (ret_int (by go_light; have h := HE2.out; rw [← Hl.out, tarsL_stop h HR0.out])) (by go_light; (repeat' (first | (with_reducible exact Below.refl _ _) | (with_reducible exact Nat.le_refl _) | (with_reducible assumption) | (with_reducible refine below_step ?_ ?_ hr) | (with_reducible refine below_over ?_ ?_ _) | (with_reducible refine Below.alloc ?_ ?_ _) | (with_reducible refine Below.setCell ?_ ?_ _) | (with_reducible refine below_put ?_ ?_ _) | (with_reducible refine Below.drew ?_) | (with_reducible refine below_drewN_ ?_ _) | (with_reducible refine le_drewN ?_ _) | (with_reducible refine over_le _ _ _ ?_) | (with_reducible refine le_alloc ?_ _) | (with_reducible refine le_setCell ?_ _ _) | (with_reducible refine le_put ?_ _ _) | (with_reducible refine le_drew ?_) | dsimp only | omega | ((try simp only [World.size_alloc, World.size_setCell, World.size_drew, size_put]); omega) | (simp; done))))
                  · have HE2 : Hid (tarE P x = 0) := by show _ = _; rw [HE.out, ← Hj.out, Hxa.out.rd.done_ hlj]; rfl
                    go_wp2_with fail
                    go_roundw
                    case rel => exact ⟨0 + 1, by omega, by go_num, Lib.hid (by go_light; rw [Hp.out, ← Hl.out, tarsL_go HE2.out]), by go_light; (repeat' (first | (with_reducible exact Below.refl _ _) | (with_reducible exact Nat.le_refl _) | (with_reducible assumption) | (with_reducible refine below_step ?_ ?_ hr) | (with_reducible refine below_over ?_ ?_ _) | (with_reducible refine Below.alloc ?_ ?_ _) | (with_reducible refine Below.setCell ?_ ?_ _) | (with_reducible refine below_put ?_ ?_ _) | (with_reducible refine Below.drew ?_) | (with_reducible refine below_drewN_ ?_ _) | (with_reducible refine le_drewN ?_ _) | (with_reducible refine over_le _ _ _ ?_) | (with_reducible refine le_alloc ?_ _) | (with_reducible refine le_setCell ?_ _ _) | (with_reducible refine le_put ?_ _ _) | (with_reducible refine le_drew ?_) | dsimp only | omega | ((try simp only [World.size_alloc, World.size_setCell, World.size_drew, size_put]); omega) | (simp; done)))⟩
                    case measure => simp [intOf]; omega
          · obtain ⟨b', off', y, heq, -, -, Hy0, hd0, hd1⟩ := Hs.out.rd.tf (show k - 1 < n by omega)
            obtain ⟨rfl, rfl⟩ : b = b' ∧ off = off' := by simpa using heq
            have e5 := (hB.cell (p := ⟨b, _, none⟩) hbw).trans hd0
            clear heq hd0 hd1
            obtain ⟨P, hP⟩ : ∃ P, P = prevF xs k := ⟨_, rfl⟩
            rw [← hP] at Hl
            have HPn : Hid (P = some y.from_) := by show P = _; rw [hP, prevF, if_neg hk0, Hy0.out]; rfl
            clear hP
            have hk1 : 0 < k := by omega
            have hkb : ((k : Int) == 0) = false := by simpa using hk0
            clear hk0
            have e2 : 0 ≤ (k : Int) - 1 := by omega
            have e3 : IntKind.i64.wrap ((k : Int) - 1) = (k : Int) - 1 := IntWalk.i64_in _ (by omega)
            have e4 : ((k : Int) - 1).toNat = k - 1 := by omega
            by_cases hr : x.from_ < 0 ∨ 20000000 < x.from_
            · have HE : Hid (tarE P x = 2) := by show tarE P x = 2; rw [tarE, if_pos (by rcases hr with hr | hr; exact .inl hr; exact .inr (.inl hr))]
              have Hr := Lib.hid hr
              clear hr e2 e3 e4
              go_wp2_with fail
              all_goals first
                | (go_ret; exact gives_of (ret_int (by go_light; have h := HE.out; rw [← Hl.out, tarsL_stop h (by decide)])) (by go_light; (repeat' (first | (with_reducible exact Below.refl _ _) | (with_reducible exact Nat.le_refl _) | (with_reducible assumption) | (with_reducible refine below_step ?_ ?_ hr) | (with_reducible refine below_over ?_ ?_ _) | (with_reducible refine Below.alloc ?_ ?_ _) | (with_reducible refine Below.setCell ?_ ?_ _) | (with_reducible refine below_put ?_ ?_ _) | (with_reducible refine Below.drew ?_) | (with_reducible refine below_drewN_ ?_ _) | (with_reducible refine le_drewN ?_ _) | (with_reducible refine over_le _ _ _ ?_) | (with_reducible refine le_alloc ?_ _) | (with_reducible refine le_setCell ?_ _ _) | (with_reducible refine le_put ?_ _ _) | (with_reducible refine le_drew ?_) | dsimp only | omega | ((try simp only [World.size_alloc, World.size_setCell, World.size_drew, size_put]); omega) | (simp; done)))))
                | (exfalso; go_light; have h := Hr.out; (try simp at *); omega)
            · have HR : Hid (¬ (x.from_ < 0 ∨ 20000000 < x.from_ ∨ firstBad P x.from_ = true)) := by
                show ¬ _
                rw [HPn.out]
                simp [firstBad]; omega
              have h2 : ¬ x.from_ < 0 := by omega
              have h3 : ¬ 20000000 < x.from_ := by omega
              clear hr
              by_cases ho : x.from_ ≤ y.from_
              · have HE : Hid (tarE P x = 11) := by show tarE P x = 11; rw [tarE, if_neg HR.out, if_pos (by rw [HPn.out]; simpa [ordBad] using ho)]
                go_wp2_with fail
                all_goals refine wp_region_over (by kernel_rfl) (by kernel_rfl) ?_
                repeat (any_goals (first | go_big_quiet_step ((fail)) | (refine wpQuiet_step (fun K hK => ?_); go_simp; split <;> (refine hK _ ?_; clear hK K)) | quiet_step ((fail))))
                all_goals (refine wpQuiet_nil ?_; intro _ hw'; obtain ⟨xq, hw''⟩ := hw'; have hz := size_of hw''; (try simp only [World.size_alloc, World.size_setCell, World.size_drew] at hz); subst hw'')
                clear e2 e3 e4
                go_wp2_with fail
                go_ret
                exact gives_of (ret_int (by go_light; have h := HE.out; rw [← Hl.out, tarsL_stop h (by decide)])) (by go_light; (repeat' (first | (with_reducible exact Below.refl _ _) | (with_reducible exact Nat.le_refl _) | (with_reducible assumption) | (with_reducible refine below_step ?_ ?_ hr) | (with_reducible refine below_over ?_ ?_ _) | (with_reducible refine Below.alloc ?_ ?_ _) | (with_reducible refine Below.setCell ?_ ?_ _) | (with_reducible refine below_put ?_ ?_ _) | (with_reducible refine Below.drew ?_) | (with_reducible refine below_drewN_ ?_ _) | (with_reducible refine le_drewN ?_ _) | (with_reducible refine over_le _ _ _ ?_) | (with_reducible refine le_alloc ?_ _) | (with_reducible refine le_setCell ?_ _ _) | (with_reducible refine le_put ?_ _ _) | (with_reducible refine le_drew ?_) | dsimp only | omega | ((try simp only [World.size_alloc, World.size_setCell, World.size_drew, size_put]); omega) | (simp; done))))
              · have HO : Hid (ordBad P x.from_ = false) := by show _ = _; rw [HPn.out]; simpa [ordBad] using ho
                by_cases hm32 : 32 < x.sr.n
                · have HE : Hid (tarE P x = 4) := by show tarE P x = 4; rw [tarE, if_neg HR.out, if_neg (by rw [HO.out]; simp), Hm.out, if_pos hm32]
                  go_wp2_with fail
                  all_goals refine wp_region_over (by kernel_rfl) (by kernel_rfl) ?_
                  repeat (any_goals (first | go_big_quiet_step ((fail)) | (refine wpQuiet_step (fun K hK => ?_); go_simp; split <;> (refine hK _ ?_; clear hK K)) | quiet_step ((fail))))
                  all_goals (refine wpQuiet_nil ?_; intro _ hw'; obtain ⟨xq, hw''⟩ := hw'; have hz := size_of hw''; (try simp only [World.size_alloc, World.size_setCell, World.size_drew] at hz); subst hw'')
                  clear e2 e3 e4
                  go_wp2_with fail
                  go_ret
                  exact gives_of (ret_int (by go_light; have h := HE.out; rw [← Hl.out, tarsL_stop h (by decide)])) (by go_light; (repeat' (first | (with_reducible exact Below.refl _ _) | (with_reducible exact Nat.le_refl _) | (with_reducible assumption) | (with_reducible refine below_step ?_ ?_ hr) | (with_reducible refine below_over ?_ ?_ _) | (with_reducible refine Below.alloc ?_ ?_ _) | (with_reducible refine Below.setCell ?_ ?_ _) | (with_reducible refine below_put ?_ ?_ _) | (with_reducible refine Below.drew ?_) | (with_reducible refine below_drewN_ ?_ _) | (with_reducible refine le_drewN ?_ _) | (with_reducible refine over_le _ _ _ ?_) | (with_reducible refine le_alloc ?_ _) | (with_reducible refine le_setCell ?_ _ _) | (with_reducible refine le_put ?_ _ _) | (with_reducible refine le_drew ?_) | dsimp only | omega | ((try simp only [World.size_alloc, World.size_setCell, World.size_drew, size_put]); omega) | (simp; done))))
                · have HE : Hid (tarE P x = ratesF x.rates) := by show tarE P x = _; rw [tarE, if_neg HR.out, if_neg (by rw [HO.out]; simp), Hm.out, if_neg hm32]
                  go_wp2_with fail
                  all_goals refine wp_region_over (by kernel_rfl) (by kernel_rfl) ?_
                  repeat (any_goals (first | go_big_quiet_step ((fail)) | (refine wpQuiet_step (fun K hK => ?_); go_simp; split <;> (refine hK _ ?_; clear hK K)) | quiet_step ((fail))))
                  all_goals (refine wpQuiet_nil ?_; intro w1 hw'; have hb := below_of_ex hw'; clear hw'; have hz := hb.size; (try simp only [World.size_alloc, World.size_setCell, World.size_drew, size_put] at hz); have hB : Below w.heap.size w w1 := below_step (by (repeat' (first | (with_reducible exact Below.refl _ _) | (with_reducible exact Nat.le_refl _) | (with_reducible assumption) | (with_reducible refine below_step ?_ ?_ hr) | (with_reducible refine below_over ?_ ?_ _) | (with_reducible refine Below.alloc ?_ ?_ _) | (with_reducible refine Below.setCell ?_ ?_ _) | (with_reducible refine below_put ?_ ?_ _) | (with_reducible refine Below.drew ?_) | (with_reducible refine below_drewN_ ?_ _) | (with_reducible refine le_drewN ?_ _) | (with_reducible refine over_le _ _ _ ?_) | (with_reducible refine le_alloc ?_ _) | (with_reducible refine le_setCell ?_ _ _) | (with_reducible refine le_put ?_ _ _) | (with_reducible refine le_drew ?_) | dsimp only | omega | ((try simp only [World.size_alloc, World.size_setCell, World.size_drew, size_put]); omega) | (simp; done)))) (by (first | omega | ((try simp only [World.size_alloc, World.size_setCell, World.size_drew, size_put]); omega))) hb; clear hb)
                  clear e2 e3 e4
                  have e1' := (hB.cell (p := ⟨b, _, none⟩) hbw).trans hc1
                  go_wp2_with fail
                  go_loopw [4] (fun q wq => ∃ j : Nat, j ≤ x.sr.n ∧ q = .int .i64 j ∧ Hid (ratesL ((x.rates.take j).map RT.lift) (x.rates.drop j) = ratesF x.rates) ∧ Below w.heap.size w wq) (fun q _ => x.sr.n - (intOf q).toNat)
                  case atStart => exact ⟨0, Nat.zero_le _, rfl, rfl, by go_light; (repeat' (first | (with_reducible exact Below.refl _ _) | (with_reducible exact Nat.le_refl _) | (with_reducible assumption) | (with_reducible refine below_step ?_ ?_ hr) | (with_reducible refine below_over ?_ ?_ _) | (with_reducible refine Below.alloc ?_ ?_ _) | (with_reducible refine Below.setCell ?_ ?_ _) | (with_reducible refine below_put ?_ ?_ _) | (with_reducible refine Below.drew ?_) | (with_reducible refine below_drewN_ ?_ _) | (with_reducible refine le_drewN ?_ _) | (with_reducible refine over_le _ _ _ ?_) | (with_reducible refine le_alloc ?_ _) | (with_reducible refine le_setCell ?_ _ _) | (with_reducible refine le_put ?_ _ _) | (with_reducible refine le_drew ?_) | dsimp only | omega | ((try simp only [World.size_alloc, World.size_setCell, World.size_drew, size_put]); omega) | (simp; done)))⟩
                  case round =>
                    obtain ⟨j, hj, rfl, Hj, hBq⟩ := hrel
                    have hzq := hBq.size
                    have e1q := (hBq.cell (p := ⟨b, _, none⟩) hbw).trans hc1
                    by_cases hlj : j < x.sr.n
                    · obtain ⟨b2, off2, y2, -, -, Hy2, Hy20, -, -, -, -⟩ := Hxa.out.rd.rt hlj
                      have Hy2a := Lib.hid (Hxa.out.all y2 (List.mem_of_getElem? Hy20.out))
                      have Ht := Lib.hid (lifts_take Hy20.out)
                      rw [Hy2.out] at Hj
                      have Hc := fun w' (h : Below w.heap.size w w') => ref33_rate x.sr x.rates j y2 w' (Hxa.out.rd.toW h) Hy20.out (Hy2a.out.toW h)
                      generalize hacc : (x.rates.take j).map RT.lift = acc at Hj Ht Hc
                      clear hacc
                      generalize hR : rateE acc y2 = R at Hc
                      have HRR := Lib.hid hR
                      clear hR
                      have Hc := Lib.hid Hc
                      by_cases hR0 : R = 0
                      · subst hR0
                        go_wp2_with fail
                        refine (Hc.out _ (by (repeat' (first | (with_reducible exact Below.refl _ _) | (with_reducible exact Nat.le_refl _) | (with_reducible assumption) | (with_reducible refine below_step ?_ ?_ hr) | (with_reducible refine below_over ?_ ?_ _) | (with_reducible refine Below.alloc ?_ ?_ _) | (with_reducible refine Below.setCell ?_ ?_ _) | (with_reducible refine below_put ?_ ?_ _) | (with_reducible refine Below.drew ?_) | (with_reducible refine below_drewN_ ?_ _) | (with_reducible refine le_drewN ?_ _) | (with_reducible refine over_le _ _ _ ?_) | (with_reducible refine le_alloc ?_ _) | (with_reducible refine le_setCell ?_ _ _) | (with_reducible refine le_put ?_ _ _) | (with_reducible refine le_drew ?_) | dsimp only | omega | ((try simp only [World.size_alloc, World.size_setCell, World.size_drew, size_put]); omega) | (simp; done))))).mono ?_
                        rintro e w2 hg
                        obtain ⟨rfl, hb⟩ := hg.below
                        clear hg
                        have hz := hb.size
                        (try simp only [World.size_alloc, World.size_setCell, World.size_drew, size_put] at hz)
                        have hB : Below w.heap.size w w2 := below_step (by (repeat' (first | (with_reducible exact Below.refl _ _) | (with_reducible exact Nat.le_refl _) | (with_reducible assumption) | (with_reducible refine below_step ?_ ?_ hr) | (with_reducible refine below_over ?_ ?_ _) | (with_reducible refine Below.alloc ?_ ?_ _) | (with_reducible refine Below.setCell ?_ ?_ _) | (with_reducible refine below_put ?_ ?_ _) | (with_reducible refine Below.drew ?_) | (with_reducible refine below_drewN_ ?_ _) | (with_reducible refine le_drewN ?_ _) | (with_reducible refine over_le _ _ _ ?_) | (with_reducible refine le_alloc ?_ _) | (with_reducible refine le_setCell ?_ _ _) | (with_reducible refine le_put ?_ _ _) | (with_reducible refine le_drew ?_) | dsimp only | omega | ((try simp only [World.size_alloc, World.size_setCell, World.size_drew, size_put]); omega) | (simp; done)))) (by (first | omega | ((try simp only [World.size_alloc, World.size_setCell, World.size_drew, size_put]); omega))) hb
                        clear hb
                        go_wp2_with fail
                        go_roundw
                        case rel => exact ⟨j + 1, by omega, by go_num, Lib.hid (by go_light; rw [Ht.out, ← Hj.out, ratesL_go HRR.out]), by go_light; (repeat' (first | (with_reducible exact Below.refl _ _) | (with_reducible exact Nat.le_refl _) | (with_reducible assumption) | (with_reducible refine below_step ?_ ?_ hr) | (with_reducible refine below_over ?_ ?_ _) | (with_reducible refine Below.alloc ?_ ?_ _) | (with_reducible refine Below.setCell ?_ ?_ _) | (with_reducible refine below_put ?_ ?_ _) | (with_reducible refine Below.drew ?_) | (with_reducible refine below_drewN_ ?_ _) | (with_reducible refine le_drewN ?_ _) | (with_reducible refine over_le _ _ _ ?_) | (with_reducible refine le_alloc ?_ _) | (with_reducible refine le_setCell ?_ _ _) | (with_reducible refine le_put ?_ _ _) | (with_reducible refine le_drew ?_) | dsimp only | omega | ((try simp only [World.size_alloc, World.size_setCell, World.size_drew, size_put]); omega) | (simp; done)))⟩
                        case measure => simp [intOf]; omega
                      · have hRb : (R != 0) = true := by simpa using hR0
                        have HR0 := Lib.hid hR0
                        clear hR0
                        have HE2 : Hid (tarE P x = R) := by show _ = _; rw [HE.out, ← Hj.out, ratesL_stop HRR.out HR0.out]
                        go_wp2_with fail
                        refine (Hc.out _ (by (repeat' (first | (with_reducible exact Below.refl _ _) | (with_reducible exact Nat.le_refl _) | (with_reducible assumption) | (with_reducible refine below_step ?_ ?_ hr) | (with_reducible refine below_over ?_ ?_ _) | (with_reducible refine Below.alloc ?_ ?_ _) | (with_reducible refine Below.setCell ?_ ?_ _) | (with_reducible refine below_put ?_ ?_ _) | (with_reducible refine Below.drew ?_) | (with_reducible refine below_drewN_ ?_ _) | (with_reducible refine le_drewN ?_ _) | (with_reducible refine over_le _ _ _ ?_) | (with_reducible refine le_alloc ?_ _) | (with_reducible refine le_setCell ?_ _ _) | (with_reducible refine le_put ?_ _ _) | (with_reducible refine le_drew ?_) | dsimp only | omega | ((try simp only [World.size_alloc, World.size_setCell, World.size_drew, size_put]); omega) | (simp; done))))).mono ?_
                        rintro e w2 hg
                        obtain ⟨rfl, hb⟩ := hg.below
                        clear hg
                        have hz := hb.size
                        (try simp only [World.size_alloc, World.size_setCell, World.size_drew, size_put] at hz)
                        have hB : Below w.heap.size w w2 := below_step (by (repeat' (first | (with_reducible exact Below.refl _ _) | (with_reducible exact Nat.le_refl _) | (with_reducible assumption) | (with_reducible refine below_step ?_ ?_ hr) | (with_reducible refine below_over ?_ ?_ _) | (with_reducible refine Below.alloc ?_ ?_ _) | (with_reducible refine Below.setCell ?_ ?_ _) | (with_reducible refine below_put ?_ ?_ _) | (with_reducible refine Below.drew ?_) | (with_reducible refine below_drewN_ ?_ _) | (with_reducible refine le_drewN ?_ _) | (with_reducible refine over_le _ _ _ ?_) | (with_reducible refine le_alloc ?_ _) | (with_reducible refine le_setCell ?_ _ _) | (with_reducible refine le_put ?_ _ _) | (with_reducible refine le_drew ?_) | dsimp only | omega | ((try simp only [World.size_alloc, World.size_setCell, World.size_drew, size_put]); omega) | (simp; done)))) (by (first | omega | ((try simp only [World.size_alloc, World.size_setCell, World.size_drew, size_put]); omega))) hb
                        clear hb
                        go_wp2_with fail
                        go_ret
                        exact gives_of (ret_int (by go_light; have h := HE2.out; rw [← Hl.out, tarsL_stop h HR0.out])) (by go_light; (repeat' (first | (with_reducible exact Below.refl _ _) | (with_reducible exact Nat.le_refl _) | (with_reducible assumption) | (with_reducible refine below_step ?_ ?_ hr) | (with_reducible refine below_over ?_ ?_ _) | (with_reducible refine Below.alloc ?_ ?_ _) | (with_reducible refine Below.setCell ?_ ?_ _) | (with_reducible refine below_put ?_ ?_ _) | (with_reducible refine Below.drew ?_) | (with_reducible refine below_drewN_ ?_ _) | (with_reducible refine le_drewN ?_ _) | (with_reducible refine over_le _ _ _ ?_) | (with_reducible refine le_alloc ?_ _) | (with_reducible refine le_setCell ?_ _ _) | (with_reducible refine le_put ?_ _ _) | (with_reducible refine le_drew ?_) | dsimp only | omega | ((try simp only [World.size_alloc, World.size_setCell, World.size_drew, size_put]); omega) | (simp; done))))
                    · have HE2 : Hid (tarE P x = 0) := by show _ = _; rw [HE.out, ← Hj.out, Hxa.out.rd.done_ hlj]; rfl
                      go_wp2_with fail
                      go_roundw
                      case rel => exact ⟨k + 1, by omega, by go_num, Lib.hid (by go_light; rw [Hp.out, ← Hl.out, tarsL_go HE2.out]), by go_light; (repeat' (first | (with_reducible exact Below.refl _ _) | (with_reducible exact Nat.le_refl _) | (with_reducible assumption) | (with_reducible refine below_step ?_ ?_ hr) | (with_reducible refine below_over ?_ ?_ _) | (with_reducible refine Below.alloc ?_ ?_ _) | (with_reducible refine Below.setCell ?_ ?_ _) | (with_reducible refine below_put ?_ ?_ _) | (with_reducible refine Below.drew ?_) | (with_reducible refine below_drewN_ ?_ _) | (with_reducible refine le_drewN ?_ _) | (with_reducible refine over_le _ _ _ ?_) | (with_reducible refine le_alloc ?_ _) | (with_reducible refine le_setCell ?_ _ _) | (with_reducible refine le_put ?_ _ _) | (with_reducible refine le_drew ?_) | dsimp only | omega | ((try simp only [World.size_alloc, World.size_setCell, World.size_drew, size_put]); omega) | (simp; done)))⟩
                      case measure => simp [intOf]; omega
        · have HE : Hid (V = 0) := by show V = 0; rw [← Hl.out, Hs.out.rd.done_ hlt]; cases prevF xs k <;> rfl
          go_wp2
          go_ret
          exact gives_of (ret_int HE.out.symm) (by go_light; (repeat' (first | (with_reducible exact Below.refl _ _) | (with_reducible exact Nat.le_refl _) | (with_reducible assumption) | (with_reducible refine below_step ?_ ?_ hr) | (with_reducible refine below_over ?_ ?_ _) | (with_reducible refine Below.alloc ?_ ?_ _) | (with_reducible refine Below.setCell ?_ ?_ _) | (with_reducible refine below_put ?_ ?_ _) | (with_reducible refine Below.drew ?_) | (with_reducible refine below_drewN_ ?_ _) | (with_reducible refine le_drewN ?_ _) | (with_reducible refine over_le _ _ _ ?_) | (with_reducible refine le_alloc ?_ _) | (with_reducible refine le_setCell ?_ _ _) | (with_reducible refine le_put ?_ _ _) | (with_reducible refine le_drew ?_) | dsimp only | omega | ((try simp only [World.size_alloc, World.size_setCell, World.size_drew, size_put]); omega) | (simp; done))))
end Go.Proofs.Ytidefepnkhkkiaa
