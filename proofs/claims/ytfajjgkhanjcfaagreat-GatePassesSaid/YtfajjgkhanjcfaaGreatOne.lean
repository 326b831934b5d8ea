/- Products: the reference's check of one product, as a plain function. -/
import Derived.Test.YtfajjgkhanjcfaaGreatOne0
namespace Go.Proofs.YtfajjgkhanjcfaaGreat
set_option linter.unusedSimpArgs false
set_option linter.unusedVariables false
open Go.RowKit
theorem incL_step0 {xs : List Int} {x : Int} (hx : xs.drop 0 = x :: xs.drop (0 + 1)) (h0 : xs[0]? = some x) (h : incL (prevAt xs 0) (xs.drop 0) = incL none xs) (ha : ¬ (x < 1 ∨ 8 < x)) : incL (prevAt xs 1) (xs.drop 1) = incL none xs := by
  rw [hx] at h
  have e : prevAt xs 1 = some x := h0
  rw [e, ← h]
  show _ = if x < 1 ∨ 8 < x then false else incL (some x) (xs.drop (0 + 1))
  rw [if_neg ha]
theorem incL_step {xs : List Int} {x y : Int} {k : Nat} (hx : xs.drop k = x :: xs.drop (k + 1)) (h0 : xs[k]? = some x) (hk : 0 < k) (hy : xs[k - 1]? = some y) (h : incL (prevAt xs k) (xs.drop k) = incL none xs) (ha : ¬ ((x < 1 ∨ 8 < x) ∨ x ≤ y)) : incL (prevAt xs (k + 1)) (xs.drop (k + 1)) = incL none xs := by
  rw [hx] at h
  have e : prevAt xs (k + 1) = some x := by simp [prevAt, h0]
  have e' : prevAt xs k = some y := by simp [prevAt, hy]; omega
  rw [e, ← h, e']
  show _ = if (x < 1 ∨ 8 < x) ∨ x ≤ y then false else incL (some x) (xs.drop (k + 1))
  rw [if_neg ha]
set_option maxRecDepth 100000 in
set_option maxHeartbeats 4000000 in
theorem ref22_one_good (p : PD) (s : Sl) (es : List PD) (w : World) (hp : p.at_ w) (hs : Rd w PD.enc s es) (hgood : rangeBad p = false) : Calls Tryz.prog 34 #[p.val, s.val] w (Gives (.int .i64 (oneF p es)) w) := by
  obtain ⟨pid, kind, units, least, most, ⟨A, n, c⟩, ⟨hA, hn, hc⟩, sf, st, price, xs, hours⟩ := p
  obtain ⟨eA, en, ec⟩ := s
  have hmax : n ≤ 9223372036854775807 := hp.ops.bound
  have emax : en ≤ 9223372036854775807 := hs.bound
  have Hr := Lib.hid hp.ops
  have Hh := Lib.hid hp.hours
  have He := Lib.hid hs
  have HR := Lib.hid hgood
  clear hp hs hgood
  simp only [PD.val, Sl.val]
  (go_enter Tryz.func34, Tryz.ntmps34; try dsimp only [List.append])
  go_upto_if 10 with fail
  go_cut [5] (fun s5 wx => s5 = .int .i64 (mostF kind) ∧ w.alloc (.cells #[.int .i64 pid, .int .i64 kind, .int .i64 units, .int .i64 least, .int .i64 most, .slice A n c, .slice hA hn hc, .int .i64 sf, .int .i64 st, .int .i64 price] 56) = wx)
  case first =>
    rcases kind4 kind with rfl | rfl | rfl | ⟨h0, h1, h2⟩
    all_goals go_wp2
    all_goals go_meet
    all_goals (case rel => exact ⟨by simp_all [mostF], rfl⟩)
  case rest =>
    obtain ⟨rfl, rfl⟩ := hcut
    go_upto_region 4 with fail
    go_cut [74] (fun s74 wx => s74 = .bool false ∧ w.alloc (.cells #[.int .i64 pid, .int .i64 kind, .int .i64 units, .int .i64 least, .int .i64 most, .slice A n c, .slice hA hn hc, .int .i64 sf, .int .i64 st, .int .i64 price] 56) = wx)
    case first =>
      obtain ⟨g1, g2, g3, g4, g5, g6, g7, g8, g9, g10, g11⟩ := range_facts HR.out
      dsimp only at g1 g2 g3 g4 g5 g6 g7 g8 g9 g10 g11
      have n1 : ¬ pid < 1 := by omega
      have n2 : ¬ 9999 < pid := by omega
      have n3 : ¬ units < 1 := by omega
      have n4 : ¬ mostF kind < units := by omega
      have n5 : ¬ least < 0 := by omega
      have n6 : ¬ 120 < least := by omega
      have n7 : ¬ most < 0 := by omega
      have n8 : ¬ 120 < most := by omega
      have n9 : ¬ price < 0 := by omega
      have n10 : ¬ 100000000 < price := by omega
      clear g1 g2 g4 g5 g6 g7 g8 g9 g10 g11
      rcases g3 with rfl | rfl | rfl
      all_goals go_wp2
      all_goals go_meet
      all_goals (case rel => exact ⟨rfl, rfl⟩)
    case rest =>
      obtain ⟨rfl, rfl⟩ := hcut
      go_wp2
      go_loopw [6] (fun i wr => ∃ k : Nat, k ≤ en ∧ i = .int .i64 k ∧ Hid (twiceF pid (es.drop k) = twiceF pid es) ∧ ∃ x, wr = Over (w.alloc (.cells #[.int .i64 pid, .int .i64 kind, .int .i64 units, .int .i64 least, .int .i64 most, .slice A n c, .slice hA hn hc, .int .i64 sf, .int .i64 st, .int .i64 price] 56)) x) (fun i _ => en - (intOf i).toNat)
      case atStart => exact ⟨0, Nat.zero_le _, rfl, rfl, over_ex (Below.refl _ _)⟩
      case round =>
        obtain ⟨k, hk, rfl, Hl, x0, rfl⟩ := hrel
        by_cases hlt : k < en
        · obtain ⟨b, off, x, rfl, hbw, Hx, -, hc0, hc1, hc2, hc3, hc4, hc5, hc6, hc7, hc8, hc9⟩ := He.out.pd hlt
          clear hc1 hc2 hc3 hc4 hc5 hc6 hc7 hc8 hc9
          go_wp2
          all_goals refine wp_region_over (by kernel_rfl) (by kernel_rfl) ?_
          repeat (any_goals (first | go_big_quiet_step ((fail)) | (refine wpQuiet_step (fun K hK => ?_); go_simp; split <;> (refine hK _ ?_; clear hK K)) | quiet_step ((fail))))
          all_goals (refine wpQuiet_nil ?_; intro _ hw'; obtain ⟨xq, hw''⟩ := hw'; have hz := size_of hw''; (try simp only [World.size_alloc, World.size_setCell, World.size_drew] at hz); subst hw'')
          go_wp2
          · go_ret
            exact gives_of (ret_int (by go_light; have h1 := Hl.out; rw [Hx.out] at h1; have h2 := HR.out; clear Hl Hx HR Hr Hh He; simp_all [oneF, twiceF])) (by go_light; (repeat' (first | (with_reducible exact Below.refl _ _) | (with_reducible exact Nat.le_refl _) | (with_reducible assumption) | (with_reducible refine below_step ?_ ?_ hr) | (with_reducible refine below_over ?_ ?_ _) | (with_reducible refine Below.alloc ?_ ?_ _) | (with_reducible refine Below.setCell ?_ ?_ _) | (with_reducible refine below_put ?_ ?_ _) | (with_reducible refine Below.drew ?_) | (with_reducible refine below_drewN_ ?_ _) | (with_reducible refine le_drewN ?_ _) | (with_reducible refine over_le _ _ _ ?_) | (with_reducible refine le_alloc ?_ _) | (with_reducible refine le_setCell ?_ _ _) | (with_reducible refine le_put ?_ _ _) | (with_reducible refine le_drew ?_) | dsimp only | omega | ((try simp only [World.size_alloc, World.size_setCell, World.size_drew, size_put]); omega) | (simp; done))))
          · go_roundw
            case rel => exact ⟨k + 1, by omega, by go_num, Lib.hid (by go_light; have h1 := Hl.out; rw [Hx.out] at h1; clear Hl Hx HR Hr Hh He; simp_all [twiceF]), over_ex (by go_light; (repeat' (first | (with_reducible exact Below.refl _ _) | (with_reducible exact Nat.le_refl _) | (with_reducible assumption) | (with_reducible refine below_step ?_ ?_ hr) | (with_reducible refine below_over ?_ ?_ _) | (with_reducible refine Below.alloc ?_ ?_ _) | (with_reducible refine Below.setCell ?_ ?_ _) | (with_reducible refine below_put ?_ ?_ _) | (with_reducible refine Below.drew ?_) | (with_reducible refine below_drewN_ ?_ _) | (with_reducible refine le_drewN ?_ _) | (with_reducible refine over_le _ _ _ ?_) | (with_reducible refine le_alloc ?_ _) | (with_reducible refine le_setCell ?_ _ _) | (with_reducible refine le_put ?_ _ _) | (with_reducible refine le_drew ?_) | dsimp only | omega | ((try simp only [World.size_alloc, World.size_setCell, World.size_drew, size_put]); omega) | (simp; done))))⟩
            case measure => simp [intOf]; omega
        · have Ht : Hid (twiceF pid es = false) := by rw [← Hl.out, He.out.done_ hlt]; rfl
          clear Hl He
          have Hn : Hid (xs.isEmpty = decide (n = 0)) := by have := Hr.out.len; simp at this; subst this; cases xs <;> simp [Hid]
          go_wp2_with (go_at_call 57; refine (ref02_Right ⟨hA, hn, hc⟩ _ _ (Hh.out.toW (by (repeat' (first | (with_reducible exact Below.refl _ _) | (with_reducible exact Nat.le_refl _) | (with_reducible assumption) | (with_reducible refine below_step ?_ ?_ hr) | (with_reducible refine below_over ?_ ?_ _) | (with_reducible refine Below.alloc ?_ ?_ _) | (with_reducible refine Below.setCell ?_ ?_ _) | (with_reducible refine below_put ?_ ?_ _) | (with_reducible refine Below.drew ?_) | (with_reducible refine below_drewN_ ?_ _) | (with_reducible refine le_drewN ?_ _) | (with_reducible refine over_le _ _ _ ?_) | (with_reducible refine le_alloc ?_ _) | (with_reducible refine le_setCell ?_ _ _) | (with_reducible refine le_put ?_ _ _) | (with_reducible refine le_drew ?_) | dsimp only | omega | ((try simp only [World.size_alloc, World.size_setCell, World.size_drew, size_put]); omega) | (simp; done)))))).mono ?_; rintro e w' ⟨rfl, x1, hw⟩; have hz := size_of hw; (try simp only [World.size_alloc, World.size_setCell, World.size_drew] at hz); subst hw)
          rotate_right 1
          all_goals first
            | (go_ret
               refine gives_of (ret_int ?_) (by go_light; (repeat' (first | (with_reducible exact Below.refl _ _) | (with_reducible exact Nat.le_refl _) | (with_reducible assumption) | (with_reducible refine below_step ?_ ?_ hr) | (with_reducible refine below_over ?_ ?_ _) | (with_reducible refine Below.alloc ?_ ?_ _) | (with_reducible refine Below.setCell ?_ ?_ _) | (with_reducible refine below_put ?_ ?_ _) | (with_reducible refine Below.drew ?_) | (with_reducible refine below_drewN_ ?_ _) | (with_reducible refine le_drewN ?_ _) | (with_reducible refine over_le _ _ _ ?_) | (with_reducible refine le_alloc ?_ _) | (with_reducible refine le_setCell ?_ _ _) | (with_reducible refine le_put ?_ _ _) | (with_reducible refine le_drew ?_) | dsimp only | omega | ((try simp only [World.size_alloc, World.size_setCell, World.size_drew, size_put]); omega) | (simp; done))))
               go_light
               have h1 := HR.out; have h2 := Ht.out; have h3 := Hn.out
               clear HR Ht Hn Hr Hh
               ((try simp only [oneF, argBad, h1, h2, h3]); (repeat' split)) <;> first | rfl | omega | (simp_all; done) | (simp_all; omega))
            | skip
          go_loopw [7] (fun i wr => ∃ k : Nat, k ≤ n ∧ i = .int .i64 k ∧ Hid (incL (prevAt xs k) (xs.drop k) = incL none xs) ∧ ∃ x, wr = Over (w.alloc (.cells #[.int .i64 pid, .int .i64 kind, .int .i64 units, .int .i64 least, .int .i64 most, .slice A n c, .slice hA hn hc, .int .i64 sf, .int .i64 st, .int .i64 price] 56)) x) (fun i _ => n - (intOf i).toNat)
          case atStart => exact ⟨0, Nat.zero_le _, rfl, rfl, over_ex (by go_light; (repeat' (first | (with_reducible exact Below.refl _ _) | (with_reducible exact Nat.le_refl _) | (with_reducible assumption) | (with_reducible refine below_step ?_ ?_ hr) | (with_reducible refine below_over ?_ ?_ _) | (with_reducible refine Below.alloc ?_ ?_ _) | (with_reducible refine Below.setCell ?_ ?_ _) | (with_reducible refine below_put ?_ ?_ _) | (with_reducible refine Below.drew ?_) | (with_reducible refine below_drewN_ ?_ _) | (with_reducible refine le_drewN ?_ _) | (with_reducible refine over_le _ _ _ ?_) | (with_reducible refine le_alloc ?_ _) | (with_reducible refine le_setCell ?_ _ _) | (with_reducible refine le_put ?_ _ _) | (with_reducible refine le_drew ?_) | dsimp only | omega | ((try simp only [World.size_alloc, World.size_setCell, World.size_drew, size_put]); omega) | (simp; done))))⟩
          case round =>
            obtain ⟨k, hk, rfl, Hl, x2, rfl⟩ := hrel
            by_cases hlt : k < n
            · obtain ⟨b, off, x, rfl, hbw, Hx, Hx0, hcx⟩ := Hr.out.int hlt
              by_cases hk0 : k = 0
              · subst hk0
                have hc0 : w.cell? ⟨b, off, none⟩ = some (.int .i64 x) := by simpa using hcx
                by_cases hw1 : x < 1
                rotate_left
                by_cases hw2 : 8 < x
                rotate_left
                all_goals go_wp2
                all_goals refine wp_region_over (by kernel_rfl) (by kernel_rfl) ?_
                repeat (any_goals (first | go_big_quiet_step ((fail)) | (refine wpQuiet_step (fun K hK => ?_); go_simp; split <;> (refine hK _ ?_; clear hK K)) | quiet_step ((fail))))
                all_goals (refine wpQuiet_nil ?_; intro _ hw'; obtain ⟨xq, hw''⟩ := hw'; have hz := size_of hw''; (try simp only [World.size_alloc, World.size_setCell, World.size_drew] at hz); subst hw'')
                all_goals go_wp2
                all_goals first
                  | (go_ret
                     refine gives_of (ret_int ?_) (by go_light; (repeat' (first | (with_reducible exact Below.refl _ _) | (with_reducible exact Nat.le_refl _) | (with_reducible assumption) | (with_reducible refine below_step ?_ ?_ hr) | (with_reducible refine below_over ?_ ?_ _) | (with_reducible refine Below.alloc ?_ ?_ _) | (with_reducible refine Below.setCell ?_ ?_ _) | (with_reducible refine below_put ?_ ?_ _) | (with_reducible refine Below.drew ?_) | (with_reducible refine below_drewN_ ?_ _) | (with_reducible refine le_drewN ?_ _) | (with_reducible refine over_le _ _ _ ?_) | (with_reducible refine le_alloc ?_ _) | (with_reducible refine le_setCell ?_ _ _) | (with_reducible refine le_put ?_ _ _) | (with_reducible refine le_drew ?_) | dsimp only | omega | ((try simp only [World.size_alloc, World.size_setCell, World.size_drew, size_put]); omega) | (simp; done))))
                     go_light
                     have h1 := HR.out; have h2 := Ht.out; have h3 := Hl.out; have h4 := Hn.out
                     rw [Hx.out] at h3
                     clear HR Ht Hn Hr Hh Hl Hx
                     (simp_all [oneF, argBad, prevAt, incL]; done))
                  | (go_roundw
                     case rel =>
                       refine ⟨1, by omega, by go_num, Lib.hid ?_, over_ex (by go_light; (repeat' (first | (with_reducible exact Below.refl _ _) | (with_reducible exact Nat.le_refl _) | (with_reducible assumption) | (with_reducible refine below_step ?_ ?_ hr) | (with_reducible refine below_over ?_ ?_ _) | (with_reducible refine Below.alloc ?_ ?_ _) | (with_reducible refine Below.setCell ?_ ?_ _) | (with_reducible refine below_put ?_ ?_ _) | (with_reducible refine Below.drew ?_) | (with_reducible refine below_drewN_ ?_ _) | (with_reducible refine le_drewN ?_ _) | (with_reducible refine over_le _ _ _ ?_) | (with_reducible refine le_alloc ?_ _) | (with_reducible refine le_setCell ?_ _ _) | (with_reducible refine le_put ?_ _ _) | (with_reducible refine le_drew ?_) | dsimp only | omega | ((try simp only [World.size_alloc, World.size_setCell, World.size_drew, size_put]); omega) | (simp; done))))⟩
                       go_light
                       exact incL_step0 Hx.out Hx0.out Hl.out (by omega)
                     case measure => simp [intOf]; omega)
              · obtain ⟨b', off', y, heq, hbw', -, Hy, hcy⟩ := Hr.out.int (show k - 1 < n by omega)
                obtain ⟨rfl, rfl⟩ : b = b' ∧ off = off' := by simpa using heq
                clear heq
                have hk1 : 0 < k := by omega
                have e2 : 0 ≤ (k : Int) - 1 := by omega
                have e1 : IntKind.i64.wrap ((k : Int) - 1) = (k : Int) - 1 := IntWalk.i64_in _ (by omega)
                have e3 : ((k : Int) - 1).toNat = k - 1 := by omega
                by_cases hw1 : x < 1
                rotate_left
                by_cases hw2 : 8 < x
                rotate_left
                by_cases hw3 : x ≤ y
                rotate_left
                all_goals go_wp2
                all_goals refine wp_region_over (by kernel_rfl) (by kernel_rfl) ?_
                repeat (any_goals (first | go_big_quiet_step ((fail)) | (refine wpQuiet_step (fun K hK => ?_); go_simp; split <;> (refine hK _ ?_; clear hK K)) | quiet_step ((fail))))
                all_goals (refine wpQuiet_nil ?_; intro _ hw'; obtain ⟨xq, hw''⟩ := hw'; have hz := size_of hw''; (try simp only [World.size_alloc, World.size_setCell, World.size_drew] at hz); subst hw'')
                all_goals clear e1 e2 e3
                all_goals go_wp2
                all_goals first
                  | (go_ret
                     refine gives_of (ret_int ?_) (by go_light; (repeat' (first | (with_reducible exact Below.refl _ _) | (with_reducible exact Nat.le_refl _) | (with_reducible assumption) | (with_reducible refine below_step ?_ ?_ hr) | (with_reducible refine below_over ?_ ?_ _) | (with_reducible refine Below.alloc ?_ ?_ _) | (with_reducible refine Below.setCell ?_ ?_ _) | (with_reducible refine below_put ?_ ?_ _) | (with_reducible refine Below.drew ?_) | (with_reducible refine below_drewN_ ?_ _) | (with_reducible refine le_drewN ?_ _) | (with_reducible refine over_le _ _ _ ?_) | (with_reducible refine le_alloc ?_ _) | (with_reducible refine le_setCell ?_ _ _) | (with_reducible refine le_put ?_ _ _) | (with_reducible refine le_drew ?_) | dsimp only | omega | ((try simp only [World.size_alloc, World.size_setCell, World.size_drew, size_put]); omega) | (simp; done))))
                     go_light
                     have h1 := HR.out; have h2 := Ht.out; have h3 := Hl.out; have h4 := Hn.out; have h5 := Hy.out
                     rw [Hx.out] at h3
                     clear HR Ht Hn Hr Hh Hl Hx Hy
                     (simp_all [oneF, argBad, prevAt, incL]; done))
                  | (go_roundw
                     case rel =>
                       refine ⟨k + 1, by omega, by go_num, Lib.hid ?_, over_ex (by go_light; (repeat' (first | (with_reducible exact Below.refl _ _) | (with_reducible exact Nat.le_refl _) | (with_reducible assumption) | (with_reducible refine below_step ?_ ?_ hr) | (with_reducible refine below_over ?_ ?_ _) | (with_reducible refine Below.alloc ?_ ?_ _) | (with_reducible refine Below.setCell ?_ ?_ _) | (with_reducible refine below_put ?_ ?_ _) | (with_reducible refine Below.drew ?_) | (with_reducible refine below_drewN_ ?_ _) | (with_reducible refine le_drewN ?_ _) | (with_reducible refine over_le _ _ _ ?_) | (with_reducible refine le_alloc ?_ _) | (with_reducible refine le_setCell ?_ _ _) | (with_reducible refine le_put ?_ _ _) | (with_reducible refine le_drew ?_) | dsimp only | omega | ((try simp only [World.size_alloc, World.size_setCell, World.size_drew, size_put]); omega) | (simp; done))))⟩
                       go_light
                       exact incL_step Hx.out Hx0.out (by omega) Hy.out Hl.out (by omega)
                     case measure => simp [intOf]; omega)
            · go_wp2
              go_ret
              refine gives_of (ret_int ?_) (by go_light; (repeat' (first | (with_reducible exact Below.refl _ _) | (with_reducible exact Nat.le_refl _) | (with_reducible assumption) | (with_reducible refine below_step ?_ ?_ hr) | (with_reducible refine below_over ?_ ?_ _) | (with_reducible refine Below.alloc ?_ ?_ _) | (with_reducible refine Below.setCell ?_ ?_ _) | (with_reducible refine below_put ?_ ?_ _) | (with_reducible refine Below.drew ?_) | (with_reducible refine below_drewN_ ?_ _) | (with_reducible refine le_drewN ?_ _) | (with_reducible refine over_le _ _ _ ?_) | (with_reducible refine le_alloc ?_ _) | (with_reducible refine le_setCell ?_ _ _) | (with_reducible refine le_put ?_ _ _) | (with_reducible refine le_drew ?_) | dsimp only | omega | ((try simp only [World.size_alloc, World.size_setCell, World.size_drew, size_put]); omega) | (simp; done))))
              go_light
              have h1 := HR.out; have h2 := Ht.out; have h3 := Hn.out; have h4 := Hl.out
              rw [Hr.out.done_ hlt] at h4
              have h5 : incL none xs = true := by rw [← h4]; cases prevAt xs k <;> rfl
              clear HR Ht Hn Hr Hh Hl h4
              ((try simp only [oneF, argBad, h1, h2, h3, h5]); (repeat' split)) <;> first | rfl | omega | (simp_all; done) | (simp_all; omega)
set_option maxRecDepth 100000 in
set_option maxHeartbeats 400000 in
theorem ref22_one (p : PD) (s : Sl) (es : List PD) (w : World) (hp : p.at_ w) (hs : Rd w PD.enc s es) : Calls Tryz.prog 34 #[p.val, s.val] w (Gives (.int .i64 (oneF p es)) w) := by
  cases h : rangeBad p
  · exact ref22_one_good p s es w hp hs h
  · have e : oneF p es = 2 := by simp [oneF, h]
    rw [e]
    exact ref22_one_bad p s es w h
end Go.Proofs.YtfajjgkhanjcfaaGreat
