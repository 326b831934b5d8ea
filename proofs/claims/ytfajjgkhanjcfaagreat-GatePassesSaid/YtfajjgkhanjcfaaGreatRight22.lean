/- Products: the reference's check of a list, as a plain function. -/
import Derived.Test.YtfajjgkhanjcfaaGreatOne
namespace Go.Proofs.YtfajjgkhanjcfaaGreat
set_option linter.unusedSimpArgs false
set_option linter.unusedVariables false
open Go.RowKit
theorem Rd.take {α : Type} {w : World} {enc : α → List Value} {A : Option Addr} {n c : Nat} {xs : List α} (h : Rd w enc ⟨A, n, c⟩ xs) {k : Nat} (hk : k ≤ n) : Rd w enc ⟨A, k, c⟩ (xs.take k) := by
  have hl : xs.length = n := h.len
  have hc : n ≤ c := h.cap
  refine ⟨by simp only [List.length_take]; omega, by simp only; omega, h.max, fun hn => ?_⟩
  obtain ⟨b, off, e, hb, hcell⟩ := h.cells (by simp only at hn ⊢; omega)
  refine ⟨b, off, e, hb, fun i x hx j u hu => hcell i x ?_ j u hu⟩
  rw [List.getElem?_take] at hx
  split at hx
  · exact hx
  · cases hx
def right22L : List PD → List PD → Int
  | _, [] => 0
  | es, p :: r => if oneF p es = 0 then right22L (es ++ [p]) r else oneF p es
def right22 (l : List PD) : Int := if 64 < l.length then 4 else right22L [] l
set_option maxRecDepth 100000 in
set_option maxHeartbeats 4000000 in
theorem ref22_Right (s : Sl) (es : List PD) (w : World) (hs : Rd w PD.enc s es) (he : ∀ p ∈ es, p.at_ w) : Calls Tryz.prog 18 #[s.val] w (Gives (.int .i64 (right22 es)) w) := by
  obtain ⟨A, n, c⟩ := s
  have hmax : n ≤ 9223372036854775807 := hs.bound
  have hcap : n ≤ c := hs.cap
  have hcm : c ≤ 9223372036854775807 := by have := hs.max; unfold maxLen at this; simpa using this
  have Hs := Lib.hid hs
  have He := Lib.hid he
  have Hlen := Lib.hid hs.len
  clear hs he
  simp only [Sl.val]
  by_cases h64 : 64 < n
  · (go_enter Tryz.func18, Tryz.ntmps18; try dsimp only [List.append])
    go_wp2
    go_ret
    exact gives_of (ret_int (by have h : es.length = n := Hlen.out; rw [right22, if_pos (by omega)])) (Below.refl _ _)
  · have Hr : Hid (right22 es = right22L [] es) := by have h : es.length = n := Hlen.out; show right22 es = right22L [] es; rw [right22, if_neg (by omega)]
    (go_enter Tryz.func18, Tryz.ntmps18; try dsimp only [List.append])
    go_wp2
    go_loopw [3] (fun i wr => ∃ k : Nat, k ≤ n ∧ i = .int .i64 k ∧ Hid (right22L (es.take k) (es.drop k) = right22 es) ∧ ∃ x, wr = Over w x) (fun i _ => n - (intOf i).toNat)
    case atStart => exact ⟨0, Nat.zero_le _, rfl, by rw [Hr.out]; rfl, over_ex (Below.refl _ _)⟩
    case round =>
      obtain ⟨k, hk, rfl, Hl, x0, rfl⟩ := hrel
      by_cases hlt : k < n
      · obtain ⟨b, off, x, rfl, hbw, Hx, Hx0, hc0, hc1, hc2, hc3, hc4, hc5, hc6, hc7, hc8, hc9⟩ := Hs.out.pd hlt
        have Hxa : Hid (x.at_ w) := He.out x (List.mem_of_getElem? Hx0.out)
        go_wp2
        all_goals refine wp_region_over (by kernel_rfl) (by kernel_rfl) ?_
        repeat (any_goals (first | go_big_quiet_step ((first | (go_at_call 34; exact quiet_gives (ref22_one x ⟨some ⟨b, off, none⟩, k, c⟩ (es.take k) _ (Hxa.out.toW (by (repeat' (first | (with_reducible exact Below.refl _ _) | (with_reducible exact Nat.le_refl _) | (with_reducible assumption) | (with_reducible refine below_step ?_ ?_ hr) | (with_reducible refine below_over ?_ ?_ _) | (with_reducible refine Below.alloc ?_ ?_ _) | (with_reducible refine Below.setCell ?_ ?_ _) | (with_reducible refine below_put ?_ ?_ _) | (with_reducible refine Below.drew ?_) | (with_reducible refine below_drewN_ ?_ _) | (with_reducible refine le_drewN ?_ _) | (with_reducible refine over_le _ _ _ ?_) | (with_reducible refine le_alloc ?_ _) | (with_reducible refine le_setCell ?_ _ _) | (with_reducible refine le_put ?_ _ _) | (with_reducible refine le_drew ?_) | dsimp only | omega | ((try simp only [World.size_alloc, World.size_setCell, World.size_drew, size_put]); omega) | (simp; done))))) ((Hs.out.take hk).toW (by (repeat' (first | (with_reducible exact Below.refl _ _) | (with_reducible exact Nat.le_refl _) | (with_reducible assumption) | (with_reducible refine below_step ?_ ?_ hr) | (with_reducible refine below_over ?_ ?_ _) | (with_reducible refine Below.alloc ?_ ?_ _) | (with_reducible refine Below.setCell ?_ ?_ _) | (with_reducible refine below_put ?_ ?_ _) | (with_reducible refine Below.drew ?_) | (with_reducible refine below_drewN_ ?_ _) | (with_reducible refine le_drewN ?_ _) | (with_reducible refine over_le _ _ _ ?_) | (with_reducible refine le_alloc ?_ _) | (with_reducible refine le_setCell ?_ _ _) | (with_reducible refine le_put ?_ _ _) | (with_reducible refine le_drew ?_) | dsimp only | omega | ((try simp only [World.size_alloc, World.size_setCell, World.size_drew, size_put]); omega) | (simp; done))))))))) | (refine wpQuiet_step (fun K hK => ?_); go_simp; split <;> (refine hK _ ?_; clear hK K)) | quiet_step ((first | (go_at_call 34; exact quiet_gives (ref22_one x ⟨some ⟨b, off, none⟩, k, c⟩ (es.take k) _ (Hxa.out.toW (by (repeat' (first | (with_reducible exact Below.refl _ _) | (with_reducible exact Nat.le_refl _) | (with_reducible assumption) | (with_reducible refine below_step ?_ ?_ hr) | (with_reducible refine below_over ?_ ?_ _) | (with_reducible refine Below.alloc ?_ ?_ _) | (with_reducible refine Below.setCell ?_ ?_ _) | (with_reducible refine below_put ?_ ?_ _) | (with_reducible refine Below.drew ?_) | (with_reducible refine below_drewN_ ?_ _) | (with_reducible refine le_drewN ?_ _) | (with_reducible refine over_le _ _ _ ?_) | (with_reducible refine le_alloc ?_ _) | (with_reducible refine le_setCell ?_ _ _) | (with_reducible refine le_put ?_ _ _) | (with_reducible refine le_drew ?_) | dsimp only | omega | ((try simp only [World.size_alloc, World.size_setCell, World.size_drew, size_put]); omega) | (simp; done))))) ((Hs.out.take hk).toW (by (repeat' (first | (with_reducible exact Below.refl _ _) | (with_reducible exact Nat.le_refl _) | (with_reducible assumption) | (with_reducible refine below_step ?_ ?_ hr) | (with_reducible refine below_over ?_ ?_ _) | (with_reducible refine Below.alloc ?_ ?_ _) | (with_reducible refine Below.setCell ?_ ?_ _) | (with_reducible refine below_put ?_ ?_ _) | (with_reducible refine Below.drew ?_) | (with_reducible refine below_drewN_ ?_ _) | (with_reducible refine le_drewN ?_ _) | (with_reducible refine over_le _ _ _ ?_) | (with_reducible refine le_alloc ?_ _) | (with_reducible refine le_setCell ?_ _ _) | (with_reducible refine le_put ?_ _ _) | (with_reducible refine le_drew ?_) | dsimp only | omega | ((try simp only [World.size_alloc, World.size_setCell, World.size_drew, size_put]); omega) | (simp; done)))))))))))
        all_goals (refine wpQuiet_nil ?_; intro _ hw'; obtain ⟨xq, hw''⟩ := hw'; have hz := size_of hw''; (try simp only [World.size_alloc, World.size_setCell, World.size_drew] at hz); subst hw'')
        all_goals go_wp2
        · go_ret
          exact gives_of (ret_int (by go_light; have h := Hl.out; rw [Hx.out] at h; rw [← h]; clear Hl Hx Hr Hs He; (try simp only [beq_iff_eq, beq_eq_false_iff_ne, bne_iff_ne, bne_eq_false_iff_eq, ne_eq, Bool.not_eq_true', Bool.not_eq_false'] at *); simp only [right22L]; rw [if_neg ‹_›])) (by go_light; (repeat' (first | (with_reducible exact Below.refl _ _) | (with_reducible exact Nat.le_refl _) | (with_reducible assumption) | (with_reducible refine below_step ?_ ?_ hr) | (with_reducible refine below_over ?_ ?_ _) | (with_reducible refine Below.alloc ?_ ?_ _) | (with_reducible refine Below.setCell ?_ ?_ _) | (with_reducible refine below_put ?_ ?_ _) | (with_reducible refine Below.drew ?_) | (with_reducible refine below_drewN_ ?_ _) | (with_reducible refine le_drewN ?_ _) | (with_reducible refine over_le _ _ _ ?_) | (with_reducible refine le_alloc ?_ _) | (with_reducible refine le_setCell ?_ _ _) | (with_reducible refine le_put ?_ _ _) | (with_reducible refine le_drew ?_) | dsimp only | omega | ((try simp only [World.size_alloc, World.size_setCell, World.size_drew, size_put]); omega) | (simp; done))))
        · go_roundw
          case rel =>
            refine ⟨k + 1, by omega, by go_num, Lib.hid ?_, over_ex (by go_light; (repeat' (first | (with_reducible exact Below.refl _ _) | (with_reducible exact Nat.le_refl _) | (with_reducible assumption) | (with_reducible refine below_step ?_ ?_ hr) | (with_reducible refine below_over ?_ ?_ _) | (with_reducible refine Below.alloc ?_ ?_ _) | (with_reducible refine Below.setCell ?_ ?_ _) | (with_reducible refine below_put ?_ ?_ _) | (with_reducible refine Below.drew ?_) | (with_reducible refine below_drewN_ ?_ _) | (with_reducible refine le_drewN ?_ _) | (with_reducible refine over_le _ _ _ ?_) | (with_reducible refine le_alloc ?_ _) | (with_reducible refine le_setCell ?_ _ _) | (with_reducible refine le_put ?_ _ _) | (with_reducible refine le_drew ?_) | dsimp only | omega | ((try simp only [World.size_alloc, World.size_setCell, World.size_drew, size_put]); omega) | (simp; done))))⟩
            go_light
            have h := Hl.out
            rw [Hx.out] at h
            have ht : es.take (k + 1) = es.take k ++ [x] := by rw [List.take_add_one, Hx0.out]; rfl
            rw [ht, ← h]
            clear Hl Hx Hr Hs He
            (try simp only [beq_iff_eq, beq_eq_false_iff_ne, bne_iff_ne, bne_eq_false_iff_eq, ne_eq, Bool.not_eq_true', Bool.not_eq_false'] at *)
            simp only [right22L]
            rw [if_pos ‹_›]
          case measure => simp [intOf]; omega
      · go_wp2
        go_ret
        exact gives_of (ret_int (by have h := Hl.out; rw [Hs.out.done_ hlt] at h; rw [← h]; rfl)) (over_below _ _)
end Go.Proofs.YtfajjgkhanjcfaaGreat
