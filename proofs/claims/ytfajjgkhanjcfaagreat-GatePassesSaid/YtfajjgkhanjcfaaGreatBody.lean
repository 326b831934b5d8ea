/- Media: the body's bytes. -/
import Derived.Test.YtfajjgkhanjcfaaGreatCodec
import Derived.Test.YtfajjgkhanjcfaaGreatMediaP
namespace Go.Proofs.YtfajjgkhanjcfaaGreat
set_option linter.unusedSimpArgs false
set_option linter.unusedVariables false
open Go.RowKit
theorem hiB_bd (n : Int) : 0 ≤ hiB n ∧ hiB n ≤ 255 := by
  unfold hiB
  generalize lowB n = m
  simp only [bits, IntKind.wrap]
  simp [IntKind.bits, IntKind.signed]
  omega
theorem putN_bd : ∀ (f : Nat) (n : Int), 0 ≤ n → n < bdN f → isB (putN f n)
  | 0, n, h0, h1 => by
    intro x hx
    simp [putN] at hx
    simp [bdN] at h1
    omega
  | f + 1, n, h0, h1 => by
    intro x hx
    unfold putN at hx
    split at hx
    · rcases List.mem_cons.1 hx with rfl | hx
      · exact hiB_bd n
      · exact putN_bd f (n / 128) (by omega) (by simp only [bdN] at h1; omega) x hx
    · simp at hx; omega
theorem putF_bd {n : Int} (h : n ≤ 200000000) : isB (putF n) := by
  unfold putF
  exact putN_bd 3 _ (by split <;> omega) (by simp [bdN]; split <;> omega)
theorem putN_len : ∀ (f : Nat) (n : Int), (putN f n).length ≤ f + 1
  | 0, _ => by simp [putN]
  | f + 1, n => by
    unfold putN
    split
    · have := putN_len f (n / 128); simp; omega
    · simp
theorem putF_len (n : Int) : (putF n).length ≤ 4 := putN_len 3 _
def MV.fields (m : MV) : List Int := [m.serial, m.counter, m.product, m.first + 1, m.left, m.today + 1, m.lift, m.at_ + 1]
def bodyF (m : MV) : List Int := m.fields.flatMap putF
structure MV.fit (m : MV) : Prop where
  hi : m.serial ≤ 100000000 ∧ m.counter ≤ 100000000 ∧ m.product ≤ 100000000 ∧ m.first ≤ 100000000 ∧ m.left ≤ 100000000 ∧ m.today ≤ 100000000 ∧ m.lift ≤ 100000000 ∧ m.at_ ≤ 100000000
  lo : -100000000 ≤ m.first ∧ -100000000 ≤ m.today ∧ -100000000 ≤ m.at_
theorem fields_le {m : MV} (h : m.fit) : ∀ x ∈ m.fields, x ≤ 200000000 := by
  obtain ⟨h1, h2, h3, h4, h5, h6, h7, h8⟩ := h.hi
  intro x hx
  simp [MV.fields] at hx
  rcases hx with rfl | rfl | rfl | rfl | rfl | rfl | rfl | rfl <;> omega
theorem flat_len4 : ∀ l : List Int, (l.flatMap putF).length ≤ 4 * l.length
  | [] => by simp
  | x :: r => by have h1 := putF_len x; have h2 := flat_len4 r; simp only [List.flatMap_cons, List.length_append, List.length_cons]; omega
theorem body_bd {m : MV} (h : m.fit) : isB (bodyF m) := by
  intro x hx
  obtain ⟨y, hy, hxy⟩ := List.mem_flatMap.1 hx
  exact putF_bd (fields_le h y hy) x hxy
theorem idx8_0 (a0 a1 a2 a3 a4 a5 a6 a7 : Value) (w : World) : (Instr.index 92 (.agg #[a0, a1, a2, a3, a4, a5, a6, a7]) (.int .i64 0)).run Tryz.prog w = .ok a0 w := by kernel_rfl
theorem idx8_1 (a0 a1 a2 a3 a4 a5 a6 a7 : Value) (w : World) : (Instr.index 92 (.agg #[a0, a1, a2, a3, a4, a5, a6, a7]) (.int .i64 1)).run Tryz.prog w = .ok a1 w := by kernel_rfl
theorem idx8_2 (a0 a1 a2 a3 a4 a5 a6 a7 : Value) (w : World) : (Instr.index 92 (.agg #[a0, a1, a2, a3, a4, a5, a6, a7]) (.int .i64 2)).run Tryz.prog w = .ok a2 w := by kernel_rfl
theorem idx8_3 (a0 a1 a2 a3 a4 a5 a6 a7 : Value) (w : World) : (Instr.index 92 (.agg #[a0, a1, a2, a3, a4, a5, a6, a7]) (.int .i64 3)).run Tryz.prog w = .ok a3 w := by kernel_rfl
theorem idx8_4 (a0 a1 a2 a3 a4 a5 a6 a7 : Value) (w : World) : (Instr.index 92 (.agg #[a0, a1, a2, a3, a4, a5, a6, a7]) (.int .i64 4)).run Tryz.prog w = .ok a4 w := by kernel_rfl
theorem idx8_5 (a0 a1 a2 a3 a4 a5 a6 a7 : Value) (w : World) : (Instr.index 92 (.agg #[a0, a1, a2, a3, a4, a5, a6, a7]) (.int .i64 5)).run Tryz.prog w = .ok a5 w := by kernel_rfl
theorem idx8_6 (a0 a1 a2 a3 a4 a5 a6 a7 : Value) (w : World) : (Instr.index 92 (.agg #[a0, a1, a2, a3, a4, a5, a6, a7]) (.int .i64 6)).run Tryz.prog w = .ok a6 w := by kernel_rfl
theorem idx8_7 (a0 a1 a2 a3 a4 a5 a6 a7 : Value) (w : World) : (Instr.index 92 (.agg #[a0, a1, a2, a3, a4, a5, a6, a7]) (.int .i64 7)).run Tryz.prog w = .ok a7 w := by kernel_rfl
set_option maxRecDepth 100000 in
set_option maxHeartbeats 4000000 in
theorem media_Body (m : MV) (w : World) (hm : m.fit) : Calls Tryz.prog 39 #[m.val] w fun e w' => ∃ v : Sl, e = .returned v.val ∧ Below w.heap.size w w' ∧ Rd w' encB v (bodyF m) := by
  obtain ⟨h1, h2, h3, h4, h5, h6, h7, h8⟩ := hm.hi
  obtain ⟨l1, l2, l3⟩ := hm.lo
  have Hfl := Lib.hid (fields_le hm)
  generalize hF : m.fields = F at Hfl
  have HF : Hid (m.fields = F) := hF
  have HB : Hid (bodyF m = F.flatMap putF) := by show _ = _; rw [← hF]; rfl
  clear hF hm
  have hf1 : m.first + 1 ≤ 9223372036854775807 := by omega
  have i0 := idx8_0; have i1 := idx8_1; have i2 := idx8_2; have i3 := idx8_3; have i4 := idx8_4; have i5 := idx8_5; have i6 := idx8_6; have i7 := idx8_7
  (go_enter Tryz.func39, Tryz.ntmps39; try dsimp only [List.append])
  go_wp2_with fail
  refine wp_letter (fun w1 hb => ?_)
  have hz := hb.size
  (try simp only [World.size_alloc, World.size_setCell, World.size_drew, size_put] at hz)
  have hB : Below w.heap.size w w1 := below_step (by (repeat' (first | (with_reducible exact Below.refl _ _) | (with_reducible exact Nat.le_refl _) | (with_reducible assumption) | (with_reducible refine below_step ?_ ?_ hr) | (with_reducible refine below_over ?_ ?_ _) | (with_reducible refine Below.alloc ?_ ?_ _) | (with_reducible refine Below.setCell ?_ ?_ _) | (with_reducible refine below_put ?_ ?_ _) | (with_reducible refine Below.drew ?_) | (with_reducible refine below_drewN_ ?_ _) | (with_reducible refine le_drewN ?_ _) | (with_reducible refine over_le _ _ _ ?_) | (with_reducible refine le_alloc ?_ _) | (with_reducible refine le_setCell ?_ _ _) | (with_reducible refine le_put ?_ _ _) | (with_reducible refine le_drew ?_) | dsimp only | omega | ((try simp only [World.size_alloc, World.size_setCell, World.size_drew, size_put]); omega) | (simp; done)))) (by (first | omega | ((try simp only [World.size_alloc, World.size_setCell, World.size_drew, size_put]); omega))) hb
  have Q' : w1.heap[w.heap.size]? = _ := hb.block (w.heap.size) (by (first | omega | ((try simp only [World.size_alloc, World.size_setCell, World.size_drew, size_put]); omega)))
  simp only [alloc_block_if, put_block_if, over_block_if, set_block_if, setObj_cells, drew_block, drewN_block, Option.map_some, List.setIfInBounds_toArray, List.set_cons_zero, List.set_cons_succ, World.size_alloc, World.size_setCell, size_put, World.size_drew, if_true, if_false, ↓IntWalk.iteOmega] at Q'
  have Q_0 := Q'
  clear Q'
  have q_0 := cell_of_block Q_0
  clear hb
  have hB1 := hB
  go_loopw [3, 26] (fun u i wr => ∃ (k : Nat) (v : Sl) (acc : List Int), k ≤ 8 ∧ i = .int .i64 k ∧ u = v.val ∧ Hid (acc = (F.take k).flatMap putF) ∧ Hid (Rd wr encB v acc) ∧ Below w1.heap.size w1 wr) (fun _ i _ => 8 - (intOf i).toNat)
  case atStart => exact ⟨0, ⟨none, 0, 0⟩, [], by omega, rfl, rfl, rfl, Rd.nil_ _ _, Below.refl _ _⟩
  case round =>
    obtain ⟨k, v, acc, hk, rfl, rfl, HA, HR, hBr⟩ := hrel
    have hzr := hBr.size
    have hBw : Below w.heap.size w wr := hB1.trans (hBr.mono (by omega))
    by_cases hlt : k < 8
    · obtain ⟨x, hx⟩ : ∃ x, F[k]? = some x := by
        have hl : F.length = 8 := by rw [← HF.out]; rfl
        exact ⟨F[k]'(by omega), List.getElem?_eq_getElem _⟩
      have hxle := Hfl.out x (List.mem_of_getElem? hx)
      have HS : Hid (acc ++ putF x = (F.take (k + 1)).flatMap putF) := by show _ = _; rw [List.take_add_one, hx, HA.out]; simp
      have hvn : v.n ≤ 32 := by
        have h1 : acc.length = v.n := HR.out.len
        have h2 := flat_len4 (F.take k)
        rw [← HA.out, List.length_take] at h2
        omega
      have Hc := Lib.hid (fun w' (h : Below wr.heap.size wr w') => codec_Put v acc x w' (HR.out.toW h) (by omega) (by omega))
      have hk8 : k = 0 ∨ k = 1 ∨ k = 2 ∨ k = 3 ∨ k = 4 ∨ k = 5 ∨ k = 6 ∨ k = 7 := by omega
      have hx2 : m.fields[k]? = some x := by rw [HF.out]; exact hx
      clear hx hlt hk
      rcases hk8 with rfl | rfl | rfl | rfl | rfl | rfl | rfl | rfl
      all_goals
        (simp [MV.fields] at hx2
         subst hx2
         go_wp2_with fail
         refine (Hc.out _ (by (repeat' (first | (with_reducible exact Below.refl _ _) | (with_reducible exact Nat.le_refl _) | (with_reducible assumption) | (with_reducible refine below_step ?_ ?_ hr) | (with_reducible refine below_over ?_ ?_ _) | (with_reducible refine Below.alloc ?_ ?_ _) | (with_reducible refine Below.setCell ?_ ?_ _) | (with_reducible refine below_put ?_ ?_ _) | (with_reducible refine Below.drew ?_) | (with_reducible refine below_drewN_ ?_ _) | (with_reducible refine le_drewN ?_ _) | (with_reducible refine over_le _ _ _ ?_) | (with_reducible refine le_alloc ?_ _) | (with_reducible refine le_setCell ?_ _ _) | (with_reducible refine le_put ?_ _ _) | (with_reducible refine le_drew ?_) | dsimp only | omega | ((try simp only [World.size_alloc, World.size_setCell, World.size_drew, size_put]); omega) | (simp; done))))).mono ?_
         rintro e w2 ⟨v2, rfl, hb, hv⟩
         have HR2 := Lib.hid (hv.rd (fun _ => rfl))
         clear hv
         have hB2 : Below w1.heap.size w1 w2 := hBr.trans (hb.mono (by omega))
         clear hb
         go_wp2_with fail
         go_roundw
         case rel => exact ⟨_, v2, _, by decide, by rfl, rfl, HS, HR2, hB2⟩
         case measure => (simp [intOf]))
    · have HE : Hid (acc = bodyF m) := by
        show _ = _
        have hl : F.length = 8 := by rw [← HF.out]; rfl
        rw [HB.out, HA.out, List.take_of_length_le (by omega)]
      go_wp2_with fail
      go_ret
      exact ⟨v, rfl, hBw, by rw [← HE.out]; exact HR.out⟩
end Go.Proofs.YtfajjgkhanjcfaaGreat
