/- revoke.without: the increasing list of the numbers of one list that are not in another one. -/
import Derived.Test.YtfajjgkhanjcfaaGreatRevD
import Derived.Test.YtfajjgkhanjcfaaGreatMapSetI
namespace Go.Proofs.YtfajjgkhanjcfaaGreat
set_option linter.unusedSimpArgs false
set_option linter.unusedVariables false
open Go.RowKit Go.Sort
abbrev WfI (xs : List Int) : Prop := ∀ x ∈ xs, (Lit.int .i64 x).wf = true
theorem U_int : Tryz.prog.underlying 3 = some (.int .i64) := Tryz.underlying3
theorem U_bool : Tryz.prog.underlying 4 = some .bool := Tryz.underlying4
theorem zero_bool (w : World) : (zeroValue 4).run Tryz.prog w = .ok (.bool false) w := by kernel_rfl
abbrev Seen (w : World) (b n : Nat) (acc : List Int) : Prop := OwnS Tryz.prog 3 4 w b n acc
def minusL (xs ys : List Int) : List Int := xs.filter (fun x => !decide (x ∈ ys))
theorem minus_hit {xs ys : List Int} {k : Nat} {x : Int} (hx : xs[k]? = some x) (h : decide (x ∈ ys) = false) : minusL (xs.take (k + 1)) ys = minusL (xs.take k) ys ++ [x] := by
  rw [List.take_add_one, hx, minusL, List.filter_append]
  simp [minusL, h]
theorem minus_not {xs ys : List Int} {k : Nat} {x : Int} (hx : xs[k]? = some x) (h : decide (x ∈ ys) = true) : minusL (xs.take (k + 1)) ys = minusL (xs.take k) ys := by
  rw [List.take_add_one, hx, minusL, List.filter_append]
  simp [minusL, h]
theorem minus_len (xs ys : List Int) : (minusL xs ys).length ≤ xs.length := List.length_filter_le _ _
/-- What without gives. -/
def woF (xs ys : List Int) : List Int := setI (minusL xs ys)
set_option maxRecDepth 100000 in
set_option maxHeartbeats 3200000 in
theorem rev_without (s t : Sl) (xs ys : List Int) (w : World) (hs : Rd w encI s xs) (ht : Rd w encI t ys) (hn : s.n ≤ 4000) (hx : WfI xs) (hy : WfI ys) : Calls Tryz.prog 48 #[s.val, t.val] w (OwnIPost (woF xs ys) w) := by
  obtain ⟨A, n, c⟩ := s
  obtain ⟨B, m, d⟩ := t
  dsimp only at hn
  have Hs := Lib.hid hs
  have Ht := Lib.hid ht
  have Hn : Hid (xs.length = n) := hs.len
  have Hm : Hid (ys.length = m) := ht.len
  have hmm : m ≤ 9223372036854775807 := ht.bound
  have Hml : Hid (m ≤ maxLen) := Nat.le_trans ht.cap ht.max
  have Hx := Lib.hid hx
  have Hy := Lib.hid hy
  clear hs ht hx hy
  simp only [Sl.val]
  generalize hV : woF xs ys = V
  have HV := Lib.hid hV
  clear hV
  have hmk : ∀ (n : Nat) (w : World), (Instr.makeMap 95 (some (.int .i64 n))).run Tryz.prog w = .ok (.map (some w.heap.size)) (w.alloc (.map #[] 0)) := fun n w => by simp [Instr.makeMap, go_sem, Tryz.underlying95]
  (go_enter Tryz.func48, Tryz.ntmps48; try dsimp only [List.append])
  go_wp2_with fail
  clear hmk
  go_loopw [16] (fun i wr => ∃ k : Nat, k ≤ m ∧ i = .int .i64 k ∧ Below w.heap.size w wr ∧ Hid (Seen wr w.heap.size k (ys.take k))) (fun i _ => m - (intOf i).toNat)
  case atStart => exact ⟨0, Nat.zero_le _, rfl, by (repeat' (first | (with_reducible exact Below.refl _ _) | (with_reducible exact Nat.le_refl _) | (with_reducible assumption) | (with_reducible refine below_step ?_ ?_ hr) | (with_reducible refine below_over ?_ ?_ _) | (with_reducible refine Below.alloc ?_ ?_ _) | (with_reducible refine Below.setCell ?_ ?_ _) | (with_reducible refine below_put ?_ ?_ _) | (with_reducible refine Below.drew ?_) | (with_reducible refine below_drewN_ ?_ _) | (with_reducible refine le_drewN ?_ _) | (with_reducible refine over_le _ _ _ ?_) | (with_reducible refine le_alloc ?_ _) | (with_reducible refine le_setCell ?_ _ _) | (with_reducible refine le_put ?_ _ _) | (with_reducible refine le_drew ?_) | dsimp only | omega | ((try simp only [World.size_alloc, World.size_setCell, World.size_drew, size_put]); omega) | (simp; done))), OwnS.made _ _ _ w⟩
  case round =>
    obtain ⟨k, hk, rfl, hB, HO⟩ := hrel
    have hz := hB.size
    have hlt0 := HO.out.lt
    by_cases hlt : k < m
    · obtain ⟨b, off, x, rfl, hbw, -, Hx0, hc0⟩ := Ht.out.int hlt
      have e0 := (hB.cell (p := ⟨b, _, none⟩) hbw).trans hc0
      have Hw : Hid ((Lit.int .i64 x).wf = true) := Hy.out x (List.mem_of_getElem? Hx0.out)
      have HT : Hid (ys.take (k + 1) = ys.take k ++ [x]) := by show _ = _; rw [List.take_add_one, Hx0.out]; rfl
      clear hc0
      go_wp2_with (at_mapUpdate; refine wpList_update_set rfl _ _ _ rfl rfl HO.out U_int Tryz.underlying95 U_bool (by have := Hml.out; omega) x Hw.out rfl rfl ?_; intro w1 HO1 hg; have hB1 : Below w.heap.size w w1 := hB.grown hg (by omega) (fun k hk => by cases hk; exact Nat.le_refl _); have hz1 := hg.size; clear hg)
      go_roundw
      case rel => exact ⟨k + 1, by omega, by go_num, by go_light; (repeat' (first | (with_reducible exact Below.refl _ _) | (with_reducible exact Nat.le_refl _) | (with_reducible assumption) | (with_reducible refine below_step ?_ ?_ hr) | (with_reducible refine below_over ?_ ?_ _) | (with_reducible refine Below.alloc ?_ ?_ _) | (with_reducible refine Below.setCell ?_ ?_ _) | (with_reducible refine below_put ?_ ?_ _) | (with_reducible refine Below.drew ?_) | (with_reducible refine below_drewN_ ?_ _) | (with_reducible refine le_drewN ?_ _) | (with_reducible refine over_le _ _ _ ?_) | (with_reducible refine le_alloc ?_ _) | (with_reducible refine le_setCell ?_ _ _) | (with_reducible refine le_put ?_ _ _) | (with_reducible refine le_drew ?_) | dsimp only | omega | ((try simp only [World.size_alloc, World.size_setCell, World.size_drew, size_put]); omega) | (simp; done))), by go_light; rw [HT.out]; exact HO1⟩
      case measure => (simp [intOf] <;> omega)
    · have HE : Hid (ys.take k = ys) := List.take_of_length_le (by rw [Hm.out]; omega)
      have hkm : k = m := by omega
      rw [HE.out, hkm] at HO
      clear hkm
      go_wp2_with fail
      refine wp_letter (fun w2 hb => ?_)
      have hz := hb.size
      (try simp only [World.size_alloc, World.size_setCell, World.size_drew, size_put] at hz)
      have hB : Below w.heap.size w w2 := below_step (by (repeat' (first | (with_reducible exact Below.refl _ _) | (with_reducible exact Nat.le_refl _) | (with_reducible assumption) | (with_reducible refine below_step ?_ ?_ hr) | (with_reducible refine below_over ?_ ?_ _) | (with_reducible refine Below.alloc ?_ ?_ _) | (with_reducible refine Below.setCell ?_ ?_ _) | (with_reducible refine below_put ?_ ?_ _) | (with_reducible refine Below.drew ?_) | (with_reducible refine below_drewN_ ?_ _) | (with_reducible refine le_drewN ?_ _) | (with_reducible refine over_le _ _ _ ?_) | (with_reducible refine le_alloc ?_ _) | (with_reducible refine le_setCell ?_ _ _) | (with_reducible refine le_put ?_ _ _) | (with_reducible refine le_drew ?_) | dsimp only | omega | ((try simp only [World.size_alloc, World.size_setCell, World.size_drew, size_put]); omega) | (simp; done)))) (by (first | omega | ((try simp only [World.size_alloc, World.size_setCell, World.size_drew, size_put]); omega))) hb
      have hb_w2 := hb
      clear hb
      have HO2 := Lib.hid (HO.out.of_block (hb_w2.block _ hlt0))
      have hlt2 := HO2.out.lt
      clear HO
      have hB2 : Below w.heap.size w w2 := hB
      go_loopw [8, 25] (fun u i wr => ∃ (k : Nat) (v : Sl), k ≤ n ∧ u = v.val ∧ i = .int .i64 k ∧ Hid (OwnI wr (w.heap.size + 1) v (minusL (xs.take k) ys)) ∧ Hid (Seen wr w.heap.size m ys) ∧ Below w.heap.size w wr ∧ w.heap.size + 1 ≤ wr.heap.size) (fun _ i _ => n - (intOf i).toNat)
      case atStart => exact ⟨0, ⟨none, 0, 0⟩, Nat.zero_le _, rfl, rfl, Own.nil_ _ _ _ _ _, HO2, hB2, by omega⟩
      case round =>
        obtain ⟨k, v, hk, rfl, rfl, HO3, HS, hB, hw1⟩ := hrel
        have hz := hB.size
        have hvn : v.n ≤ k := by have h1 := HO3.out.len; have h2 := minus_len (xs.take k) ys; have h3 := List.length_take_le k xs; omega
        by_cases hlt : k < n
        · obtain ⟨b, off, x, rfl, hbw, -, Hx0, hc0⟩ := Hs.out.int hlt
          have e0 := (hB.cell (p := ⟨b, _, none⟩) hbw).trans hc0
          have Hw : Hid ((Lit.int .i64 x).wf = true) := Hx.out x (List.mem_of_getElem? Hx0.out)
          clear hc0
          cases hd : decide (x ∈ ys)
          · have HE := Lib.hid (minus_hit Hx0.out hd)
            go_wp2_with (first
              | (at_lookup; refine wpList_lookup_set rfl _ _ rfl rfl HS.out U_int Tryz.underlying95 U_bool (zero_bool _) x Hw.out rfl _ hd ?_)
              | (at_builtin
                 obtain ⟨i0, hi, hi0, hi1, hi2⟩ := info_parts info_int
                 go_must (refine wpList_append_rd rfl _ _ _ rfl (w.heap.size + 1) 3 i0 _ 1 8 Tryz.underlying23 hi hi0 hi1 hi2 rfl (by decide) (fun _ => rfl) one_int (s := v) (y := ⟨some ⟨wr.heap.size, 0, none⟩, 1, 1⟩) (xs := minusL (xs.take k) ys) (ys := [x]) rfl rfl (HO3.out.alloc' _) (rd_new 1 (fun _ => rfl) [_] rfl rfl rfl (by simp [maxLen])) (by simp only [maxLen]; omega) (by dsimp only; omega) (by simp; omega) ?_)
                 clear hi hi0 hi1 hi2 i0
                 intro v2 w4 hv hg hpos
                 rw [← HE.out] at hv
                 have Hv := Lib.hid hv
                 have hB4 : Below w.heap.size w w4 := Below.grown (by (repeat' (first | (with_reducible exact Below.refl _ _) | (with_reducible exact Nat.le_refl _) | (with_reducible assumption) | (with_reducible refine below_step ?_ ?_ hr) | (with_reducible refine below_over ?_ ?_ _) | (with_reducible refine Below.alloc ?_ ?_ _) | (with_reducible refine Below.setCell ?_ ?_ _) | (with_reducible refine below_put ?_ ?_ _) | (with_reducible refine Below.drew ?_) | (with_reducible refine below_drewN_ ?_ _) | (with_reducible refine le_drewN ?_ _) | (with_reducible refine over_le _ _ _ ?_) | (with_reducible refine le_alloc ?_ _) | (with_reducible refine le_setCell ?_ _ _) | (with_reducible refine le_put ?_ _ _) | (with_reducible refine le_drew ?_) | dsimp only | omega | ((try simp only [World.size_alloc, World.size_setCell, World.size_drew, size_put]); omega) | (simp; done)))) hg (by simp; omega) (fun g hg2 => by have := (HO3.out.block g hg2).1; omega)
                 have HS4 := Lib.hid ((HS.out.kept (World.grownBy_alloc _ _ none) (by simp)).kept hg (fun e => by have := (HO3.out.block _ e.symm).1; omega))
                 have hz4 : w.heap.size + 1 ≤ w4.heap.size := (by have := hg.size; simp at this; omega)
                 clear hv hg hpos))
            go_roundw
            case rel => exact ⟨k + 1, v2, by omega, rfl, by go_num, Hv, HS4, hB4, hz4⟩
            case measure => (simp [intOf] <;> omega)
          · have HE := Lib.hid (minus_not Hx0.out hd)
            go_wp2_with (at_lookup; refine wpList_lookup_set rfl _ _ rfl rfl HS.out U_int Tryz.underlying95 U_bool (zero_bool _) x Hw.out rfl _ hd ?_)
            go_roundw
            case rel => exact ⟨k + 1, v, by omega, rfl, by go_num, Lib.hid (by go_light; rw [HE.out]; exact HO3.out), HS, by go_light; (repeat' (first | (with_reducible exact Below.refl _ _) | (with_reducible exact Nat.le_refl _) | (with_reducible assumption) | (with_reducible refine below_step ?_ ?_ hr) | (with_reducible refine below_over ?_ ?_ _) | (with_reducible refine Below.alloc ?_ ?_ _) | (with_reducible refine Below.setCell ?_ ?_ _) | (with_reducible refine below_put ?_ ?_ _) | (with_reducible refine Below.drew ?_) | (with_reducible refine below_drewN_ ?_ _) | (with_reducible refine le_drewN ?_ _) | (with_reducible refine over_le _ _ _ ?_) | (with_reducible refine le_alloc ?_ _) | (with_reducible refine le_setCell ?_ _ _) | (with_reducible refine le_put ?_ _ _) | (with_reducible refine le_drew ?_) | dsimp only | omega | ((try simp only [World.size_alloc, World.size_setCell, World.size_drew, size_put]); omega) | (simp; done))), by omega⟩
            case measure => (simp [intOf] <;> omega)
        · have HE : Hid (xs.take k = xs) := List.take_of_length_le (by rw [Hn.out]; omega)
          rw [HE.out] at HO3
          have hln : v.n ≤ 4000 := by omega
          go_wp2_with (first
            | (go_at_call 72; refine (sort_own _ _ v _ HO3.out (by omega) (by omega)).mono ?_; rintro e w5 ⟨rfl, hb5, hv5⟩; have HV5 := Lib.hid hv5; have hB5 : Below w.heap.size w w5 := hB.trans (hb5.mono (by omega)); have hz5 := hb5.size; clear hv5 hb5)
            | (go_at_call 73; refine (compact_own _ _ v _ HV5.out (by omega) (by rw [compact_set]; have h := setI_len (minusL xs ys); simpa [sortI] using h) (by omega)).mono ?_; rintro e w6 ⟨v6, rfl, hb6, hv6⟩; have HV6 := Lib.hid hv6; have hB6 : Below w.heap.size w w6 := hB5.trans (hb6.mono (by omega)); clear hv6 hb6))
          go_ret
          exact ⟨v6, rfl, by go_light; (repeat' (first | (with_reducible exact Below.refl _ _) | (with_reducible exact Nat.le_refl _) | (with_reducible assumption) | (with_reducible refine below_step ?_ ?_ hr) | (with_reducible refine below_over ?_ ?_ _) | (with_reducible refine Below.alloc ?_ ?_ _) | (with_reducible refine Below.setCell ?_ ?_ _) | (with_reducible refine below_put ?_ ?_ _) | (with_reducible refine Below.drew ?_) | (with_reducible refine below_drewN_ ?_ _) | (with_reducible refine le_drewN ?_ _) | (with_reducible refine over_le _ _ _ ?_) | (with_reducible refine le_alloc ?_ _) | (with_reducible refine le_setCell ?_ _ _) | (with_reducible refine le_put ?_ _ _) | (with_reducible refine le_drew ?_) | dsimp only | omega | ((try simp only [World.size_alloc, World.size_setCell, World.size_drew, size_put]); omega) | (simp; done))), by go_light; rw [← HV.out, woF, ← compact_set]; exact HV6.out.base (by omega)⟩
end Go.Proofs.YtfajjgkhanjcfaaGreat
