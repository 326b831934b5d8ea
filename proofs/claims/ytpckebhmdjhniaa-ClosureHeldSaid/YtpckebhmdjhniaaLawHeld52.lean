/-
  ClosureHeld: for every list of closures, every script of Close and Open, and every key the statement's function returns true. No condition.
-/
import Derived.Test.YtpckebhmdjhniaaRows
import Derived.Test.YtpckebhmdjhniaaCloOpenA
import Derived.Test.YtpckebhmdjhniaaCloRt
import Derived.Test.YtpckebhmdjhniaaCloLaw2
import Derived.Test.YtpckebhmdjhniaaOrdQ
import Derived.Below
namespace Go.Proofs.Ytpckebhmdjhniaa.lawHeld52
set_option linter.unusedSimpArgs false
set_option linter.unusedVariables false
open Go.ChangeShapes Go.WideShapes Go.ChangeAt Go.RowKit
/-- What a change that is carried out leaves. -/
structure StepC (op : Bool) (c : CV) (q : KV) (xs Z : List CV) : Prop where
  good : GoodC Z
  other : ¬ c.key = q → decide (0 ≤ placeF q xs 0) = decide (0 ≤ placeF q Z 0)
  same : 0 ≤ placeF q xs 0 → ∀ d ∈ Z, d.key = q → d ∈ xs
  flag : c.key = q → decide (0 ≤ placeF q Z 0) = !op
theorem open_step {xs : List CV} {c : CV} {q : KV} (hg : GoodC xs) (hE : openE c.key xs = 0) : StepC true c q xs (openF c.key xs) := by
  have hp : 0 ≤ placeF c.key xs 0 := by
    unfold openE at hE
    split at hE
    · assumption
    · omega
  have hF : openF c.key xs = dropC c.key xs := by rw [openF, if_pos hp]
  rw [hF]
  obtain ⟨h1, -, h3⟩ := hg.drop hp
  refine ⟨h1, fun hk => place_of_mem ?_, fun _ d hd _ => ((h3 d).1 hd).1, fun hk => ?_⟩
  · constructor
    · rintro ⟨d, hd, hq⟩; exact ⟨d, (h3 d).2 ⟨hd, fun e => hk (by rw [← e, hq])⟩, hq⟩
    · rintro ⟨d, hd, hq⟩; exact ⟨d, ((h3 d).1 hd).1, hq⟩
  · subst hk
    have hn : ¬ 0 ≤ placeF c.key (dropC c.key xs) 0 := fun h => by
      obtain ⟨d, hd, hk⟩ := (place_iff (Int.le_refl 0)).1 h
      exact ((h3 d).1 hd).2 hk
    simpa using hn
theorem close_step {xs : List CV} {c : CV} {q : KV} (hg : GoodC xs) (hE : closeE c xs = 0) : StepC false c q xs (closeF c xs) := by
  have hm : mayF c = true := by
    unfold closeE at hE
    split at hE
    · omega
    · rename_i h; simpa using h
  by_cases hp : 0 ≤ placeF c.key xs 0
  · have hF : closeF c xs = xs := by rw [closeF, if_neg (by rw [hm]; simp), if_pos hp]
    rw [hF]
    exact ⟨hg, fun _ => rfl, fun _ d hd _ => hd, fun hk => by subst hk; simpa using hp⟩
  · have hl : ¬ 200 ≤ xs.length := by
      intro h
      unfold closeE at hE
      rw [if_neg (by rw [hm]; simp), if_neg hp, if_pos h] at hE
      omega
    have hF : closeF c xs = xs ++ [c] := by rw [closeF, if_neg (by rw [hm]; simp), if_neg hp, if_neg hl]
    rw [hF]
    refine ⟨hg.add hm hp hl, fun hk => place_of_mem ?_, fun hq d hd hk => ?_, fun hk => ?_⟩
    · constructor
      · rintro ⟨d, hd, hq⟩; exact ⟨d, List.mem_append_left _ hd, hq⟩
      · rintro ⟨d, hd, hq⟩
        rcases List.mem_append.1 hd with hd | hd
        · exact ⟨d, hd, hq⟩
        · rw [List.mem_singleton.1 hd] at hq; exact absurd hq hk
    · rcases List.mem_append.1 hd with hd | hd
      · exact hd
      · rw [List.mem_singleton.1 hd] at hk
        subst hk
        exact absurd hq hp
    · subst hk
      have : 0 ≤ placeF c.key (xs ++ [c]) 0 := (place_iff (Int.le_refl 0)).2 ⟨c, by simp, rfl⟩
      simpa using this
theorem open_err {xs : List CV} {q : KV} (hE : ¬ openE q xs = 0) : openF q xs = [] := by
  unfold openE at hE
  unfold openF
  split
  · rename_i h; rw [if_pos h] at hE; exact absurd rfl hE
  · rfl
theorem close_err {xs : List CV} {c : CV} (hE : ¬ closeE c xs = 0) : closeF c xs = [] := by
  unfold closeE at hE
  unfold closeF
  by_cases h1 : mayF c = false
  · rw [if_pos h1]
  · rw [if_neg h1] at hE ⊢
    by_cases h2 : 0 ≤ placeF c.key xs 0
    · rw [if_pos h2] at hE; exact absurd rfl hE
    · rw [if_neg h2] at hE ⊢
      by_cases h3 : 200 ≤ xs.length
      · rw [if_pos h3]
      · rw [if_neg h3] at hE; exact absurd rfl hE
theorem Rd.op {w : World} {s : Sl} {xs : List OpV} (h : Rd w OpV.enc s xs) {k : Nat} (hk : k < s.n) : ∃ b off, ∃ x : OpV, s.a = some ⟨b, off, none⟩ ∧ b < w.heap.size ∧
    w.cell? ⟨b, off + k * 5, none⟩ = some (.bool x.open_) ∧ w.cell? ⟨b, off + k * 5 + 1, none⟩ = some (.int .i64 x.c.kind) ∧ w.cell? ⟨b, off + k * 5 + 2, none⟩ = some (.int .i64 x.c.target) ∧ w.cell? ⟨b, off + k * 5 + 3, none⟩ = some (.int .i64 x.c.by_) ∧ w.cell? ⟨b, off + k * 5 + 4, none⟩ = some (.int .i64 x.c.since) := by
  obtain ⟨b, off, x, e, hb, -, -, hc⟩ := h.step hk
  exact ⟨b, off, x, e, hb, hc 0 _ rfl, hc 1 _ rfl, hc 2 _ rfl, hc 3 _ rfl, hc 4 _ rfl⟩

set_option maxRecDepth 100000 in
set_option maxHeartbeats 12800000 in
theorem walk (s : Sl) (xs : List CV) (so : Sl) (os : List OpV) (q : KV) (w : World) (hs : Rd w CV.enc s xs) (ho : Rd w OpV.enc so os) : Calls Try.prog 6 #[s.val, so.val, q.val] w fun e w' => e = .returned (.bool true) ∧ Below w.heap.size w w' := by
  have Hr := Lib.hid (fun w' (h : Below w.heap.size w w') => law52_right s xs w' (hs.toW h))
  obtain ⟨O, n, oc⟩ := so
  have hmax : n ≤ 9223372036854775807 := ho.bound
  by_cases hr : rightC xs = 0
  · have HG := Lib.hid (right_good hr)
    have Hs := Lib.hid hs
    have Ho := Lib.hid ho
    rw [hr] at Hr
    obtain ⟨A, n1, c1⟩ := s
    clear hs hr ho
    simp only [Sl.val] at Hr ⊢
    by_cases h80 : 80 < n
    · have h80b : decide ((80 : Int) < n) = true := by simp; omega
      (go_enter Try.func6, Try.ntmps6; try dsimp only [List.append])
      go_wp2_with fail
      refine (law52_alive _).mono ?_
      rintro e w1 hg
      obtain ⟨rfl, hb⟩ := hg.below
      clear hg
      have hz := hb.size
      (try simp only [World.size_alloc, World.size_setCell, World.size_drew, size_put] at hz)
      have hB : Below w.heap.size w w1 := below_step (by (repeat' (first | (with_reducible exact Below.refl _ _) | (with_reducible exact Nat.le_refl _) | (with_reducible assumption) | (with_reducible refine below_step ?_ ?_ hr) | (with_reducible refine below_over ?_ ?_ _) | (with_reducible refine Below.alloc ?_ ?_ _) | (with_reducible refine Below.setCell ?_ ?_ _) | (with_reducible refine below_put ?_ ?_ _) | (with_reducible refine Below.drew ?_) | (with_reducible refine below_drewN_ ?_ _) | (with_reducible refine le_drewN ?_ _) | (with_reducible refine over_le _ _ _ ?_) | (with_reducible refine le_alloc ?_ _) | (with_reducible refine le_setCell ?_ _ _) | (with_reducible refine le_put ?_ _ _) | (with_reducible refine le_drew ?_) | dsimp only | omega | ((try simp only [World.size_alloc, World.size_setCell, World.size_drew, size_put]); omega) | (simp; done)))) (by (first | omega | ((try simp only [World.size_alloc, World.size_setCell, World.size_drew, size_put]); omega))) hb
      clear hb
      go_wp2_with fail
      refine (Hr.out _ (by (repeat' (first | (with_reducible exact Below.refl _ _) | (with_reducible exact Nat.le_refl _) | (with_reducible assumption) | (with_reducible refine below_step ?_ ?_ hr) | (with_reducible refine below_over ?_ ?_ _) | (with_reducible refine Below.alloc ?_ ?_ _) | (with_reducible refine Below.setCell ?_ ?_ _) | (with_reducible refine below_put ?_ ?_ _) | (with_reducible refine Below.drew ?_) | (with_reducible refine below_drewN_ ?_ _) | (with_reducible refine le_drewN ?_ _) | (with_reducible refine over_le _ _ _ ?_) | (with_reducible refine le_alloc ?_ _) | (with_reducible refine le_setCell ?_ _ _) | (with_reducible refine le_put ?_ _ _) | (with_reducible refine le_drew ?_) | dsimp only | omega | ((try simp only [World.size_alloc, World.size_setCell, World.size_drew, size_put]); omega) | (simp; done))))).mono ?_
      rintro e w2 hg
      obtain ⟨rfl, hb⟩ := hg.below
      clear hg
      have hz := hb.size
      (try simp only [World.size_alloc, World.size_setCell, World.size_drew, size_put] at hz)
      have hB : Below w.heap.size w w2 := below_step (by (repeat' (first | (with_reducible exact Below.refl _ _) | (with_reducible exact Nat.le_refl _) | (with_reducible assumption) | (with_reducible refine below_step ?_ ?_ hr) | (with_reducible refine below_over ?_ ?_ _) | (with_reducible refine Below.alloc ?_ ?_ _) | (with_reducible refine Below.setCell ?_ ?_ _) | (with_reducible refine below_put ?_ ?_ _) | (with_reducible refine Below.drew ?_) | (with_reducible refine below_drewN_ ?_ _) | (with_reducible refine le_drewN ?_ _) | (with_reducible refine over_le _ _ _ ?_) | (with_reducible refine le_alloc ?_ _) | (with_reducible refine le_setCell ?_ _ _) | (with_reducible refine le_put ?_ _ _) | (with_reducible refine le_drew ?_) | dsimp only | omega | ((try simp only [World.size_alloc, World.size_setCell, World.size_drew, size_put]); omega) | (simp; done)))) (by (first | omega | ((try simp only [World.size_alloc, World.size_setCell, World.size_drew, size_put]); omega))) hb
      clear hb
      go_wp2_with fail
      go_ret
      exact ⟨rfl, by go_light; (repeat' (first | (with_reducible exact Below.refl _ _) | (with_reducible exact Nat.le_refl _) | (with_reducible assumption) | (with_reducible refine below_step ?_ ?_ hr) | (with_reducible refine below_over ?_ ?_ _) | (with_reducible refine Below.alloc ?_ ?_ _) | (with_reducible refine Below.setCell ?_ ?_ _) | (with_reducible refine below_put ?_ ?_ _) | (with_reducible refine Below.drew ?_) | (with_reducible refine below_drewN_ ?_ _) | (with_reducible refine le_drewN ?_ _) | (with_reducible refine over_le _ _ _ ?_) | (with_reducible refine le_alloc ?_ _) | (with_reducible refine le_setCell ?_ _ _) | (with_reducible refine le_put ?_ _ _) | (with_reducible refine le_drew ?_) | dsimp only | omega | ((try simp only [World.size_alloc, World.size_setCell, World.size_drew, size_put]); omega) | (simp; done)))⟩
    have h80b : decide ((80 : Int) < n) = false := by simp; omega
    (go_enter Try.func6, Try.ntmps6; try dsimp only [List.append])
    go_wp2_with fail
    refine (law52_alive _).mono ?_
    rintro e w0 hg
    obtain ⟨rfl, hb⟩ := hg.below
    clear hg
    have hz := hb.size
    (try simp only [World.size_alloc, World.size_setCell, World.size_drew, size_put] at hz)
    have hB : Below w.heap.size w w0 := below_step (by (repeat' (first | (with_reducible exact Below.refl _ _) | (with_reducible exact Nat.le_refl _) | (with_reducible assumption) | (with_reducible refine below_step ?_ ?_ hr) | (with_reducible refine below_over ?_ ?_ _) | (with_reducible refine Below.alloc ?_ ?_ _) | (with_reducible refine Below.setCell ?_ ?_ _) | (with_reducible refine below_put ?_ ?_ _) | (with_reducible refine Below.drew ?_) | (with_reducible refine below_drewN_ ?_ _) | (with_reducible refine le_drewN ?_ _) | (with_reducible refine over_le _ _ _ ?_) | (with_reducible refine le_alloc ?_ _) | (with_reducible refine le_setCell ?_ _ _) | (with_reducible refine le_put ?_ _ _) | (with_reducible refine le_drew ?_) | dsimp only | omega | ((try simp only [World.size_alloc, World.size_setCell, World.size_drew, size_put]); omega) | (simp; done)))) (by (first | omega | ((try simp only [World.size_alloc, World.size_setCell, World.size_drew, size_put]); omega))) hb
    have Q' : w0.heap[w.heap.size]? = _ := hb.block (w.heap.size) (by (first | omega | ((try simp only [World.size_alloc, World.size_setCell, World.size_drew, size_put]); omega)))
    simp only [alloc_block_if, put_block_if, over_block_if, set_block_if, setObj_cells, drew_block, drewN_block, Option.map_some, List.setIfInBounds_toArray, List.set_cons_zero, List.set_cons_succ, World.size_alloc, World.size_setCell, size_put, World.size_drew, if_true, if_false, ↓IntWalk.iteOmega] at Q'
    have Q_0 := Q'
    clear Q'
    have q_0 := cell_of_block Q_0
    clear hb
    go_wp2_with fail
    refine (Hr.out _ (by (repeat' (first | (with_reducible exact Below.refl _ _) | (with_reducible exact Nat.le_refl _) | (with_reducible assumption) | (with_reducible refine below_step ?_ ?_ hr) | (with_reducible refine below_over ?_ ?_ _) | (with_reducible refine Below.alloc ?_ ?_ _) | (with_reducible refine Below.setCell ?_ ?_ _) | (with_reducible refine below_put ?_ ?_ _) | (with_reducible refine Below.drew ?_) | (with_reducible refine below_drewN_ ?_ _) | (with_reducible refine le_drewN ?_ _) | (with_reducible refine over_le _ _ _ ?_) | (with_reducible refine le_alloc ?_ _) | (with_reducible refine le_setCell ?_ _ _) | (with_reducible refine le_put ?_ _ _) | (with_reducible refine le_drew ?_) | dsimp only | omega | ((try simp only [World.size_alloc, World.size_setCell, World.size_drew, size_put]); omega) | (simp; done))))).mono ?_
    rintro e w1 hg
    obtain ⟨rfl, hb⟩ := hg.below
    clear hg
    have hz := hb.size
    (try simp only [World.size_alloc, World.size_setCell, World.size_drew, size_put] at hz)
    have hB : Below w.heap.size w w1 := below_step (by (repeat' (first | (with_reducible exact Below.refl _ _) | (with_reducible exact Nat.le_refl _) | (with_reducible assumption) | (with_reducible refine below_step ?_ ?_ hr) | (with_reducible refine below_over ?_ ?_ _) | (with_reducible refine Below.alloc ?_ ?_ _) | (with_reducible refine Below.setCell ?_ ?_ _) | (with_reducible refine below_put ?_ ?_ _) | (with_reducible refine Below.drew ?_) | (with_reducible refine below_drewN_ ?_ _) | (with_reducible refine le_drewN ?_ _) | (with_reducible refine over_le _ _ _ ?_) | (with_reducible refine le_alloc ?_ _) | (with_reducible refine le_setCell ?_ _ _) | (with_reducible refine le_put ?_ _ _) | (with_reducible refine le_drew ?_) | dsimp only | omega | ((try simp only [World.size_alloc, World.size_setCell, World.size_drew, size_put]); omega) | (simp; done)))) (by (first | omega | ((try simp only [World.size_alloc, World.size_setCell, World.size_drew, size_put]); omega))) hb
    have Q' : w1.heap[w.heap.size]? = _ := hb.block (w.heap.size) (by (first | omega | ((try simp only [World.size_alloc, World.size_setCell, World.size_drew, size_put]); omega)))
    simp only [alloc_block_if, put_block_if, over_block_if, set_block_if, setObj_cells, drew_block, drewN_block, Option.map_some, List.setIfInBounds_toArray, List.set_cons_zero, List.set_cons_succ, World.size_alloc, World.size_setCell, size_put, World.size_drew, if_true, if_false, ↓IntWalk.iteOmega, Q_0] at Q'
    clear Q_0
    have Q_0 := Q'
    clear Q'
    have q_0 := cell_of_block Q_0
    clear hb
    go_wp2_with fail
    clear q_0
    have hB1 := hB
    have Hs1 := Lib.hid (Hs.out.toW hB1)
    go_loopw [0, 7] (fun l i wr => ∃ (k : Nat) (v : Sl) (ys : List CV), k ≤ n ∧ l = v.val ∧ i = .int .i64 k ∧ Hid (GoodC ys) ∧ Hid (Rd wr CV.enc v ys) ∧ Below w1.heap.size w1 wr) (fun _ i _ => n - (intOf i).toNat)
    case atStart => exact ⟨0, ⟨A, n1, c1⟩, xs, Nat.zero_le _, rfl, rfl, HG, Hs1, Below.refl _ _⟩
    case round =>
      clear Hs Hs1 HG Hr
      obtain ⟨k, ⟨A0, n0, c0⟩, ys, hk, rfl, rfl, Hg, Hy, hBr⟩ := hrel
      have hzr := hBr.size
      have hBw : Below w.heap.size w wr := hB1.trans (hBr.mono (by omega))
      have Q_0 := (hBr.block _ (by omega)).trans Q_0
      have q_0 := cell_of_block Q_0
      dsimp only [Sl.val]
      by_cases hlt : k < n
      · obtain ⟨b, off, ⟨op, c⟩, rfl, hbw, hc0, hc1, hc2, hc3, hc4⟩ := Rd.op Ho.out hlt
        dsimp only at hc0 hc1 hc2 hc3 hc4
        have e0 := (hBw.cell (p := ⟨b, _, none⟩) hbw).trans hc0
        have e1 := (hBw.cell (p := ⟨b, _, none⟩) hbw).trans hc1
        have e2 := (hBw.cell (p := ⟨b, _, none⟩) hbw).trans hc2
        have e3 := (hBw.cell (p := ⟨b, _, none⟩) hbw).trans hc3
        have e4 := (hBw.cell (p := ⟨b, _, none⟩) hbw).trans hc4
        clear hc1 hc2 hc3 hc4 Ho
        have hn0 : n0 ≤ 200 := by have h1 := Hg.out.len; have h2 := Hy.out.len; dsimp only at h2; omega
        have HW : Hid (Rd wr CV.enc ⟨A0, n0, c0⟩ ys → ∀ w', Below wr.heap.size wr w' → Calls Try.prog 26 #[.slice A0 n0 c0, .int .i64 q.kind, .int .i64 q.target, .int .i64 q.by_] w' (Gives (.int .i64 (placeF q ys 0)) w')) := fun h w' hb => ref52_Place ⟨A0, n0, c0⟩ ys q w' (h.toW hb)
        have HW := Lib.hid (HW.out Hy.out)
        generalize hW : placeF q ys 0 = W at HW
        cases op
        · by_cases hE : closeE c ys = 0
          · have HS := Lib.hid (close_step (q := q) Hg.out hE)
            have HC : Hid (Rd wr CV.enc ⟨A0, n0, c0⟩ ys → ∀ w', Below wr.heap.size wr w' → Calls Try.prog 13 #[.slice A0 n0 c0, c.val] w' (COPost (closeF c ys) 0 w')) := fun h w' hb => by
              have h2 := closure_Close ⟨A0, n0, c0⟩ ys c w' (h.toW hb) (by dsimp only; omega)
              rw [hE] at h2
              exact h2
            have HC := Lib.hid (HC.out Hy.out)
            clear hE
            generalize closeF c ys = Z at HS HC
            have HGZ := Lib.hid HS.out.good
            have HN : Hid (∀ (v : Sl) w', Rd w' CV.enc v Z → Calls Try.prog 26 #[v.val, .int .i64 q.kind, .int .i64 q.target, .int .i64 q.by_] w' (Gives (.int .i64 (placeF q Z 0)) w')) := fun v w' h => ref52_Place v Z q w' h
            have HR : Hid (∀ (v : Sl) w', Rd w' CV.enc v Z → Calls Try.prog 10 #[v.val] w' (Gives (.int .i64 0) w')) := fun v w' h => right_is HGZ.out.right h
            have HO : Hid (∀ (v : Sl) w', Rd w' CV.enc v Z → Calls Try.prog 20 #[v.val, .int .i64 q.kind, .int .i64 q.target] w' (OwnIPost (sortI (ofC q.kind q.target Z)) w')) := fun v w' h => closure_Of v Z _ _ w' h (by have h1 := h.len; have h2 := HGZ.out.len; omega)
            generalize hN : placeF q Z 0 = N at HN
            go_wp2_with fail
            refine (HW.out _ (by (repeat' (first | (with_reducible exact Below.refl _ _) | (with_reducible exact Nat.le_refl _) | (with_reducible assumption) | (with_reducible refine below_step ?_ ?_ hr) | (with_reducible refine below_over ?_ ?_ _) | (with_reducible refine Below.alloc ?_ ?_ _) | (with_reducible refine Below.setCell ?_ ?_ _) | (with_reducible refine below_put ?_ ?_ _) | (with_reducible refine Below.drew ?_) | (with_reducible refine below_drewN_ ?_ _) | (with_reducible refine le_drewN ?_ _) | (with_reducible refine over_le _ _ _ ?_) | (with_reducible refine le_alloc ?_ _) | (with_reducible refine le_setCell ?_ _ _) | (with_reducible refine le_put ?_ _ _) | (with_reducible refine le_drew ?_) | dsimp only | omega | ((try simp only [World.size_alloc, World.size_setCell, World.size_drew, size_put]); omega) | (simp; done))))).mono ?_
            rintro e w2 hg
            obtain ⟨rfl, hb⟩ := hg.below
            clear hg
            have hz := hb.size
            (try simp only [World.size_alloc, World.size_setCell, World.size_drew, size_put] at hz)
            have hB : Below wr.heap.size wr w2 := below_step (by (repeat' (first | (with_reducible exact Below.refl _ _) | (with_reducible exact Nat.le_refl _) | (with_reducible assumption) | (with_reducible refine below_step ?_ ?_ hr) | (with_reducible refine below_over ?_ ?_ _) | (with_reducible refine Below.alloc ?_ ?_ _) | (with_reducible refine Below.setCell ?_ ?_ _) | (with_reducible refine below_put ?_ ?_ _) | (with_reducible refine Below.drew ?_) | (with_reducible refine below_drewN_ ?_ _) | (with_reducible refine le_drewN ?_ _) | (with_reducible refine over_le _ _ _ ?_) | (with_reducible refine le_alloc ?_ _) | (with_reducible refine le_setCell ?_ _ _) | (with_reducible refine le_put ?_ _ _) | (with_reducible refine le_drew ?_) | dsimp only | omega | ((try simp only [World.size_alloc, World.size_setCell, World.size_drew, size_put]); omega) | (simp; done)))) (by (first | omega | ((try simp only [World.size_alloc, World.size_setCell, World.size_drew, size_put]); omega))) hb
            have Hy := Lib.hid (Hy.out.toW (below_step (by (repeat' (first | (with_reducible exact Below.refl _ _) | (with_reducible exact Nat.le_refl _) | (with_reducible assumption) | (with_reducible refine below_step ?_ ?_ hr) | (with_reducible refine below_over ?_ ?_ _) | (with_reducible refine Below.alloc ?_ ?_ _) | (with_reducible refine Below.setCell ?_ ?_ _) | (with_reducible refine below_put ?_ ?_ _) | (with_reducible refine Below.drew ?_) | (with_reducible refine below_drewN_ ?_ _) | (with_reducible refine le_drewN ?_ _) | (with_reducible refine over_le _ _ _ ?_) | (with_reducible refine le_alloc ?_ _) | (with_reducible refine le_setCell ?_ _ _) | (with_reducible refine le_put ?_ _ _) | (with_reducible refine le_drew ?_) | dsimp only | omega | ((try simp only [World.size_alloc, World.size_setCell, World.size_drew, size_put]); omega) | (simp; done)))) (by (first | omega | ((try simp only [World.size_alloc, World.size_setCell, World.size_drew, size_put]); omega))) hb))
            have Q' : w2.heap[w.heap.size]? = _ := hb.block (w.heap.size) (by (first | omega | ((try simp only [World.size_alloc, World.size_setCell, World.size_drew, size_put]); omega)))
            simp only [alloc_block_if, put_block_if, over_block_if, set_block_if, setObj_cells, drew_block, drewN_block, Option.map_some, List.setIfInBounds_toArray, List.set_cons_zero, List.set_cons_succ, World.size_alloc, World.size_setCell, size_put, World.size_drew, if_true, if_false, ↓IntWalk.iteOmega, Q_0] at Q'
            clear Q_0
            have Q_0 := Q'
            clear Q'
            have Q' : w2.heap[wr.heap.size]? = _ := hb.block (wr.heap.size) (by (first | omega | ((try simp only [World.size_alloc, World.size_setCell, World.size_drew, size_put]); omega)))
            simp only [alloc_block_if, put_block_if, over_block_if, set_block_if, setObj_cells, drew_block, drewN_block, Option.map_some, List.setIfInBounds_toArray, List.set_cons_zero, List.set_cons_succ, World.size_alloc, World.size_setCell, size_put, World.size_drew, if_true, if_false, ↓IntWalk.iteOmega] at Q'
            have Qwr_0 := Q'
            clear Q'
            have q_0 := cell_of_block Q_0
            have qwr_0 := cell_of_block Qwr_0
            clear hb
            have hBw2 : Below w.heap.size w w2 := hBw.trans (hB.mono (by omega))
            have f0 := (hBw2.cell (p := ⟨b, _, none⟩) hbw).trans hc0
            clear e0 e1 e2 e3 e4
            go_wp2_with fail
            refine (HC.out _ (by (repeat' (first | (with_reducible exact Below.refl _ _) | (with_reducible exact Nat.le_refl _) | (with_reducible assumption) | (with_reducible refine below_step ?_ ?_ hr) | (with_reducible refine below_over ?_ ?_ _) | (with_reducible refine Below.alloc ?_ ?_ _) | (with_reducible refine Below.setCell ?_ ?_ _) | (with_reducible refine below_put ?_ ?_ _) | (with_reducible refine Below.drew ?_) | (with_reducible refine below_drewN_ ?_ _) | (with_reducible refine le_drewN ?_ _) | (with_reducible refine over_le _ _ _ ?_) | (with_reducible refine le_alloc ?_ _) | (with_reducible refine le_setCell ?_ _ _) | (with_reducible refine le_put ?_ _ _) | (with_reducible refine le_drew ?_) | dsimp only | omega | ((try simp only [World.size_alloc, World.size_setCell, World.size_drew, size_put]); omega) | (simp; done))))).mono ?_
            rintro e w3 ⟨⟨B, m, d⟩, rfl, hb, hv⟩
            have HZ := Lib.hid (hv.rd (fun _ => rfl))
            clear hv
            dsimp only [Sl.val]
            have hz := hb.size
            (try simp only [World.size_alloc, World.size_setCell, World.size_drew, size_put] at hz)
            have hB : Below wr.heap.size wr w3 := below_step (by (repeat' (first | (with_reducible exact Below.refl _ _) | (with_reducible exact Nat.le_refl _) | (with_reducible assumption) | (with_reducible refine below_step ?_ ?_ hr) | (with_reducible refine below_over ?_ ?_ _) | (with_reducible refine Below.alloc ?_ ?_ _) | (with_reducible refine Below.setCell ?_ ?_ _) | (with_reducible refine below_put ?_ ?_ _) | (with_reducible refine Below.drew ?_) | (with_reducible refine below_drewN_ ?_ _) | (with_reducible refine le_drewN ?_ _) | (with_reducible refine over_le _ _ _ ?_) | (with_reducible refine le_alloc ?_ _) | (with_reducible refine le_setCell ?_ _ _) | (with_reducible refine le_put ?_ _ _) | (with_reducible refine le_drew ?_) | dsimp only | omega | ((try simp only [World.size_alloc, World.size_setCell, World.size_drew, size_put]); omega) | (simp; done)))) (by (first | omega | ((try simp only [World.size_alloc, World.size_setCell, World.size_drew, size_put]); omega))) hb
            have Hy := Lib.hid (Hy.out.toW (below_step (by (repeat' (first | (with_reducible exact Below.refl _ _) | (with_reducible exact Nat.le_refl _) | (with_reducible assumption) | (with_reducible refine below_step ?_ ?_ hr) | (with_reducible refine below_over ?_ ?_ _) | (with_reducible refine Below.alloc ?_ ?_ _) | (with_reducible refine Below.setCell ?_ ?_ _) | (with_reducible refine below_put ?_ ?_ _) | (with_reducible refine Below.drew ?_) | (with_reducible refine below_drewN_ ?_ _) | (with_reducible refine le_drewN ?_ _) | (with_reducible refine over_le _ _ _ ?_) | (with_reducible refine le_alloc ?_ _) | (with_reducible refine le_setCell ?_ _ _) | (with_reducible refine le_put ?_ _ _) | (with_reducible refine le_drew ?_) | dsimp only | omega | ((try simp only [World.size_alloc, World.size_setCell, World.size_drew, size_put]); omega) | (simp; done)))) (by (first | omega | ((try simp only [World.size_alloc, World.size_setCell, World.size_drew, size_put]); omega))) hb))
            have Q' : w3.heap[w.heap.size]? = _ := hb.block (w.heap.size) (by (first | omega | ((try simp only [World.size_alloc, World.size_setCell, World.size_drew, size_put]); omega)))
            simp only [alloc_block_if, put_block_if, over_block_if, set_block_if, setObj_cells, drew_block, drewN_block, Option.map_some, List.setIfInBounds_toArray, List.set_cons_zero, List.set_cons_succ, World.size_alloc, World.size_setCell, size_put, World.size_drew, if_true, if_false, ↓IntWalk.iteOmega, Q_0] at Q'
            clear Q_0
            have Q_0 := Q'
            clear Q'
            have Q' : w3.heap[wr.heap.size]? = _ := hb.block (wr.heap.size) (by (first | omega | ((try simp only [World.size_alloc, World.size_setCell, World.size_drew, size_put]); omega)))
            simp only [alloc_block_if, put_block_if, over_block_if, set_block_if, setObj_cells, drew_block, drewN_block, Option.map_some, List.setIfInBounds_toArray, List.set_cons_zero, List.set_cons_succ, World.size_alloc, World.size_setCell, size_put, World.size_drew, if_true, if_false, ↓IntWalk.iteOmega, Qwr_0] at Q'
            clear Qwr_0
            have Qwr_0 := Q'
            clear Q'
            have q_0 := cell_of_block Q_0
            have qwr_0 := cell_of_block Qwr_0
            clear hb
            clear f0 hBw2
            go_wp2_with fail
            refine (HN.out ⟨B, m, d⟩ _ HZ.out).mono ?_
            rintro e w4 hg
            obtain ⟨rfl, hb⟩ := hg.below
            clear hg
            have hz := hb.size
            (try simp only [World.size_alloc, World.size_setCell, World.size_drew, size_put] at hz)
            have hB : Below wr.heap.size wr w4 := below_step (by (repeat' (first | (with_reducible exact Below.refl _ _) | (with_reducible exact Nat.le_refl _) | (with_reducible assumption) | (with_reducible refine below_step ?_ ?_ hr) | (with_reducible refine below_over ?_ ?_ _) | (with_reducible refine Below.alloc ?_ ?_ _) | (with_reducible refine Below.setCell ?_ ?_ _) | (with_reducible refine below_put ?_ ?_ _) | (with_reducible refine Below.drew ?_) | (with_reducible refine below_drewN_ ?_ _) | (with_reducible refine le_drewN ?_ _) | (with_reducible refine over_le _ _ _ ?_) | (with_reducible refine le_alloc ?_ _) | (with_reducible refine le_setCell ?_ _ _) | (with_reducible refine le_put ?_ _ _) | (with_reducible refine le_drew ?_) | dsimp only | omega | ((try simp only [World.size_alloc, World.size_setCell, World.size_drew, size_put]); omega) | (simp; done)))) (by (first | omega | ((try simp only [World.size_alloc, World.size_setCell, World.size_drew, size_put]); omega))) hb
            have Hy := Lib.hid (Hy.out.toW (below_step (by (repeat' (first | (with_reducible exact Below.refl _ _) | (with_reducible exact Nat.le_refl _) | (with_reducible assumption) | (with_reducible refine below_step ?_ ?_ hr) | (with_reducible refine below_over ?_ ?_ _) | (with_reducible refine Below.alloc ?_ ?_ _) | (with_reducible refine Below.setCell ?_ ?_ _) | (with_reducible refine below_put ?_ ?_ _) | (with_reducible refine Below.drew ?_) | (with_reducible refine below_drewN_ ?_ _) | (with_reducible refine le_drewN ?_ _) | (with_reducible refine over_le _ _ _ ?_) | (with_reducible refine le_alloc ?_ _) | (with_reducible refine le_setCell ?_ _ _) | (with_reducible refine le_put ?_ _ _) | (with_reducible refine le_drew ?_) | dsimp only | omega | ((try simp only [World.size_alloc, World.size_setCell, World.size_drew, size_put]); omega) | (simp; done)))) (by (first | omega | ((try simp only [World.size_alloc, World.size_setCell, World.size_drew, size_put]); omega))) hb))
            have HZ := Lib.hid (HZ.out.toW (below_step (by (repeat' (first | (with_reducible exact Below.refl _ _) | (with_reducible exact Nat.le_refl _) | (with_reducible assumption) | (with_reducible refine below_step ?_ ?_ hr) | (with_reducible refine below_over ?_ ?_ _) | (with_reducible refine Below.alloc ?_ ?_ _) | (with_reducible refine Below.setCell ?_ ?_ _) | (with_reducible refine below_put ?_ ?_ _) | (with_reducible refine Below.drew ?_) | (with_reducible refine below_drewN_ ?_ _) | (with_reducible refine le_drewN ?_ _) | (with_reducible refine over_le _ _ _ ?_) | (with_reducible refine le_alloc ?_ _) | (with_reducible refine le_setCell ?_ _ _) | (with_reducible refine le_put ?_ _ _) | (with_reducible refine le_drew ?_) | dsimp only | omega | ((try simp only [World.size_alloc, World.size_setCell, World.size_drew, size_put]); omega) | (simp; done)))) (by (first | omega | ((try simp only [World.size_alloc, World.size_setCell, World.size_drew, size_put]); omega))) hb))
            have Q' : w4.heap[w.heap.size]? = _ := hb.block (w.heap.size) (by (first | omega | ((try simp only [World.size_alloc, World.size_setCell, World.size_drew, size_put]); omega)))
            simp only [alloc_block_if, put_block_if, over_block_if, set_block_if, setObj_cells, drew_block, drewN_block, Option.map_some, List.setIfInBounds_toArray, List.set_cons_zero, List.set_cons_succ, World.size_alloc, World.size_setCell, size_put, World.size_drew, if_true, if_false, ↓IntWalk.iteOmega, Q_0] at Q'
            clear Q_0
            have Q_0 := Q'
            clear Q'
            have Q' : w4.heap[wr.heap.size]? = _ := hb.block (wr.heap.size) (by (first | omega | ((try simp only [World.size_alloc, World.size_setCell, World.size_drew, size_put]); omega)))
            simp only [alloc_block_if, put_block_if, over_block_if, set_block_if, setObj_cells, drew_block, drewN_block, Option.map_some, List.setIfInBounds_toArray, List.set_cons_zero, List.set_cons_succ, World.size_alloc, World.size_setCell, size_put, World.size_drew, if_true, if_false, ↓IntWalk.iteOmega, Qwr_0] at Q'
            clear Qwr_0
            have Qwr_0 := Q'
            clear Q'
            have q_0 := cell_of_block Q_0
            have qwr_0 := cell_of_block Qwr_0
            clear hb
            have hBw4 : Below w.heap.size w w4 := hBw.trans (hB.mono (by omega))
            have hBr4 : Below w1.heap.size w1 w4 := hBr.trans (hB.mono (by omega))
            have f0 := (hBw4.cell (p := ⟨b, _, none⟩) hbw).trans hc0
            have hz4 := hBw4.size
            by_cases hkey : c.key = q
            · have HF := Lib.hid (HS.out.flag hkey)
              obtain ⟨t1, t2, t3⟩ := key_same hkey
              clear hkey
              have hN0 : 0 ≤ N := by have h := HF.out; rw [hN] at h; simpa using h
              have hN1 : decide (N < 0) = false := by simp; omega
              have hN2 : decide (0 ≤ N) = true := by simp; omega
              have HH : Hid (∀ (v : Sl) w', Rd w' encI v (sortI (ofC q.kind q.target Z)) → Calls Try.prog 27 #[v.val, .int .i64 q.by_] w' (Gives (.bool true) w')) := fun v w' h => has_is (q := q) (by rw [hN]; exact hN2) h
              by_cases hW0 : 0 ≤ W
              · clear hN1 hN2
                rw [← hW] at hW0
                rw [← hN] at hN0
                obtain ⟨p, r, y, hWp, hNr, hyp, hzr2⟩ := same_at Hg.out (HS.out.same hW0) hW0 hN0
                obtain rfl : W = (p : Int) := by rw [← hW]; exact hWp
                obtain rfl : N = (r : Int) := by rw [← hN]; exact hNr
                have hp2 : p < n0 := by have h1 := (List.getElem?_eq_some_iff.1 hyp).1; have h2 := Hy.out.len; dsimp only at h2; omega
                have hr2 : r < m := by have h1 := (List.getElem?_eq_some_iff.1 hzr2).1; have h2 := HZ.out.len; dsimp only at h2; omega
                obtain ⟨b0, off0, y0, rfl, hb0, -, Hy0, d0, d1, d2, d3⟩ := Hy.out.cv hp2
                obtain ⟨b2, off2, y2, rfl, hb2, -, Hy2, g0, g1, g2, g3⟩ := HZ.out.cv hr2
                obtain rfl : y0 = y := by have h1 := Hy0.out; rw [hyp] at h1; exact (Option.some.inj h1).symm
                obtain rfl : y2 = y0 := by have h1 := Hy2.out; rw [hzr2] at h1; exact (Option.some.inj h1).symm
                clear hWp hNr hyp hzr2 Hy0 Hy2 hW hN hW0 hN0
                have hW1 : decide ((p : Int) < 0) = false := by simp
                have hW2 : decide (0 ≤ (p : Int)) = true := by simp
                have hN1 : decide ((r : Int) < 0) = false := by simp
                have hN2 : decide (0 ≤ (r : Int)) = true := by simp
                have hm2 : m ≤ 200 := by have h1 := HGZ.out.len; have h2 := HZ.out.len; dsimp only at h2; omega
                clear HS HF HN HW HC
                go_wp2_with fail
                as_aux_lemma =>
                  refine wp_region_ord (by kernel_rfl) (fun wx hr => ?_)
                  simp only [List.length_cons, List.length_nil, Nat.reduceAdd]
                  have hzx := hr.size
                  refine wpAnyH_keep (over_ex (by go_light; (repeat' (first | (with_reducible exact Below.refl _ _) | (with_reducible exact Nat.le_refl _) | (with_reducible assumption) | (with_reducible refine below_step ?_ ?_ hr) | (with_reducible refine below_over ?_ ?_ _) | (with_reducible refine Below.alloc ?_ ?_ _) | (with_reducible refine Below.setCell ?_ ?_ _) | (with_reducible refine below_put ?_ ?_ _) | (with_reducible refine Below.drew ?_) | (with_reducible refine below_drewN_ ?_ _) | (with_reducible refine le_drewN ?_ _) | (with_reducible refine over_le _ _ _ ?_) | (with_reducible refine le_alloc ?_ _) | (with_reducible refine le_setCell ?_ _ _) | (with_reducible refine le_put ?_ _ _) | (with_reducible refine le_drew ?_) | dsimp only | omega | ((try simp only [World.size_alloc, World.size_setCell, World.size_drew, size_put]); omega) | (simp; done))))) (fun hSq => ?_)
                  refine wpAnyH_one 0 rfl rfl (by kernel_rfl) (by kernel_rfl) (fun _ _ _ _ _ h => h) hSq.out ?_
                  (first | go_big_quiet_step (fail) | quiet_step (fail))
                  refine wpQuiet_nil ?_
                  refine wpAnyH_one 1 rfl rfl (by kernel_rfl) (by kernel_rfl) (fun _ _ _ _ _ h => h) hSq.out ?_
                  (first | go_big_quiet_step (fail) | quiet_step (fail))
                  refine wpQuiet_nil ?_
                  refine wpAnyH_one 2 rfl rfl (by kernel_rfl) (by kernel_rfl) (fun _ _ _ _ _ h => h) hSq.out ?_
                  (first | go_big_quiet_step (fail) | quiet_step (fail))
                  refine wpQuiet_nil ?_
                  refine wpAnyH_one 3 rfl rfl (by kernel_rfl) (by kernel_rfl) (fun _ _ _ _ _ h => h) hSq.out ?_
                  (first | go_big_quiet_step (fail) | quiet_step (fail))
                  refine wpQuiet_nil ?_
                  refine wpAnyH_one 4 rfl rfl (by kernel_rfl) (by kernel_rfl) (fun _ _ _ _ _ h => h) hSq.out ?_
                  (first | go_big_quiet_step (fail) | quiet_step (fail))
                  refine wpQuiet_nil ?_
                  refine wpAnyH_one 5 rfl rfl (by kernel_rfl) (by kernel_rfl) (fun _ _ _ _ _ h => h) hSq.out ?_
                  (first | go_big_quiet_step (fail) | quiet_step (fail))
                  refine wpQuiet_nil ?_
                  refine wpAnyH_one 6 rfl rfl (by kernel_rfl) (by kernel_rfl) (fun _ _ _ _ _ h => h) hSq.out ?_
                  (first | go_big_quiet_step (fail) | quiet_step (fail))
                  refine wpQuiet_nil ?_
                  refine wpAnyH_one 7 rfl rfl (by kernel_rfl) (by kernel_rfl) (fun _ _ _ _ _ h => h) hSq.out ?_
                  (first | go_big_quiet_step (fail) | quiet_step (fail))
                  refine wpQuiet_nil ?_
                  refine wpAnyH_one 8 rfl rfl (by kernel_rfl) (by kernel_rfl) (fun _ _ _ _ _ h => h) hSq.out ?_
                  (first | go_big_quiet_step (fail) | quiet_step (fail))
                  refine wpQuiet_nil ?_
                  refine wpAnyH_one 9 rfl rfl (by kernel_rfl) (by kernel_rfl) (fun _ _ _ _ _ h => h) hSq.out ?_
                  (first | go_big_quiet_step (fail) | quiet_step (fail))
                  refine wpQuiet_nil ?_
                  refine wpAnyH_one 10 rfl rfl (by kernel_rfl) (by kernel_rfl) (fun _ _ _ _ _ h => h) hSq.out ?_
                  (first | go_big_quiet_step (fail) | quiet_step (fail))
                  refine wpQuiet_nil ?_
                  refine wpAnyH_one 11 rfl rfl (by kernel_rfl) (by kernel_rfl) (fun _ _ _ _ _ h => h) hSq.out ?_
                  (first | go_big_quiet_step (fail) | quiet_step (fail))
                  refine wpQuiet_nil ?_
                  refine wpAnyH_one 12 rfl rfl (by kernel_rfl) (by kernel_rfl) (fun _ _ _ _ _ h => h) hSq.out ?_
                  (first | go_big_quiet_step (fail) | quiet_step (fail))
                  refine wpQuiet_nil ?_
                  refine wpAnyH_one 13 rfl rfl (by kernel_rfl) (by kernel_rfl) (fun _ _ _ _ _ h => h) hSq.out ?_
                  (first | go_big_quiet_step (fail) | quiet_step (fail))
                  refine wpQuiet_nil ?_
                  refine wpAnyH_one 14 rfl rfl (by kernel_rfl) (by kernel_rfl) (fun _ _ _ _ _ h => h) hSq.out ?_
                  (first | go_big_quiet_step (fail) | quiet_step (fail))
                  refine wpQuiet_nil ?_
                  refine wpAnyH_one 15 rfl rfl (by kernel_rfl) (by kernel_rfl) (fun _ _ _ _ _ h => h) hSq.out ?_
                  (first | go_big_quiet_step (fail) | quiet_step (fail))
                  refine wpQuiet_nil ?_
                  refine wpAnyH_one 16 rfl rfl (by kernel_rfl) (by kernel_rfl) (fun _ _ _ _ _ h => h) hSq.out ?_
                  (first | go_big_quiet_step (fail) | quiet_step (fail))
                  refine wpQuiet_nil ?_
                  refine wpAnyH_one 17 rfl rfl (by kernel_rfl) (by kernel_rfl) (fun _ _ _ _ _ h => h) hSq.out ?_
                  (first | go_big_quiet_step (fail) | quiet_step (fail))
                  refine wpQuiet_nil ?_
                  refine wpAnyH_one 18 rfl rfl (by kernel_rfl) (by kernel_rfl) (fun _ _ _ _ _ h => h) hSq.out ?_
                  (first | go_big_quiet_step (fail) | quiet_step (fail))
                  refine wpQuiet_nil ?_
                  refine wpAnyH_one 19 rfl rfl (by kernel_rfl) (by kernel_rfl) (fun _ _ _ _ _ h => h) hSq.out ?_
                  (first | go_big_quiet_step (fail) | quiet_step (fail))
                  refine wpQuiet_nil ?_
                  refine wpAnyH_one 20 rfl rfl (by kernel_rfl) (by kernel_rfl) (fun _ _ _ _ _ h => h) hSq.out ?_
                  (first | go_big_quiet_step (fail) | quiet_step (fail))
                  refine wpQuiet_nil ?_
                  refine wpAnyH_one 21 rfl rfl (by kernel_rfl) (by kernel_rfl) (fun _ _ _ _ _ h => h) hSq.out ?_
                  (first | go_big_quiet_step (fail) | quiet_step (fail))
                  refine wpQuiet_nil ?_
                  refine wpAnyH_one 22 rfl rfl (by kernel_rfl) (by kernel_rfl) (fun _ _ _ _ _ h => h) hSq.out ?_
                  (first | go_big_quiet_step (fail) | quiet_step (fail))
                  refine wpQuiet_nil ?_
                  refine wpAnyH_one 23 rfl rfl (by kernel_rfl) (by kernel_rfl) (fun _ _ _ _ _ h => h) hSq.out ?_
                  (first | go_big_quiet_step (fail) | quiet_step (fail))
                  refine wpQuiet_nil ?_
                  refine wpAnyH_one 24 rfl rfl (by kernel_rfl) (by kernel_rfl) (fun _ _ _ _ _ h => h) hSq.out ?_
                  (first | go_big_quiet_step (fail) | quiet_step (fail))
                  refine wpQuiet_nil ?_
                  refine wpAnyH_one 25 rfl rfl (by kernel_rfl) (by kernel_rfl) (fun _ _ _ _ _ h => h) hSq.out ?_
                  (first | go_big_quiet_step (fail) | quiet_step (fail))
                  refine wpQuiet_nil ?_
                  refine wpAnyH_one 26 rfl rfl (by kernel_rfl) (by kernel_rfl) (fun _ _ _ _ _ h => h) hSq.out ?_
                  (first | go_big_quiet_step (fail) | quiet_step (fail))
                  refine wpQuiet_nil ?_
                  refine wpAnyH_one 27 rfl rfl (by kernel_rfl) (by kernel_rfl) (fun _ _ _ _ _ h => h) hSq.out ?_
                  (first | go_big_quiet_step (fail) | quiet_step (fail))
                  refine wpQuiet_nil ?_
                  refine wpAnyH_one 28 rfl rfl (by kernel_rfl) (by kernel_rfl) (fun _ _ _ _ _ h => h) hSq.out ?_
                  (first | go_big_quiet_step (fail) | quiet_step (fail))
                  refine wpQuiet_nil ?_
                  refine wpAnyH_one 29 rfl rfl (by kernel_rfl) (by kernel_rfl) (fun _ _ _ _ _ h => h) hSq.out ?_
                  (first | go_big_quiet_step (fail) | quiet_step (fail))
                  refine wpQuiet_nil ?_
                  refine wpAnyH_one 30 rfl rfl (by kernel_rfl) (by kernel_rfl) (fun _ _ _ _ _ h => h) hSq.out ?_
                  (first | go_big_quiet_step (fail) | quiet_step (fail))
                  refine wpQuiet_nil ?_
                  refine wpAnyH_one 31 rfl rfl (by kernel_rfl) (by kernel_rfl) (fun _ _ _ _ _ h => h) hSq.out ?_
                  (first | go_big_quiet_step (fail) | quiet_step (fail))
                  refine wpQuiet_nil ?_
                  refine wpAnyH_one 32 rfl rfl (by kernel_rfl) (by kernel_rfl) (fun _ _ _ _ _ h => h) hSq.out ?_
                  (first | go_big_quiet_step (fail) | quiet_step (fail))
                  refine wpQuiet_nil ?_
                  refine wpAnyH_one 33 rfl rfl (by kernel_rfl) (by kernel_rfl) (fun _ _ _ _ _ h => h) hSq.out ?_
                  (first | go_big_quiet_step (fail) | quiet_step (fail))
                  refine wpQuiet_nil ?_
                  refine wpAnyH_one 34 rfl rfl (by kernel_rfl) (by kernel_rfl) (fun _ _ _ _ _ h => h) hSq.out ?_
                  (first | go_big_quiet_step (fail) | quiet_step (fail))
                  refine wpQuiet_nil ?_
                  refine wpAnyH_one 35 rfl rfl (by kernel_rfl) (by kernel_rfl) (fun _ _ _ _ _ h => h) hSq.out ?_
                  (first | go_big_quiet_step (fail) | quiet_step (fail))
                  refine wpQuiet_nil ?_
                  refine wpAnyH_one 36 rfl rfl (by kernel_rfl) (by kernel_rfl) (fun _ _ _ _ _ h => h) hSq.out ?_
                  (first | go_big_quiet_step (fail) | quiet_step (fail))
                  refine wpQuiet_nil ?_
                  refine wpAnyH_one 37 rfl rfl (by kernel_rfl) (by kernel_rfl) (fun _ _ _ _ _ h => h) hSq.out ?_
                  (first | go_big_quiet_step (fail) | quiet_step (fail))
                  refine wpQuiet_nil ?_
                  refine wpAnyH_one 38 rfl rfl (by kernel_rfl) (by kernel_rfl) (fun _ _ _ _ _ h => h) hSq.out ?_
                  (first | go_big_quiet_step (fail) | quiet_step (fail))
                  refine wpQuiet_nil ?_
                  refine wpAnyH_one 39 rfl rfl (by kernel_rfl) (by kernel_rfl) (fun _ _ _ _ _ h => h) hSq.out ?_
                  (first | go_big_quiet_step (fail) | quiet_step (fail))
                  refine wpQuiet_nil ?_
                  refine wpAnyH_one 40 rfl rfl (by kernel_rfl) (by kernel_rfl) (fun _ _ _ _ _ h => h) hSq.out ?_
                  (first | go_big_quiet_step (fail) | quiet_step (fail))
                  refine wpQuiet_nil ?_
                  refine wpAnyH_one 41 rfl rfl (by kernel_rfl) (by kernel_rfl) (fun _ _ _ _ _ h => h) hSq.out ?_
                  (first | go_big_quiet_step (fail) | quiet_step (fail))
                  refine wpQuiet_nil ?_
                  refine wpAnyH_one 42 rfl rfl (by kernel_rfl) (by kernel_rfl) (fun _ _ _ _ _ h => h) hSq.out ?_
                  (first | go_big_quiet_step (fail) | quiet_step (fail))
                  refine wpQuiet_nil ?_
                  clear hSq
                  refine wpAnyH_sole 43 rfl (by kernel_rfl) (fun K hK => ?_)
                  go_simp
                  (refine (HR.out _ _ (HZ.out.toW hr)).mono ?_; rintro e u1 hgv; obtain ⟨rfl, hb⟩ := hgv.below; clear hgv; have hsu1 := hb.size; have hr := below_step hr (by omega) hb; clear hb)
                  refine hK _ _ (over_ex (by go_light; (repeat' (first | (with_reducible exact Below.refl _ _) | (with_reducible exact Nat.le_refl _) | (with_reducible assumption) | (with_reducible refine below_step ?_ ?_ hr) | (with_reducible refine below_over ?_ ?_ _) | (with_reducible refine Below.alloc ?_ ?_ _) | (with_reducible refine Below.setCell ?_ ?_ _) | (with_reducible refine below_put ?_ ?_ _) | (with_reducible refine Below.drew ?_) | (with_reducible refine below_drewN_ ?_ _) | (with_reducible refine le_drewN ?_ _) | (with_reducible refine over_le _ _ _ ?_) | (with_reducible refine le_alloc ?_ _) | (with_reducible refine le_setCell ?_ _ _) | (with_reducible refine le_put ?_ _ _) | (with_reducible refine le_drew ?_) | dsimp only | omega | ((try simp only [World.size_alloc, World.size_setCell, World.size_drew, size_put]); omega) | (simp; done))))) ?_
                  clear hK K
                  have hzu1 := hr.size
                  refine wpAnyH_keep (over_ex (by go_light; (repeat' (first | (with_reducible exact Below.refl _ _) | (with_reducible exact Nat.le_refl _) | (with_reducible assumption) | (with_reducible refine below_step ?_ ?_ hr) | (with_reducible refine below_over ?_ ?_ _) | (with_reducible refine Below.alloc ?_ ?_ _) | (with_reducible refine Below.setCell ?_ ?_ _) | (with_reducible refine below_put ?_ ?_ _) | (with_reducible refine Below.drew ?_) | (with_reducible refine below_drewN_ ?_ _) | (with_reducible refine le_drewN ?_ _) | (with_reducible refine over_le _ _ _ ?_) | (with_reducible refine le_alloc ?_ _) | (with_reducible refine le_setCell ?_ _ _) | (with_reducible refine le_put ?_ _ _) | (with_reducible refine le_drew ?_) | dsimp only | omega | ((try simp only [World.size_alloc, World.size_setCell, World.size_drew, size_put]); omega) | (simp; done))))) (fun hSq => ?_)
                  refine wpAnyH_one 44 rfl rfl (by kernel_rfl) (by kernel_rfl) (fun _ _ _ _ _ h => h) hSq.out ?_
                  (first | go_big_quiet_step (fail) | quiet_step (fail))
                  refine wpQuiet_nil ?_
                  refine wpAnyH_one 45 rfl rfl (by kernel_rfl) (by kernel_rfl) (fun _ _ _ _ _ h => h) hSq.out ?_
                  (first | go_big_quiet_step (fail) | quiet_step (fail))
                  refine wpQuiet_nil ?_
                  refine wpAnyH_one 46 rfl rfl (by kernel_rfl) (by kernel_rfl) (fun _ _ _ _ _ h => h) hSq.out ?_
                  (first | go_big_quiet_step (fail) | quiet_step (fail))
                  refine wpQuiet_nil ?_
                  refine wpAnyH_one 47 rfl rfl (by kernel_rfl) (by kernel_rfl) (fun _ _ _ _ _ h => h) hSq.out ?_
                  (first | go_big_quiet_step (fail) | quiet_step (fail))
                  refine wpQuiet_nil ?_
                  refine wpAnyH_one 48 rfl rfl (by kernel_rfl) (by kernel_rfl) (fun _ _ _ _ _ h => h) hSq.out ?_
                  (first | go_big_quiet_step (fail) | quiet_step (fail))
                  refine wpQuiet_nil ?_
                  refine wpAnyH_one 49 rfl rfl (by kernel_rfl) (by kernel_rfl) (fun _ _ _ _ _ h => h) hSq.out ?_
                  (first | go_big_quiet_step (fail) | quiet_step (fail))
                  refine wpQuiet_nil ?_
                  refine wpAnyH_one 50 rfl rfl (by kernel_rfl) (by kernel_rfl) (fun _ _ _ _ _ h => h) hSq.out ?_
                  (first | go_big_quiet_step (fail) | quiet_step (fail))
                  refine wpQuiet_nil ?_
                  refine wpAnyH_one 51 rfl rfl (by kernel_rfl) (by kernel_rfl) (fun _ _ _ _ _ h => h) hSq.out ?_
                  (first | go_big_quiet_step (fail) | quiet_step (fail))
                  refine wpQuiet_nil ?_
                  refine wpAnyH_one 53 rfl rfl (by kernel_rfl) (by kernel_rfl) (fun _ _ _ _ _ h => h) hSq.out ?_
                  (first | go_big_quiet_step (fail) | quiet_step (fail))
                  refine wpQuiet_nil ?_
                  refine wpAnyH_one 54 rfl rfl (by kernel_rfl) (by kernel_rfl) (fun _ _ _ _ _ h => h) hSq.out ?_
                  (first | go_big_quiet_step (fail) | quiet_step (fail))
                  refine wpQuiet_nil ?_
                  refine wpAnyH_one 56 rfl rfl (by kernel_rfl) (by kernel_rfl) (fun _ _ _ _ _ h => h) hSq.out ?_
                  (first | go_big_quiet_step (fail) | quiet_step (fail))
                  refine wpQuiet_nil ?_
                  refine wpAnyH_one 57 rfl rfl (by kernel_rfl) (by kernel_rfl) (fun _ _ _ _ _ h => h) hSq.out ?_
                  (first | go_big_quiet_step (fail) | quiet_step (fail))
                  refine wpQuiet_nil ?_
                  clear hSq
                  refine wpAnyH_sole 52 rfl (by kernel_rfl) (fun K hK => ?_)
                  go_simp
                  (refine (HO.out _ _ (HZ.out.toW hr)).mono ?_; rintro e u2 ⟨v2, rfl, hb, hv⟩; have HI := Lib.hid (hv.rd (fun _ => rfl)); clear hv; have hsu2 := hb.size; have hr := below_step hr (by omega) hb; clear hb)
                  refine hK _ _ (over_ex (by go_light; (repeat' (first | (with_reducible exact Below.refl _ _) | (with_reducible exact Nat.le_refl _) | (with_reducible assumption) | (with_reducible refine below_step ?_ ?_ hr) | (with_reducible refine below_over ?_ ?_ _) | (with_reducible refine Below.alloc ?_ ?_ _) | (with_reducible refine Below.setCell ?_ ?_ _) | (with_reducible refine below_put ?_ ?_ _) | (with_reducible refine Below.drew ?_) | (with_reducible refine below_drewN_ ?_ _) | (with_reducible refine le_drewN ?_ _) | (with_reducible refine over_le _ _ _ ?_) | (with_reducible refine le_alloc ?_ _) | (with_reducible refine le_setCell ?_ _ _) | (with_reducible refine le_put ?_ _ _) | (with_reducible refine le_drew ?_) | dsimp only | omega | ((try simp only [World.size_alloc, World.size_setCell, World.size_drew, size_put]); omega) | (simp; done))))) ?_
                  clear hK K
                  have hzu2 := hr.size
                  refine wpAnyH_sole 55 rfl (by kernel_rfl) (fun K hK => ?_)
                  go_simp
                  (refine (HH.out _ _ HI.out).mono ?_; rintro e u3 hgv; obtain ⟨rfl, hb⟩ := hgv.below; clear hgv HI; have hsu3 := hb.size; have hr := below_step hr (by omega) hb; clear hb)
                  refine hK _ _ (over_ex (by go_light; (repeat' (first | (with_reducible exact Below.refl _ _) | (with_reducible exact Nat.le_refl _) | (with_reducible assumption) | (with_reducible refine below_step ?_ ?_ hr) | (with_reducible refine below_over ?_ ?_ _) | (with_reducible refine Below.alloc ?_ ?_ _) | (with_reducible refine Below.setCell ?_ ?_ _) | (with_reducible refine below_put ?_ ?_ _) | (with_reducible refine Below.drew ?_) | (with_reducible refine below_drewN_ ?_ _) | (with_reducible refine le_drewN ?_ _) | (with_reducible refine over_le _ _ _ ?_) | (with_reducible refine le_alloc ?_ _) | (with_reducible refine le_setCell ?_ _ _) | (with_reducible refine le_put ?_ _ _) | (with_reducible refine le_drew ?_) | dsimp only | omega | ((try simp only [World.size_alloc, World.size_setCell, World.size_drew, size_put]); omega) | (simp; done))))) ?_
                  clear hK K
                  have hzu3 := hr.size
                  refine wpAnyH_keep (over_ex (by go_light; (repeat' (first | (with_reducible exact Below.refl _ _) | (with_reducible exact Nat.le_refl _) | (with_reducible assumption) | (with_reducible refine below_step ?_ ?_ hr) | (with_reducible refine below_over ?_ ?_ _) | (with_reducible refine Below.alloc ?_ ?_ _) | (with_reducible refine Below.setCell ?_ ?_ _) | (with_reducible refine below_put ?_ ?_ _) | (with_reducible refine Below.drew ?_) | (with_reducible refine below_drewN_ ?_ _) | (with_reducible refine le_drewN ?_ _) | (with_reducible refine over_le _ _ _ ?_) | (with_reducible refine le_alloc ?_ _) | (with_reducible refine le_setCell ?_ _ _) | (with_reducible refine le_put ?_ _ _) | (with_reducible refine le_drew ?_) | dsimp only | omega | ((try simp only [World.size_alloc, World.size_setCell, World.size_drew, size_put]); omega) | (simp; done))))) (fun hSq => ?_)
                  refine wpAnyH_one 58 rfl rfl (by kernel_rfl) (by kernel_rfl) (fun _ _ _ _ _ h => h) hSq.out ?_
                  (first | go_big_quiet_step (fail) | quiet_step (fail))
                  refine wpQuiet_nil ?_
                  refine wpAnyH_one 59 rfl rfl (by kernel_rfl) (by kernel_rfl) (fun _ _ _ _ _ h => h) hSq.out ?_
                  (first | go_big_quiet_step (fail) | quiet_step (fail))
                  refine wpQuiet_nil ?_
                  clear hSq
                  refine wpAnyH_done (by kernel_rfl) ?_ _
                  have HZ9 := Lib.hid (HZ.out.toW hr)
                  have hB9 : Below w1.heap.size w1 u3 := hBr4.trans (hr.mono (by omega))
                  go_wp2_with fail
                  go_roundw
                  case rel => exact ⟨k + 1, ⟨_, m, d⟩, Z, by omega, rfl, by go_num, HGZ, HZ9, by go_light; (repeat' (first | (with_reducible exact Below.refl _ _) | (with_reducible exact Nat.le_refl _) | (with_reducible assumption) | (with_reducible refine below_step ?_ ?_ hr) | (with_reducible refine below_over ?_ ?_ _) | (with_reducible refine Below.alloc ?_ ?_ _) | (with_reducible refine Below.setCell ?_ ?_ _) | (with_reducible refine below_put ?_ ?_ _) | (with_reducible refine Below.drew ?_) | (with_reducible refine below_drewN_ ?_ _) | (with_reducible refine le_drewN ?_ _) | (with_reducible refine over_le _ _ _ ?_) | (with_reducible refine le_alloc ?_ _) | (with_reducible refine le_setCell ?_ _ _) | (with_reducible refine le_put ?_ _ _) | (with_reducible refine le_drew ?_) | dsimp only | omega | ((try simp only [World.size_alloc, World.size_setCell, World.size_drew, size_put]); omega) | (simp; done)))⟩
                  case measure => (simp [intOf] <;> omega)
              · clear HS HF HN HW HC hN hW
                have hW1 : decide (W < 0) = true := by simp; omega
                have hW2 : decide (0 ≤ W) = false := by simp; omega
                go_wp2_with fail
                as_aux_lemma =>
                  refine wp_region_ord (by kernel_rfl) (fun wx hr => ?_)
                  simp only [List.length_cons, List.length_nil, Nat.reduceAdd]
                  have hzx := hr.size
                  refine wpAnyH_keep (over_ex (by go_light; (repeat' (first | (with_reducible exact Below.refl _ _) | (with_reducible exact Nat.le_refl _) | (with_reducible assumption) | (with_reducible refine below_step ?_ ?_ hr) | (with_reducible refine below_over ?_ ?_ _) | (with_reducible refine Below.alloc ?_ ?_ _) | (with_reducible refine Below.setCell ?_ ?_ _) | (with_reducible refine below_put ?_ ?_ _) | (with_reducible refine Below.drew ?_) | (with_reducible refine below_drewN_ ?_ _) | (with_reducible refine le_drewN ?_ _) | (with_reducible refine over_le _ _ _ ?_) | (with_reducible refine le_alloc ?_ _) | (with_reducible refine le_setCell ?_ _ _) | (with_reducible refine le_put ?_ _ _) | (with_reducible refine le_drew ?_) | dsimp only | omega | ((try simp only [World.size_alloc, World.size_setCell, World.size_drew, size_put]); omega) | (simp; done))))) (fun hSq => ?_)
                  refine wpAnyH_one 0 rfl rfl (by kernel_rfl) (by kernel_rfl) (fun _ _ _ _ _ h => h) hSq.out ?_
                  (first | go_big_quiet_step (fail) | quiet_step (fail))
                  refine wpQuiet_nil ?_
                  refine wpAnyH_one 1 rfl rfl (by kernel_rfl) (by kernel_rfl) (fun _ _ _ _ _ h => h) hSq.out ?_
                  (first | go_big_quiet_step (fail) | quiet_step (fail))
                  refine wpQuiet_nil ?_
                  refine wpAnyH_one 2 rfl rfl (by kernel_rfl) (by kernel_rfl) (fun _ _ _ _ _ h => h) hSq.out ?_
                  (first | go_big_quiet_step (fail) | quiet_step (fail))
                  refine wpQuiet_nil ?_
                  refine wpAnyH_one 3 rfl rfl (by kernel_rfl) (by kernel_rfl) (fun _ _ _ _ _ h => h) hSq.out ?_
                  (first | go_big_quiet_step (fail) | quiet_step (fail))
                  refine wpQuiet_nil ?_
                  refine wpAnyH_one 4 rfl rfl (by kernel_rfl) (by kernel_rfl) (fun _ _ _ _ _ h => h) hSq.out ?_
                  (first | go_big_quiet_step (fail) | quiet_step (fail))
                  refine wpQuiet_nil ?_
                  refine wpAnyH_one 5 rfl rfl (by kernel_rfl) (by kernel_rfl) (fun _ _ _ _ _ h => h) hSq.out ?_
                  (first | go_big_quiet_step (fail) | quiet_step (fail))
                  refine wpQuiet_nil ?_
                  refine wpAnyH_one 6 rfl rfl (by kernel_rfl) (by kernel_rfl) (fun _ _ _ _ _ h => h) hSq.out ?_
                  (first | go_big_quiet_step (fail) | quiet_step (fail))
                  refine wpQuiet_nil ?_
                  refine wpAnyH_one 7 rfl rfl (by kernel_rfl) (by kernel_rfl) (fun _ _ _ _ _ h => h) hSq.out ?_
                  (first | go_big_quiet_step (fail) | quiet_step (fail))
                  refine wpQuiet_nil ?_
                  refine wpAnyH_one 8 rfl rfl (by kernel_rfl) (by kernel_rfl) (fun _ _ _ _ _ h => h) hSq.out ?_
                  (first | go_big_quiet_step (fail) | quiet_step (fail))
                  refine wpQuiet_nil ?_
                  refine wpAnyH_one 9 rfl rfl (by kernel_rfl) (by kernel_rfl) (fun _ _ _ _ _ h => h) hSq.out ?_
                  (first | go_big_quiet_step (fail) | quiet_step (fail))
                  refine wpQuiet_nil ?_
                  refine wpAnyH_one 10 rfl rfl (by kernel_rfl) (by kernel_rfl) (fun _ _ _ _ _ h => h) hSq.out ?_
                  (first | go_big_quiet_step (fail) | quiet_step (fail))
                  refine wpQuiet_nil ?_
                  refine wpAnyH_one 11 rfl rfl (by kernel_rfl) (by kernel_rfl) (fun _ _ _ _ _ h => h) hSq.out ?_
                  (first | go_big_quiet_step (fail) | quiet_step (fail))
                  refine wpQuiet_nil ?_
                  refine wpAnyH_one 12 rfl rfl (by kernel_rfl) (by kernel_rfl) (fun _ _ _ _ _ h => h) hSq.out ?_
                  (first | go_big_quiet_step (fail) | quiet_step (fail))
                  refine wpQuiet_nil ?_
                  refine wpAnyH_one 13 rfl rfl (by kernel_rfl) (by kernel_rfl) (fun _ _ _ _ _ h => h) hSq.out ?_
                  (first | go_big_quiet_step (fail) | quiet_step (fail))
                  refine wpQuiet_nil ?_
                  refine wpAnyH_one 14 rfl rfl (by kernel_rfl) (by kernel_rfl) (fun _ _ _ _ _ h => h) hSq.out ?_
                  (first | go_big_quiet_step (fail) | quiet_step (fail))
                  refine wpQuiet_nil ?_
                  refine wpAnyH_one 15 rfl rfl (by kernel_rfl) (by kernel_rfl) (fun _ _ _ _ _ h => h) hSq.out ?_
                  (first | go_big_quiet_step (fail) | quiet_step (fail))
                  refine wpQuiet_nil ?_
                  refine wpAnyH_one 16 rfl rfl (by kernel_rfl) (by kernel_rfl) (fun _ _ _ _ _ h => h) hSq.out ?_
                  (first | go_big_quiet_step (fail) | quiet_step (fail))
                  refine wpQuiet_nil ?_
                  refine wpAnyH_one 17 rfl rfl (by kernel_rfl) (by kernel_rfl) (fun _ _ _ _ _ h => h) hSq.out ?_
                  (first | go_big_quiet_step (fail) | quiet_step (fail))
                  refine wpQuiet_nil ?_
                  refine wpAnyH_one 18 rfl rfl (by kernel_rfl) (by kernel_rfl) (fun _ _ _ _ _ h => h) hSq.out ?_
                  (first | go_big_quiet_step (fail) | quiet_step (fail))
                  refine wpQuiet_nil ?_
                  refine wpAnyH_one 19 rfl rfl (by kernel_rfl) (by kernel_rfl) (fun _ _ _ _ _ h => h) hSq.out ?_
                  (first | go_big_quiet_step (fail) | quiet_step (fail))
                  refine wpQuiet_nil ?_
                  refine wpAnyH_one 20 rfl rfl (by kernel_rfl) (by kernel_rfl) (fun _ _ _ _ _ h => h) hSq.out ?_
                  (first | go_big_quiet_step (fail) | quiet_step (fail))
                  refine wpQuiet_nil ?_
                  refine wpAnyH_one 21 rfl rfl (by kernel_rfl) (by kernel_rfl) (fun _ _ _ _ _ h => h) hSq.out ?_
                  (first | go_big_quiet_step (fail) | quiet_step (fail))
                  refine wpQuiet_nil ?_
                  refine wpAnyH_one 22 rfl rfl (by kernel_rfl) (by kernel_rfl) (fun _ _ _ _ _ h => h) hSq.out ?_
                  (first | go_big_quiet_step (fail) | quiet_step (fail))
                  refine wpQuiet_nil ?_
                  refine wpAnyH_one 23 rfl rfl (by kernel_rfl) (by kernel_rfl) (fun _ _ _ _ _ h => h) hSq.out ?_
                  (first | go_big_quiet_step (fail) | quiet_step (fail))
                  refine wpQuiet_nil ?_
                  refine wpAnyH_one 24 rfl rfl (by kernel_rfl) (by kernel_rfl) (fun _ _ _ _ _ h => h) hSq.out ?_
                  (first | go_big_quiet_step (fail) | quiet_step (fail))
                  refine wpQuiet_nil ?_
                  refine wpAnyH_one 25 rfl rfl (by kernel_rfl) (by kernel_rfl) (fun _ _ _ _ _ h => h) hSq.out ?_
                  (first | go_big_quiet_step (fail) | quiet_step (fail))
                  refine wpQuiet_nil ?_
                  refine wpAnyH_one 26 rfl rfl (by kernel_rfl) (by kernel_rfl) (fun _ _ _ _ _ h => h) hSq.out ?_
                  (first | go_big_quiet_step (fail) | quiet_step (fail))
                  refine wpQuiet_nil ?_
                  refine wpAnyH_one 27 rfl rfl (by kernel_rfl) (by kernel_rfl) (fun _ _ _ _ _ h => h) hSq.out ?_
                  (first | go_big_quiet_step (fail) | quiet_step (fail))
                  refine wpQuiet_nil ?_
                  refine wpAnyH_one 28 rfl rfl (by kernel_rfl) (by kernel_rfl) (fun _ _ _ _ _ h => h) hSq.out ?_
                  (first | go_big_quiet_step (fail) | quiet_step (fail))
                  refine wpQuiet_nil ?_
                  refine wpAnyH_one 29 rfl rfl (by kernel_rfl) (by kernel_rfl) (fun _ _ _ _ _ h => h) hSq.out ?_
                  (first | go_big_quiet_step (fail) | quiet_step (fail))
                  refine wpQuiet_nil ?_
                  refine wpAnyH_one 30 rfl rfl (by kernel_rfl) (by kernel_rfl) (fun _ _ _ _ _ h => h) hSq.out ?_
                  (first | go_big_quiet_step (fail) | quiet_step (fail))
                  refine wpQuiet_nil ?_
                  refine wpAnyH_one 31 rfl rfl (by kernel_rfl) (by kernel_rfl) (fun _ _ _ _ _ h => h) hSq.out ?_
                  (first | go_big_quiet_step (fail) | quiet_step (fail))
                  refine wpQuiet_nil ?_
                  refine wpAnyH_one 32 rfl rfl (by kernel_rfl) (by kernel_rfl) (fun _ _ _ _ _ h => h) hSq.out ?_
                  (first | go_big_quiet_step (fail) | quiet_step (fail))
                  refine wpQuiet_nil ?_
                  refine wpAnyH_one 33 rfl rfl (by kernel_rfl) (by kernel_rfl) (fun _ _ _ _ _ h => h) hSq.out ?_
                  (first | go_big_quiet_step (fail) | quiet_step (fail))
                  refine wpQuiet_nil ?_
                  refine wpAnyH_one 34 rfl rfl (by kernel_rfl) (by kernel_rfl) (fun _ _ _ _ _ h => h) hSq.out ?_
                  (first | go_big_quiet_step (fail) | quiet_step (fail))
                  refine wpQuiet_nil ?_
                  refine wpAnyH_one 35 rfl rfl (by kernel_rfl) (by kernel_rfl) (fun _ _ _ _ _ h => h) hSq.out ?_
                  (first | go_big_quiet_step (fail) | quiet_step (fail))
                  refine wpQuiet_nil ?_
                  refine wpAnyH_one 36 rfl rfl (by kernel_rfl) (by kernel_rfl) (fun _ _ _ _ _ h => h) hSq.out ?_
                  (first | go_big_quiet_step (fail) | quiet_step (fail))
                  refine wpQuiet_nil ?_
                  refine wpAnyH_one 37 rfl rfl (by kernel_rfl) (by kernel_rfl) (fun _ _ _ _ _ h => h) hSq.out ?_
                  (first | go_big_quiet_step (fail) | quiet_step (fail))
                  refine wpQuiet_nil ?_
                  refine wpAnyH_one 38 rfl rfl (by kernel_rfl) (by kernel_rfl) (fun _ _ _ _ _ h => h) hSq.out ?_
                  (first | go_big_quiet_step (fail) | quiet_step (fail))
                  refine wpQuiet_nil ?_
                  refine wpAnyH_one 39 rfl rfl (by kernel_rfl) (by kernel_rfl) (fun _ _ _ _ _ h => h) hSq.out ?_
                  (first | go_big_quiet_step (fail) | quiet_step (fail))
                  refine wpQuiet_nil ?_
                  refine wpAnyH_one 40 rfl rfl (by kernel_rfl) (by kernel_rfl) (fun _ _ _ _ _ h => h) hSq.out ?_
                  (first | go_big_quiet_step (fail) | quiet_step (fail))
                  refine wpQuiet_nil ?_
                  refine wpAnyH_one 41 rfl rfl (by kernel_rfl) (by kernel_rfl) (fun _ _ _ _ _ h => h) hSq.out ?_
                  (first | go_big_quiet_step (fail) | quiet_step (fail))
                  refine wpQuiet_nil ?_
                  refine wpAnyH_one 42 rfl rfl (by kernel_rfl) (by kernel_rfl) (fun _ _ _ _ _ h => h) hSq.out ?_
                  (first | go_big_quiet_step (fail) | quiet_step (fail))
                  refine wpQuiet_nil ?_
                  clear hSq
                  refine wpAnyH_sole 43 rfl (by kernel_rfl) (fun K hK => ?_)
                  go_simp
                  (refine (HR.out _ _ (HZ.out.toW hr)).mono ?_; rintro e u1 hgv; obtain ⟨rfl, hb⟩ := hgv.below; clear hgv; have hsu1 := hb.size; have hr := below_step hr (by omega) hb; clear hb)
                  refine hK _ _ (over_ex (by go_light; (repeat' (first | (with_reducible exact Below.refl _ _) | (with_reducible exact Nat.le_refl _) | (with_reducible assumption) | (with_reducible refine below_step ?_ ?_ hr) | (with_reducible refine below_over ?_ ?_ _) | (with_reducible refine Below.alloc ?_ ?_ _) | (with_reducible refine Below.setCell ?_ ?_ _) | (with_reducible refine below_put ?_ ?_ _) | (with_reducible refine Below.drew ?_) | (with_reducible refine below_drewN_ ?_ _) | (with_reducible refine le_drewN ?_ _) | (with_reducible refine over_le _ _ _ ?_) | (with_reducible refine le_alloc ?_ _) | (with_reducible refine le_setCell ?_ _ _) | (with_reducible refine le_put ?_ _ _) | (with_reducible refine le_drew ?_) | dsimp only | omega | ((try simp only [World.size_alloc, World.size_setCell, World.size_drew, size_put]); omega) | (simp; done))))) ?_
                  clear hK K
                  have hzu1 := hr.size
                  refine wpAnyH_keep (over_ex (by go_light; (repeat' (first | (with_reducible exact Below.refl _ _) | (with_reducible exact Nat.le_refl _) | (with_reducible assumption) | (with_reducible refine below_step ?_ ?_ hr) | (with_reducible refine below_over ?_ ?_ _) | (with_reducible refine Below.alloc ?_ ?_ _) | (with_reducible refine Below.setCell ?_ ?_ _) | (with_reducible refine below_put ?_ ?_ _) | (with_reducible refine Below.drew ?_) | (with_reducible refine below_drewN_ ?_ _) | (with_reducible refine le_drewN ?_ _) | (with_reducible refine over_le _ _ _ ?_) | (with_reducible refine le_alloc ?_ _) | (with_reducible refine le_setCell ?_ _ _) | (with_reducible refine le_put ?_ _ _) | (with_reducible refine le_drew ?_) | dsimp only | omega | ((try simp only [World.size_alloc, World.size_setCell, World.size_drew, size_put]); omega) | (simp; done))))) (fun hSq => ?_)
                  refine wpAnyH_one 44 rfl rfl (by kernel_rfl) (by kernel_rfl) (fun _ _ _ _ _ h => h) hSq.out ?_
                  (first | go_big_quiet_step (fail) | quiet_step (fail))
                  refine wpQuiet_nil ?_
                  refine wpAnyH_one 45 rfl rfl (by kernel_rfl) (by kernel_rfl) (fun _ _ _ _ _ h => h) hSq.out ?_
                  (first | go_big_quiet_step (fail) | quiet_step (fail))
                  refine wpQuiet_nil ?_
                  refine wpAnyH_one 46 rfl rfl (by kernel_rfl) (by kernel_rfl) (fun _ _ _ _ _ h => h) hSq.out ?_
                  (first | go_big_quiet_step (fail) | quiet_step (fail))
                  refine wpQuiet_nil ?_
                  refine wpAnyH_one 47 rfl rfl (by kernel_rfl) (by kernel_rfl) (fun _ _ _ _ _ h => h) hSq.out ?_
                  (first | go_big_quiet_step (fail) | quiet_step (fail))
                  refine wpQuiet_nil ?_
                  refine wpAnyH_one 48 rfl rfl (by kernel_rfl) (by kernel_rfl) (fun _ _ _ _ _ h => h) hSq.out ?_
                  (first | go_big_quiet_step (fail) | quiet_step (fail))
                  refine wpQuiet_nil ?_
                  refine wpAnyH_one 49 rfl rfl (by kernel_rfl) (by kernel_rfl) (fun _ _ _ _ _ h => h) hSq.out ?_
                  (first | go_big_quiet_step (fail) | quiet_step (fail))
                  refine wpQuiet_nil ?_
                  refine wpAnyH_one 50 rfl rfl (by kernel_rfl) (by kernel_rfl) (fun _ _ _ _ _ h => h) hSq.out ?_
                  (first | go_big_quiet_step (fail) | quiet_step (fail))
                  refine wpQuiet_nil ?_
                  refine wpAnyH_one 51 rfl rfl (by kernel_rfl) (by kernel_rfl) (fun _ _ _ _ _ h => h) hSq.out ?_
                  (first | go_big_quiet_step (fail) | quiet_step (fail))
                  refine wpQuiet_nil ?_
                  refine wpAnyH_one 53 rfl rfl (by kernel_rfl) (by kernel_rfl) (fun _ _ _ _ _ h => h) hSq.out ?_
                  (first | go_big_quiet_step (fail) | quiet_step (fail))
                  refine wpQuiet_nil ?_
                  refine wpAnyH_one 54 rfl rfl (by kernel_rfl) (by kernel_rfl) (fun _ _ _ _ _ h => h) hSq.out ?_
                  (first | go_big_quiet_step (fail) | quiet_step (fail))
                  refine wpQuiet_nil ?_
                  refine wpAnyH_one 56 rfl rfl (by kernel_rfl) (by kernel_rfl) (fun _ _ _ _ _ h => h) hSq.out ?_
                  (first | go_big_quiet_step (fail) | quiet_step (fail))
                  refine wpQuiet_nil ?_
                  refine wpAnyH_one 57 rfl rfl (by kernel_rfl) (by kernel_rfl) (fun _ _ _ _ _ h => h) hSq.out ?_
                  (first | go_big_quiet_step (fail) | quiet_step (fail))
                  refine wpQuiet_nil ?_
                  clear hSq
                  refine wpAnyH_sole 52 rfl (by kernel_rfl) (fun K hK => ?_)
                  go_simp
                  (refine (HO.out _ _ (HZ.out.toW hr)).mono ?_; rintro e u2 ⟨v2, rfl, hb, hv⟩; have HI := Lib.hid (hv.rd (fun _ => rfl)); clear hv; have hsu2 := hb.size; have hr := below_step hr (by omega) hb; clear hb)
                  refine hK _ _ (over_ex (by go_light; (repeat' (first | (with_reducible exact Below.refl _ _) | (with_reducible exact Nat.le_refl _) | (with_reducible assumption) | (with_reducible refine below_step ?_ ?_ hr) | (with_reducible refine below_over ?_ ?_ _) | (with_reducible refine Below.alloc ?_ ?_ _) | (with_reducible refine Below.setCell ?_ ?_ _) | (with_reducible refine below_put ?_ ?_ _) | (with_reducible refine Below.drew ?_) | (with_reducible refine below_drewN_ ?_ _) | (with_reducible refine le_drewN ?_ _) | (with_reducible refine over_le _ _ _ ?_) | (with_reducible refine le_alloc ?_ _) | (with_reducible refine le_setCell ?_ _ _) | (with_reducible refine le_put ?_ _ _) | (with_reducible refine le_drew ?_) | dsimp only | omega | ((try simp only [World.size_alloc, World.size_setCell, World.size_drew, size_put]); omega) | (simp; done))))) ?_
                  clear hK K
                  have hzu2 := hr.size
                  refine wpAnyH_sole 55 rfl (by kernel_rfl) (fun K hK => ?_)
                  go_simp
                  (refine (HH.out _ _ HI.out).mono ?_; rintro e u3 hgv; obtain ⟨rfl, hb⟩ := hgv.below; clear hgv HI; have hsu3 := hb.size; have hr := below_step hr (by omega) hb; clear hb)
                  refine hK _ _ (over_ex (by go_light; (repeat' (first | (with_reducible exact Below.refl _ _) | (with_reducible exact Nat.le_refl _) | (with_reducible assumption) | (with_reducible refine below_step ?_ ?_ hr) | (with_reducible refine below_over ?_ ?_ _) | (with_reducible refine Below.alloc ?_ ?_ _) | (with_reducible refine Below.setCell ?_ ?_ _) | (with_reducible refine below_put ?_ ?_ _) | (with_reducible refine Below.drew ?_) | (with_reducible refine below_drewN_ ?_ _) | (with_reducible refine le_drewN ?_ _) | (with_reducible refine over_le _ _ _ ?_) | (with_reducible refine le_alloc ?_ _) | (with_reducible refine le_setCell ?_ _ _) | (with_reducible refine le_put ?_ _ _) | (with_reducible refine le_drew ?_) | dsimp only | omega | ((try simp only [World.size_alloc, World.size_setCell, World.size_drew, size_put]); omega) | (simp; done))))) ?_
                  clear hK K
                  have hzu3 := hr.size
                  refine wpAnyH_keep (over_ex (by go_light; (repeat' (first | (with_reducible exact Below.refl _ _) | (with_reducible exact Nat.le_refl _) | (with_reducible assumption) | (with_reducible refine below_step ?_ ?_ hr) | (with_reducible refine below_over ?_ ?_ _) | (with_reducible refine Below.alloc ?_ ?_ _) | (with_reducible refine Below.setCell ?_ ?_ _) | (with_reducible refine below_put ?_ ?_ _) | (with_reducible refine Below.drew ?_) | (with_reducible refine below_drewN_ ?_ _) | (with_reducible refine le_drewN ?_ _) | (with_reducible refine over_le _ _ _ ?_) | (with_reducible refine le_alloc ?_ _) | (with_reducible refine le_setCell ?_ _ _) | (with_reducible refine le_put ?_ _ _) | (with_reducible refine le_drew ?_) | dsimp only | omega | ((try simp only [World.size_alloc, World.size_setCell, World.size_drew, size_put]); omega) | (simp; done))))) (fun hSq => ?_)
                  refine wpAnyH_one 58 rfl rfl (by kernel_rfl) (by kernel_rfl) (fun _ _ _ _ _ h => h) hSq.out ?_
                  (first | go_big_quiet_step (fail) | quiet_step (fail))
                  refine wpQuiet_nil ?_
                  refine wpAnyH_one 59 rfl rfl (by kernel_rfl) (by kernel_rfl) (fun _ _ _ _ _ h => h) hSq.out ?_
                  (first | go_big_quiet_step (fail) | quiet_step (fail))
                  refine wpQuiet_nil ?_
                  clear hSq
                  refine wpAnyH_done (by kernel_rfl) ?_ _
                  have HZ9 := Lib.hid (HZ.out.toW hr)
                  have hB9 : Below w1.heap.size w1 u3 := hBr4.trans (hr.mono (by omega))
                  go_wp2_with fail
                  go_roundw
                  case rel => exact ⟨k + 1, ⟨_, m, d⟩, Z, by omega, rfl, by go_num, HGZ, HZ9, by go_light; (repeat' (first | (with_reducible exact Below.refl _ _) | (with_reducible exact Nat.le_refl _) | (with_reducible assumption) | (with_reducible refine below_step ?_ ?_ hr) | (with_reducible refine below_over ?_ ?_ _) | (with_reducible refine Below.alloc ?_ ?_ _) | (with_reducible refine Below.setCell ?_ ?_ _) | (with_reducible refine below_put ?_ ?_ _) | (with_reducible refine Below.drew ?_) | (with_reducible refine below_drewN_ ?_ _) | (with_reducible refine le_drewN ?_ _) | (with_reducible refine over_le _ _ _ ?_) | (with_reducible refine le_alloc ?_ _) | (with_reducible refine le_setCell ?_ _ _) | (with_reducible refine le_put ?_ _ _) | (with_reducible refine le_drew ?_) | dsimp only | omega | ((try simp only [World.size_alloc, World.size_setCell, World.size_drew, size_put]); omega) | (simp; done)))⟩
                  case measure => (simp [intOf] <;> omega)
            · have HF := Lib.hid (HS.out.other hkey)
              go_upto_region 19 with fail
              go_cut [13] (fun c13 wx => c13 = .bool false ∧ w4 = wx)
              case first =>
                rcases key_ways hkey with t1 | ⟨t1, t2 | ⟨t2, t3⟩⟩
                all_goals clear hkey HS HF HN HW HC hN hW HO HR
                all_goals go_wp2_with fail
                all_goals
                  go_meet
                  case rel => exact ⟨rfl, rfl⟩
              case rest =>
                obtain ⟨rfl, rfl⟩ := hcut
                by_cases hW0 : 0 ≤ W
                · have hN0 : 0 ≤ N := by have h := HF.out; rw [hN, hW] at h; have h2 : decide (0 ≤ W) = true := by simpa using hW0
                                         rw [h2] at h; simpa using h.symm
                  have HH : Hid (∀ (v : Sl) w', Rd w' encI v (sortI (ofC q.kind q.target Z)) → Calls Try.prog 27 #[v.val, .int .i64 q.by_] w' (Gives (.bool true) w')) := fun v w' h => has_is (q := q) (by rw [hN]; simpa using hN0) h
                  rw [← hW] at hW0
                  rw [← hN] at hN0
                  obtain ⟨p, r, y, hWp, hNr, hyp, hzr2⟩ := same_at Hg.out (HS.out.same hW0) hW0 hN0
                  obtain rfl : W = (p : Int) := by rw [← hW]; exact hWp
                  obtain rfl : N = (r : Int) := by rw [← hN]; exact hNr
                  have hp2 : p < n0 := by have h1 := (List.getElem?_eq_some_iff.1 hyp).1; have h2 := Hy.out.len; dsimp only at h2; omega
                  have hr2 : r < m := by have h1 := (List.getElem?_eq_some_iff.1 hzr2).1; have h2 := HZ.out.len; dsimp only at h2; omega
                  obtain ⟨b0, off0, y0, rfl, hb0, -, Hy0, d0, d1, d2, d3⟩ := Hy.out.cv hp2
                  obtain ⟨b2, off2, y2, rfl, hb2, -, Hy2, g0, g1, g2, g3⟩ := HZ.out.cv hr2
                  obtain rfl : y0 = y := by have h1 := Hy0.out; rw [hyp] at h1; exact (Option.some.inj h1).symm
                  obtain rfl : y2 = y0 := by have h1 := Hy2.out; rw [hzr2] at h1; exact (Option.some.inj h1).symm
                  clear hWp hNr hyp hzr2 Hy0 Hy2 hW hN hW0 hN0
                  have hW1 : decide ((p : Int) < 0) = false := by simp
                  have hW2 : decide (0 ≤ (p : Int)) = true := by simp
                  have hN1 : decide ((r : Int) < 0) = false := by simp
                  have hN2 : decide (0 ≤ (r : Int)) = true := by simp
                  have hm2 : m ≤ 200 := by have h1 := HGZ.out.len; have h2 := HZ.out.len; dsimp only at h2; omega
                  clear HS HF HN HW HC hkey
                  go_wp2_with fail
                  as_aux_lemma =>
                    refine wp_region_ord (by kernel_rfl) (fun wx hr => ?_)
                    simp only [List.length_cons, List.length_nil, Nat.reduceAdd]
                    have hzx := hr.size
                    refine wpAnyH_keep (over_ex (by go_light; (repeat' (first | (with_reducible exact Below.refl _ _) | (with_reducible exact Nat.le_refl _) | (with_reducible assumption) | (with_reducible refine below_step ?_ ?_ hr) | (with_reducible refine below_over ?_ ?_ _) | (with_reducible refine Below.alloc ?_ ?_ _) | (with_reducible refine Below.setCell ?_ ?_ _) | (with_reducible refine below_put ?_ ?_ _) | (with_reducible refine Below.drew ?_) | (with_reducible refine below_drewN_ ?_ _) | (with_reducible refine le_drewN ?_ _) | (with_reducible refine over_le _ _ _ ?_) | (with_reducible refine le_alloc ?_ _) | (with_reducible refine le_setCell ?_ _ _) | (with_reducible refine le_put ?_ _ _) | (with_reducible refine le_drew ?_) | dsimp only | omega | ((try simp only [World.size_alloc, World.size_setCell, World.size_drew, size_put]); omega) | (simp; done))))) (fun hSq => ?_)
                    refine wpAnyH_one 0 rfl rfl (by kernel_rfl) (by kernel_rfl) (fun _ _ _ _ _ h => h) hSq.out ?_
                    (first | go_big_quiet_step (fail) | quiet_step (fail))
                    refine wpQuiet_nil ?_
                    refine wpAnyH_one 1 rfl rfl (by kernel_rfl) (by kernel_rfl) (fun _ _ _ _ _ h => h) hSq.out ?_
                    (first | go_big_quiet_step (fail) | quiet_step (fail))
                    refine wpQuiet_nil ?_
                    refine wpAnyH_one 2 rfl rfl (by kernel_rfl) (by kernel_rfl) (fun _ _ _ _ _ h => h) hSq.out ?_
                    (first | go_big_quiet_step (fail) | quiet_step (fail))
                    refine wpQuiet_nil ?_
                    refine wpAnyH_one 3 rfl rfl (by kernel_rfl) (by kernel_rfl) (fun _ _ _ _ _ h => h) hSq.out ?_
                    (first | go_big_quiet_step (fail) | quiet_step (fail))
                    refine wpQuiet_nil ?_
                    refine wpAnyH_one 4 rfl rfl (by kernel_rfl) (by kernel_rfl) (fun _ _ _ _ _ h => h) hSq.out ?_
                    (first | go_big_quiet_step (fail) | quiet_step (fail))
                    refine wpQuiet_nil ?_
                    refine wpAnyH_one 5 rfl rfl (by kernel_rfl) (by kernel_rfl) (fun _ _ _ _ _ h => h) hSq.out ?_
                    (first | go_big_quiet_step (fail) | quiet_step (fail))
                    refine wpQuiet_nil ?_
                    refine wpAnyH_one 6 rfl rfl (by kernel_rfl) (by kernel_rfl) (fun _ _ _ _ _ h => h) hSq.out ?_
                    (first | go_big_quiet_step (fail) | quiet_step (fail))
                    refine wpQuiet_nil ?_
                    refine wpAnyH_one 7 rfl rfl (by kernel_rfl) (by kernel_rfl) (fun _ _ _ _ _ h => h) hSq.out ?_
                    (first | go_big_quiet_step (fail) | quiet_step (fail))
                    refine wpQuiet_nil ?_
                    refine wpAnyH_one 8 rfl rfl (by kernel_rfl) (by kernel_rfl) (fun _ _ _ _ _ h => h) hSq.out ?_
                    (first | go_big_quiet_step (fail) | quiet_step (fail))
                    refine wpQuiet_nil ?_
                    refine wpAnyH_one 9 rfl rfl (by kernel_rfl) (by kernel_rfl) (fun _ _ _ _ _ h => h) hSq.out ?_
                    (first | go_big_quiet_step (fail) | quiet_step (fail))
                    refine wpQuiet_nil ?_
                    refine wpAnyH_one 10 rfl rfl (by kernel_rfl) (by kernel_rfl) (fun _ _ _ _ _ h => h) hSq.out ?_
                    (first | go_big_quiet_step (fail) | quiet_step (fail))
                    refine wpQuiet_nil ?_
                    refine wpAnyH_one 11 rfl rfl (by kernel_rfl) (by kernel_rfl) (fun _ _ _ _ _ h => h) hSq.out ?_
                    (first | go_big_quiet_step (fail) | quiet_step (fail))
                    refine wpQuiet_nil ?_
                    refine wpAnyH_one 12 rfl rfl (by kernel_rfl) (by kernel_rfl) (fun _ _ _ _ _ h => h) hSq.out ?_
                    (first | go_big_quiet_step (fail) | quiet_step (fail))
                    refine wpQuiet_nil ?_
                    refine wpAnyH_one 13 rfl rfl (by kernel_rfl) (by kernel_rfl) (fun _ _ _ _ _ h => h) hSq.out ?_
                    (first | go_big_quiet_step (fail) | quiet_step (fail))
                    refine wpQuiet_nil ?_
                    refine wpAnyH_one 14 rfl rfl (by kernel_rfl) (by kernel_rfl) (fun _ _ _ _ _ h => h) hSq.out ?_
                    (first | go_big_quiet_step (fail) | quiet_step (fail))
                    refine wpQuiet_nil ?_
                    refine wpAnyH_one 15 rfl rfl (by kernel_rfl) (by kernel_rfl) (fun _ _ _ _ _ h => h) hSq.out ?_
                    (first | go_big_quiet_step (fail) | quiet_step (fail))
                    refine wpQuiet_nil ?_
                    refine wpAnyH_one 16 rfl rfl (by kernel_rfl) (by kernel_rfl) (fun _ _ _ _ _ h => h) hSq.out ?_
                    (first | go_big_quiet_step (fail) | quiet_step (fail))
                    refine wpQuiet_nil ?_
                    refine wpAnyH_one 17 rfl rfl (by kernel_rfl) (by kernel_rfl) (fun _ _ _ _ _ h => h) hSq.out ?_
                    (first | go_big_quiet_step (fail) | quiet_step (fail))
                    refine wpQuiet_nil ?_
                    refine wpAnyH_one 18 rfl rfl (by kernel_rfl) (by kernel_rfl) (fun _ _ _ _ _ h => h) hSq.out ?_
                    (first | go_big_quiet_step (fail) | quiet_step (fail))
                    refine wpQuiet_nil ?_
                    refine wpAnyH_one 19 rfl rfl (by kernel_rfl) (by kernel_rfl) (fun _ _ _ _ _ h => h) hSq.out ?_
                    (first | go_big_quiet_step (fail) | quiet_step (fail))
                    refine wpQuiet_nil ?_
                    refine wpAnyH_one 20 rfl rfl (by kernel_rfl) (by kernel_rfl) (fun _ _ _ _ _ h => h) hSq.out ?_
                    (first | go_big_quiet_step (fail) | quiet_step (fail))
                    refine wpQuiet_nil ?_
                    refine wpAnyH_one 21 rfl rfl (by kernel_rfl) (by kernel_rfl) (fun _ _ _ _ _ h => h) hSq.out ?_
                    (first | go_big_quiet_step (fail) | quiet_step (fail))
                    refine wpQuiet_nil ?_
                    refine wpAnyH_one 22 rfl rfl (by kernel_rfl) (by kernel_rfl) (fun _ _ _ _ _ h => h) hSq.out ?_
                    (first | go_big_quiet_step (fail) | quiet_step (fail))
                    refine wpQuiet_nil ?_
                    refine wpAnyH_one 23 rfl rfl (by kernel_rfl) (by kernel_rfl) (fun _ _ _ _ _ h => h) hSq.out ?_
                    (first | go_big_quiet_step (fail) | quiet_step (fail))
                    refine wpQuiet_nil ?_
                    refine wpAnyH_one 24 rfl rfl (by kernel_rfl) (by kernel_rfl) (fun _ _ _ _ _ h => h) hSq.out ?_
                    (first | go_big_quiet_step (fail) | quiet_step (fail))
                    refine wpQuiet_nil ?_
                    refine wpAnyH_one 25 rfl rfl (by kernel_rfl) (by kernel_rfl) (fun _ _ _ _ _ h => h) hSq.out ?_
                    (first | go_big_quiet_step (fail) | quiet_step (fail))
                    refine wpQuiet_nil ?_
                    refine wpAnyH_one 26 rfl rfl (by kernel_rfl) (by kernel_rfl) (fun _ _ _ _ _ h => h) hSq.out ?_
                    (first | go_big_quiet_step (fail) | quiet_step (fail))
                    refine wpQuiet_nil ?_
                    refine wpAnyH_one 27 rfl rfl (by kernel_rfl) (by kernel_rfl) (fun _ _ _ _ _ h => h) hSq.out ?_
                    (first | go_big_quiet_step (fail) | quiet_step (fail))
                    refine wpQuiet_nil ?_
                    refine wpAnyH_one 28 rfl rfl (by kernel_rfl) (by kernel_rfl) (fun _ _ _ _ _ h => h) hSq.out ?_
                    (first | go_big_quiet_step (fail) | quiet_step (fail))
                    refine wpQuiet_nil ?_
                    refine wpAnyH_one 29 rfl rfl (by kernel_rfl) (by kernel_rfl) (fun _ _ _ _ _ h => h) hSq.out ?_
                    (first | go_big_quiet_step (fail) | quiet_step (fail))
                    refine wpQuiet_nil ?_
                    refine wpAnyH_one 30 rfl rfl (by kernel_rfl) (by kernel_rfl) (fun _ _ _ _ _ h => h) hSq.out ?_
                    (first | go_big_quiet_step (fail) | quiet_step (fail))
                    refine wpQuiet_nil ?_
                    refine wpAnyH_one 31 rfl rfl (by kernel_rfl) (by kernel_rfl) (fun _ _ _ _ _ h => h) hSq.out ?_
                    (first | go_big_quiet_step (fail) | quiet_step (fail))
                    refine wpQuiet_nil ?_
                    refine wpAnyH_one 32 rfl rfl (by kernel_rfl) (by kernel_rfl) (fun _ _ _ _ _ h => h) hSq.out ?_
                    (first | go_big_quiet_step (fail) | quiet_step (fail))
                    refine wpQuiet_nil ?_
                    refine wpAnyH_one 33 rfl rfl (by kernel_rfl) (by kernel_rfl) (fun _ _ _ _ _ h => h) hSq.out ?_
                    (first | go_big_quiet_step (fail) | quiet_step (fail))
                    refine wpQuiet_nil ?_
                    refine wpAnyH_one 34 rfl rfl (by kernel_rfl) (by kernel_rfl) (fun _ _ _ _ _ h => h) hSq.out ?_
                    (first | go_big_quiet_step (fail) | quiet_step (fail))
                    refine wpQuiet_nil ?_
                    refine wpAnyH_one 35 rfl rfl (by kernel_rfl) (by kernel_rfl) (fun _ _ _ _ _ h => h) hSq.out ?_
                    (first | go_big_quiet_step (fail) | quiet_step (fail))
                    refine wpQuiet_nil ?_
                    refine wpAnyH_one 36 rfl rfl (by kernel_rfl) (by kernel_rfl) (fun _ _ _ _ _ h => h) hSq.out ?_
                    (first | go_big_quiet_step (fail) | quiet_step (fail))
                    refine wpQuiet_nil ?_
                    refine wpAnyH_one 37 rfl rfl (by kernel_rfl) (by kernel_rfl) (fun _ _ _ _ _ h => h) hSq.out ?_
                    (first | go_big_quiet_step (fail) | quiet_step (fail))
                    refine wpQuiet_nil ?_
                    refine wpAnyH_one 38 rfl rfl (by kernel_rfl) (by kernel_rfl) (fun _ _ _ _ _ h => h) hSq.out ?_
                    (first | go_big_quiet_step (fail) | quiet_step (fail))
                    refine wpQuiet_nil ?_
                    refine wpAnyH_one 39 rfl rfl (by kernel_rfl) (by kernel_rfl) (fun _ _ _ _ _ h => h) hSq.out ?_
                    (first | go_big_quiet_step (fail) | quiet_step (fail))
                    refine wpQuiet_nil ?_
                    refine wpAnyH_one 40 rfl rfl (by kernel_rfl) (by kernel_rfl) (fun _ _ _ _ _ h => h) hSq.out ?_
                    (first | go_big_quiet_step (fail) | quiet_step (fail))
                    refine wpQuiet_nil ?_
                    refine wpAnyH_one 41 rfl rfl (by kernel_rfl) (by kernel_rfl) (fun _ _ _ _ _ h => h) hSq.out ?_
                    (first | go_big_quiet_step (fail) | quiet_step (fail))
                    refine wpQuiet_nil ?_
                    refine wpAnyH_one 42 rfl rfl (by kernel_rfl) (by kernel_rfl) (fun _ _ _ _ _ h => h) hSq.out ?_
                    (first | go_big_quiet_step (fail) | quiet_step (fail))
                    refine wpQuiet_nil ?_
                    clear hSq
                    refine wpAnyH_sole 43 rfl (by kernel_rfl) (fun K hK => ?_)
                    go_simp
                    (refine (HR.out _ _ (HZ.out.toW hr)).mono ?_; rintro e u1 hgv; obtain ⟨rfl, hb⟩ := hgv.below; clear hgv; have hsu1 := hb.size; have hr := below_step hr (by omega) hb; clear hb)
                    refine hK _ _ (over_ex (by go_light; (repeat' (first | (with_reducible exact Below.refl _ _) | (with_reducible exact Nat.le_refl _) | (with_reducible assumption) | (with_reducible refine below_step ?_ ?_ hr) | (with_reducible refine below_over ?_ ?_ _) | (with_reducible refine Below.alloc ?_ ?_ _) | (with_reducible refine Below.setCell ?_ ?_ _) | (with_reducible refine below_put ?_ ?_ _) | (with_reducible refine Below.drew ?_) | (with_reducible refine below_drewN_ ?_ _) | (with_reducible refine le_drewN ?_ _) | (with_reducible refine over_le _ _ _ ?_) | (with_reducible refine le_alloc ?_ _) | (with_reducible refine le_setCell ?_ _ _) | (with_reducible refine le_put ?_ _ _) | (with_reducible refine le_drew ?_) | dsimp only | omega | ((try simp only [World.size_alloc, World.size_setCell, World.size_drew, size_put]); omega) | (simp; done))))) ?_
                    clear hK K
                    have hzu1 := hr.size
                    refine wpAnyH_keep (over_ex (by go_light; (repeat' (first | (with_reducible exact Below.refl _ _) | (with_reducible exact Nat.le_refl _) | (with_reducible assumption) | (with_reducible refine below_step ?_ ?_ hr) | (with_reducible refine below_over ?_ ?_ _) | (with_reducible refine Below.alloc ?_ ?_ _) | (with_reducible refine Below.setCell ?_ ?_ _) | (with_reducible refine below_put ?_ ?_ _) | (with_reducible refine Below.drew ?_) | (with_reducible refine below_drewN_ ?_ _) | (with_reducible refine le_drewN ?_ _) | (with_reducible refine over_le _ _ _ ?_) | (with_reducible refine le_alloc ?_ _) | (with_reducible refine le_setCell ?_ _ _) | (with_reducible refine le_put ?_ _ _) | (with_reducible refine le_drew ?_) | dsimp only | omega | ((try simp only [World.size_alloc, World.size_setCell, World.size_drew, size_put]); omega) | (simp; done))))) (fun hSq => ?_)
                    refine wpAnyH_one 44 rfl rfl (by kernel_rfl) (by kernel_rfl) (fun _ _ _ _ _ h => h) hSq.out ?_
                    (first | go_big_quiet_step (fail) | quiet_step (fail))
                    refine wpQuiet_nil ?_
                    refine wpAnyH_one 45 rfl rfl (by kernel_rfl) (by kernel_rfl) (fun _ _ _ _ _ h => h) hSq.out ?_
                    (first | go_big_quiet_step (fail) | quiet_step (fail))
                    refine wpQuiet_nil ?_
                    refine wpAnyH_one 46 rfl rfl (by kernel_rfl) (by kernel_rfl) (fun _ _ _ _ _ h => h) hSq.out ?_
                    (first | go_big_quiet_step (fail) | quiet_step (fail))
                    refine wpQuiet_nil ?_
                    refine wpAnyH_one 47 rfl rfl (by kernel_rfl) (by kernel_rfl) (fun _ _ _ _ _ h => h) hSq.out ?_
                    (first | go_big_quiet_step (fail) | quiet_step (fail))
                    refine wpQuiet_nil ?_
                    refine wpAnyH_one 48 rfl rfl (by kernel_rfl) (by kernel_rfl) (fun _ _ _ _ _ h => h) hSq.out ?_
                    (first | go_big_quiet_step (fail) | quiet_step (fail))
                    refine wpQuiet_nil ?_
                    refine wpAnyH_one 49 rfl rfl (by kernel_rfl) (by kernel_rfl) (fun _ _ _ _ _ h => h) hSq.out ?_
                    (first | go_big_quiet_step (fail) | quiet_step (fail))
                    refine wpQuiet_nil ?_
                    refine wpAnyH_one 50 rfl rfl (by kernel_rfl) (by kernel_rfl) (fun _ _ _ _ _ h => h) hSq.out ?_
                    (first | go_big_quiet_step (fail) | quiet_step (fail))
                    refine wpQuiet_nil ?_
                    refine wpAnyH_one 51 rfl rfl (by kernel_rfl) (by kernel_rfl) (fun _ _ _ _ _ h => h) hSq.out ?_
                    (first | go_big_quiet_step (fail) | quiet_step (fail))
                    refine wpQuiet_nil ?_
                    refine wpAnyH_one 53 rfl rfl (by kernel_rfl) (by kernel_rfl) (fun _ _ _ _ _ h => h) hSq.out ?_
                    (first | go_big_quiet_step (fail) | quiet_step (fail))
                    refine wpQuiet_nil ?_
                    refine wpAnyH_one 54 rfl rfl (by kernel_rfl) (by kernel_rfl) (fun _ _ _ _ _ h => h) hSq.out ?_
                    (first | go_big_quiet_step (fail) | quiet_step (fail))
                    refine wpQuiet_nil ?_
                    refine wpAnyH_one 56 rfl rfl (by kernel_rfl) (by kernel_rfl) (fun _ _ _ _ _ h => h) hSq.out ?_
                    (first | go_big_quiet_step (fail) | quiet_step (fail))
                    refine wpQuiet_nil ?_
                    refine wpAnyH_one 57 rfl rfl (by kernel_rfl) (by kernel_rfl) (fun _ _ _ _ _ h => h) hSq.out ?_
                    (first | go_big_quiet_step (fail) | quiet_step (fail))
                    refine wpQuiet_nil ?_
                    clear hSq
                    refine wpAnyH_sole 52 rfl (by kernel_rfl) (fun K hK => ?_)
                    go_simp
                    (refine (HO.out _ _ (HZ.out.toW hr)).mono ?_; rintro e u2 ⟨v2, rfl, hb, hv⟩; have HI := Lib.hid (hv.rd (fun _ => rfl)); clear hv; have hsu2 := hb.size; have hr := below_step hr (by omega) hb; clear hb)
                    refine hK _ _ (over_ex (by go_light; (repeat' (first | (with_reducible exact Below.refl _ _) | (with_reducible exact Nat.le_refl _) | (with_reducible assumption) | (with_reducible refine below_step ?_ ?_ hr) | (with_reducible refine below_over ?_ ?_ _) | (with_reducible refine Below.alloc ?_ ?_ _) | (with_reducible refine Below.setCell ?_ ?_ _) | (with_reducible refine below_put ?_ ?_ _) | (with_reducible refine Below.drew ?_) | (with_reducible refine below_drewN_ ?_ _) | (with_reducible refine le_drewN ?_ _) | (with_reducible refine over_le _ _ _ ?_) | (with_reducible refine le_alloc ?_ _) | (with_reducible refine le_setCell ?_ _ _) | (with_reducible refine le_put ?_ _ _) | (with_reducible refine le_drew ?_) | dsimp only | omega | ((try simp only [World.size_alloc, World.size_setCell, World.size_drew, size_put]); omega) | (simp; done))))) ?_
                    clear hK K
                    have hzu2 := hr.size
                    refine wpAnyH_sole 55 rfl (by kernel_rfl) (fun K hK => ?_)
                    go_simp
                    (refine (HH.out _ _ HI.out).mono ?_; rintro e u3 hgv; obtain ⟨rfl, hb⟩ := hgv.below; clear hgv HI; have hsu3 := hb.size; have hr := below_step hr (by omega) hb; clear hb)
                    refine hK _ _ (over_ex (by go_light; (repeat' (first | (with_reducible exact Below.refl _ _) | (with_reducible exact Nat.le_refl _) | (with_reducible assumption) | (with_reducible refine below_step ?_ ?_ hr) | (with_reducible refine below_over ?_ ?_ _) | (with_reducible refine Below.alloc ?_ ?_ _) | (with_reducible refine Below.setCell ?_ ?_ _) | (with_reducible refine below_put ?_ ?_ _) | (with_reducible refine Below.drew ?_) | (with_reducible refine below_drewN_ ?_ _) | (with_reducible refine le_drewN ?_ _) | (with_reducible refine over_le _ _ _ ?_) | (with_reducible refine le_alloc ?_ _) | (with_reducible refine le_setCell ?_ _ _) | (with_reducible refine le_put ?_ _ _) | (with_reducible refine le_drew ?_) | dsimp only | omega | ((try simp only [World.size_alloc, World.size_setCell, World.size_drew, size_put]); omega) | (simp; done))))) ?_
                    clear hK K
                    have hzu3 := hr.size
                    refine wpAnyH_keep (over_ex (by go_light; (repeat' (first | (with_reducible exact Below.refl _ _) | (with_reducible exact Nat.le_refl _) | (with_reducible assumption) | (with_reducible refine below_step ?_ ?_ hr) | (with_reducible refine below_over ?_ ?_ _) | (with_reducible refine Below.alloc ?_ ?_ _) | (with_reducible refine Below.setCell ?_ ?_ _) | (with_reducible refine below_put ?_ ?_ _) | (with_reducible refine Below.drew ?_) | (with_reducible refine below_drewN_ ?_ _) | (with_reducible refine le_drewN ?_ _) | (with_reducible refine over_le _ _ _ ?_) | (with_reducible refine le_alloc ?_ _) | (with_reducible refine le_setCell ?_ _ _) | (with_reducible refine le_put ?_ _ _) | (with_reducible refine le_drew ?_) | dsimp only | omega | ((try simp only [World.size_alloc, World.size_setCell, World.size_drew, size_put]); omega) | (simp; done))))) (fun hSq => ?_)
                    refine wpAnyH_one 58 rfl rfl (by kernel_rfl) (by kernel_rfl) (fun _ _ _ _ _ h => h) hSq.out ?_
                    (first | go_big_quiet_step (fail) | quiet_step (fail))
                    refine wpQuiet_nil ?_
                    refine wpAnyH_one 59 rfl rfl (by kernel_rfl) (by kernel_rfl) (fun _ _ _ _ _ h => h) hSq.out ?_
                    (first | go_big_quiet_step (fail) | quiet_step (fail))
                    refine wpQuiet_nil ?_
                    clear hSq
                    refine wpAnyH_done (by kernel_rfl) ?_ _
                    have HZ9 := Lib.hid (HZ.out.toW hr)
                    have hB9 : Below w1.heap.size w1 u3 := hBr4.trans (hr.mono (by omega))
                    go_wp2_with fail
                    go_roundw
                    case rel => exact ⟨k + 1, ⟨_, m, d⟩, Z, by omega, rfl, by go_num, HGZ, HZ9, by go_light; (repeat' (first | (with_reducible exact Below.refl _ _) | (with_reducible exact Nat.le_refl _) | (with_reducible assumption) | (with_reducible refine below_step ?_ ?_ hr) | (with_reducible refine below_over ?_ ?_ _) | (with_reducible refine Below.alloc ?_ ?_ _) | (with_reducible refine Below.setCell ?_ ?_ _) | (with_reducible refine below_put ?_ ?_ _) | (with_reducible refine Below.drew ?_) | (with_reducible refine below_drewN_ ?_ _) | (with_reducible refine le_drewN ?_ _) | (with_reducible refine over_le _ _ _ ?_) | (with_reducible refine le_alloc ?_ _) | (with_reducible refine le_setCell ?_ _ _) | (with_reducible refine le_put ?_ _ _) | (with_reducible refine le_drew ?_) | dsimp only | omega | ((try simp only [World.size_alloc, World.size_setCell, World.size_drew, size_put]); omega) | (simp; done)))⟩
                    case measure => (simp [intOf] <;> omega)
                · have hN0 : ¬ 0 ≤ N := by have h := HF.out; rw [hN, hW] at h; have h2 : decide (0 ≤ W) = false := by simpa using hW0
                                           rw [h2] at h; simpa using h.symm
                  have HH : Hid (∀ (v : Sl) w', Rd w' encI v (sortI (ofC q.kind q.target Z)) → Calls Try.prog 27 #[v.val, .int .i64 q.by_] w' (Gives (.bool false) w')) := fun v w' h => has_is (q := q) (by rw [hN]; simpa using hN0) h
                  clear HS HF HN HW HC hN hW hkey
                  have hW1 : decide (W < 0) = true := by simp; omega
                  have hW2 : decide (0 ≤ W) = false := by simp; omega
                  have hN1 : decide (N < 0) = true := by simp; omega
                  have hN2 : decide (0 ≤ N) = false := by simp; omega
                  go_wp2_with fail
                  as_aux_lemma =>
                    refine wp_region_ord (by kernel_rfl) (fun wx hr => ?_)
                    simp only [List.length_cons, List.length_nil, Nat.reduceAdd]
                    have hzx := hr.size
                    refine wpAnyH_keep (over_ex (by go_light; (repeat' (first | (with_reducible exact Below.refl _ _) | (with_reducible exact Nat.le_refl _) | (with_reducible assumption) | (with_reducible refine below_step ?_ ?_ hr) | (with_reducible refine below_over ?_ ?_ _) | (with_reducible refine Below.alloc ?_ ?_ _) | (with_reducible refine Below.setCell ?_ ?_ _) | (with_reducible refine below_put ?_ ?_ _) | (with_reducible refine Below.drew ?_) | (with_reducible refine below_drewN_ ?_ _) | (with_reducible refine le_drewN ?_ _) | (with_reducible refine over_le _ _ _ ?_) | (with_reducible refine le_alloc ?_ _) | (with_reducible refine le_setCell ?_ _ _) | (with_reducible refine le_put ?_ _ _) | (with_reducible refine le_drew ?_) | dsimp only | omega | ((try simp only [World.size_alloc, World.size_setCell, World.size_drew, size_put]); omega) | (simp; done))))) (fun hSq => ?_)
                    refine wpAnyH_one 0 rfl rfl (by kernel_rfl) (by kernel_rfl) (fun _ _ _ _ _ h => h) hSq.out ?_
                    (first | go_big_quiet_step (fail) | quiet_step (fail))
                    refine wpQuiet_nil ?_
                    refine wpAnyH_one 1 rfl rfl (by kernel_rfl) (by kernel_rfl) (fun _ _ _ _ _ h => h) hSq.out ?_
                    (first | go_big_quiet_step (fail) | quiet_step (fail))
                    refine wpQuiet_nil ?_
                    refine wpAnyH_one 2 rfl rfl (by kernel_rfl) (by kernel_rfl) (fun _ _ _ _ _ h => h) hSq.out ?_
                    (first | go_big_quiet_step (fail) | quiet_step (fail))
                    refine wpQuiet_nil ?_
                    refine wpAnyH_one 3 rfl rfl (by kernel_rfl) (by kernel_rfl) (fun _ _ _ _ _ h => h) hSq.out ?_
                    (first | go_big_quiet_step (fail) | quiet_step (fail))
                    refine wpQuiet_nil ?_
                    refine wpAnyH_one 4 rfl rfl (by kernel_rfl) (by kernel_rfl) (fun _ _ _ _ _ h => h) hSq.out ?_
                    (first | go_big_quiet_step (fail) | quiet_step (fail))
                    refine wpQuiet_nil ?_
                    refine wpAnyH_one 5 rfl rfl (by kernel_rfl) (by kernel_rfl) (fun _ _ _ _ _ h => h) hSq.out ?_
                    (first | go_big_quiet_step (fail) | quiet_step (fail))
                    refine wpQuiet_nil ?_
                    refine wpAnyH_one 6 rfl rfl (by kernel_rfl) (by kernel_rfl) (fun _ _ _ _ _ h => h) hSq.out ?_
                    (first | go_big_quiet_step (fail) | quiet_step (fail))
                    refine wpQuiet_nil ?_
                    refine wpAnyH_one 7 rfl rfl (by kernel_rfl) (by kernel_rfl) (fun _ _ _ _ _ h => h) hSq.out ?_
                    (first | go_big_quiet_step (fail) | quiet_step (fail))
                    refine wpQuiet_nil ?_
                    refine wpAnyH_one 8 rfl rfl (by kernel_rfl) (by kernel_rfl) (fun _ _ _ _ _ h => h) hSq.out ?_
                    (first | go_big_quiet_step (fail) | quiet_step (fail))
                    refine wpQuiet_nil ?_
                    refine wpAnyH_one 9 rfl rfl (by kernel_rfl) (by kernel_rfl) (fun _ _ _ _ _ h => h) hSq.out ?_
                    (first | go_big_quiet_step (fail) | quiet_step (fail))
                    refine wpQuiet_nil ?_
                    refine wpAnyH_one 10 rfl rfl (by kernel_rfl) (by kernel_rfl) (fun _ _ _ _ _ h => h) hSq.out ?_
                    (first | go_big_quiet_step (fail) | quiet_step (fail))
                    refine wpQuiet_nil ?_
                    refine wpAnyH_one 11 rfl rfl (by kernel_rfl) (by kernel_rfl) (fun _ _ _ _ _ h => h) hSq.out ?_
                    (first | go_big_quiet_step (fail) | quiet_step (fail))
                    refine wpQuiet_nil ?_
                    refine wpAnyH_one 12 rfl rfl (by kernel_rfl) (by kernel_rfl) (fun _ _ _ _ _ h => h) hSq.out ?_
                    (first | go_big_quiet_step (fail) | quiet_step (fail))
                    refine wpQuiet_nil ?_
                    refine wpAnyH_one 13 rfl rfl (by kernel_rfl) (by kernel_rfl) (fun _ _ _ _ _ h => h) hSq.out ?_
                    (first | go_big_quiet_step (fail) | quiet_step (fail))
                    refine wpQuiet_nil ?_
                    refine wpAnyH_one 14 rfl rfl (by kernel_rfl) (by kernel_rfl) (fun _ _ _ _ _ h => h) hSq.out ?_
                    (first | go_big_quiet_step (fail) | quiet_step (fail))
                    refine wpQuiet_nil ?_
                    refine wpAnyH_one 15 rfl rfl (by kernel_rfl) (by kernel_rfl) (fun _ _ _ _ _ h => h) hSq.out ?_
                    (first | go_big_quiet_step (fail) | quiet_step (fail))
                    refine wpQuiet_nil ?_
                    refine wpAnyH_one 16 rfl rfl (by kernel_rfl) (by kernel_rfl) (fun _ _ _ _ _ h => h) hSq.out ?_
                    (first | go_big_quiet_step (fail) | quiet_step (fail))
                    refine wpQuiet_nil ?_
                    refine wpAnyH_one 17 rfl rfl (by kernel_rfl) (by kernel_rfl) (fun _ _ _ _ _ h => h) hSq.out ?_
                    (first | go_big_quiet_step (fail) | quiet_step (fail))
                    refine wpQuiet_nil ?_
                    refine wpAnyH_one 18 rfl rfl (by kernel_rfl) (by kernel_rfl) (fun _ _ _ _ _ h => h) hSq.out ?_
                    (first | go_big_quiet_step (fail) | quiet_step (fail))
                    refine wpQuiet_nil ?_
                    refine wpAnyH_one 19 rfl rfl (by kernel_rfl) (by kernel_rfl) (fun _ _ _ _ _ h => h) hSq.out ?_
                    (first | go_big_quiet_step (fail) | quiet_step (fail))
                    refine wpQuiet_nil ?_
                    refine wpAnyH_one 20 rfl rfl (by kernel_rfl) (by kernel_rfl) (fun _ _ _ _ _ h => h) hSq.out ?_
                    (first | go_big_quiet_step (fail) | quiet_step (fail))
                    refine wpQuiet_nil ?_
                    refine wpAnyH_one 21 rfl rfl (by kernel_rfl) (by kernel_rfl) (fun _ _ _ _ _ h => h) hSq.out ?_
                    (first | go_big_quiet_step (fail) | quiet_step (fail))
                    refine wpQuiet_nil ?_
                    refine wpAnyH_one 22 rfl rfl (by kernel_rfl) (by kernel_rfl) (fun _ _ _ _ _ h => h) hSq.out ?_
                    (first | go_big_quiet_step (fail) | quiet_step (fail))
                    refine wpQuiet_nil ?_
                    refine wpAnyH_one 23 rfl rfl (by kernel_rfl) (by kernel_rfl) (fun _ _ _ _ _ h => h) hSq.out ?_
                    (first | go_big_quiet_step (fail) | quiet_step (fail))
                    refine wpQuiet_nil ?_
                    refine wpAnyH_one 24 rfl rfl (by kernel_rfl) (by kernel_rfl) (fun _ _ _ _ _ h => h) hSq.out ?_
                    (first | go_big_quiet_step (fail) | quiet_step (fail))
                    refine wpQuiet_nil ?_
                    refine wpAnyH_one 25 rfl rfl (by kernel_rfl) (by kernel_rfl) (fun _ _ _ _ _ h => h) hSq.out ?_
                    (first | go_big_quiet_step (fail) | quiet_step (fail))
                    refine wpQuiet_nil ?_
                    refine wpAnyH_one 26 rfl rfl (by kernel_rfl) (by kernel_rfl) (fun _ _ _ _ _ h => h) hSq.out ?_
                    (first | go_big_quiet_step (fail) | quiet_step (fail))
                    refine wpQuiet_nil ?_
                    refine wpAnyH_one 27 rfl rfl (by kernel_rfl) (by kernel_rfl) (fun _ _ _ _ _ h => h) hSq.out ?_
                    (first | go_big_quiet_step (fail) | quiet_step (fail))
                    refine wpQuiet_nil ?_
                    refine wpAnyH_one 28 rfl rfl (by kernel_rfl) (by kernel_rfl) (fun _ _ _ _ _ h => h) hSq.out ?_
                    (first | go_big_quiet_step (fail) | quiet_step (fail))
                    refine wpQuiet_nil ?_
                    refine wpAnyH_one 29 rfl rfl (by kernel_rfl) (by kernel_rfl) (fun _ _ _ _ _ h => h) hSq.out ?_
                    (first | go_big_quiet_step (fail) | quiet_step (fail))
                    refine wpQuiet_nil ?_
                    refine wpAnyH_one 30 rfl rfl (by kernel_rfl) (by kernel_rfl) (fun _ _ _ _ _ h => h) hSq.out ?_
                    (first | go_big_quiet_step (fail) | quiet_step (fail))
                    refine wpQuiet_nil ?_
                    refine wpAnyH_one 31 rfl rfl (by kernel_rfl) (by kernel_rfl) (fun _ _ _ _ _ h => h) hSq.out ?_
                    (first | go_big_quiet_step (fail) | quiet_step (fail))
                    refine wpQuiet_nil ?_
                    refine wpAnyH_one 32 rfl rfl (by kernel_rfl) (by kernel_rfl) (fun _ _ _ _ _ h => h) hSq.out ?_
                    (first | go_big_quiet_step (fail) | quiet_step (fail))
                    refine wpQuiet_nil ?_
                    refine wpAnyH_one 33 rfl rfl (by kernel_rfl) (by kernel_rfl) (fun _ _ _ _ _ h => h) hSq.out ?_
                    (first | go_big_quiet_step (fail) | quiet_step (fail))
                    refine wpQuiet_nil ?_
                    refine wpAnyH_one 34 rfl rfl (by kernel_rfl) (by kernel_rfl) (fun _ _ _ _ _ h => h) hSq.out ?_
                    (first | go_big_quiet_step (fail) | quiet_step (fail))
                    refine wpQuiet_nil ?_
                    refine wpAnyH_one 35 rfl rfl (by kernel_rfl) (by kernel_rfl) (fun _ _ _ _ _ h => h) hSq.out ?_
                    (first | go_big_quiet_step (fail) | quiet_step (fail))
                    refine wpQuiet_nil ?_
                    refine wpAnyH_one 36 rfl rfl (by kernel_rfl) (by kernel_rfl) (fun _ _ _ _ _ h => h) hSq.out ?_
                    (first | go_big_quiet_step (fail) | quiet_step (fail))
                    refine wpQuiet_nil ?_
                    refine wpAnyH_one 37 rfl rfl (by kernel_rfl) (by kernel_rfl) (fun _ _ _ _ _ h => h) hSq.out ?_
                    (first | go_big_quiet_step (fail) | quiet_step (fail))
                    refine wpQuiet_nil ?_
                    refine wpAnyH_one 38 rfl rfl (by kernel_rfl) (by kernel_rfl) (fun _ _ _ _ _ h => h) hSq.out ?_
                    (first | go_big_quiet_step (fail) | quiet_step (fail))
                    refine wpQuiet_nil ?_
                    refine wpAnyH_one 39 rfl rfl (by kernel_rfl) (by kernel_rfl) (fun _ _ _ _ _ h => h) hSq.out ?_
                    (first | go_big_quiet_step (fail) | quiet_step (fail))
                    refine wpQuiet_nil ?_
                    refine wpAnyH_one 40 rfl rfl (by kernel_rfl) (by kernel_rfl) (fun _ _ _ _ _ h => h) hSq.out ?_
                    (first | go_big_quiet_step (fail) | quiet_step (fail))
                    refine wpQuiet_nil ?_
                    refine wpAnyH_one 41 rfl rfl (by kernel_rfl) (by kernel_rfl) (fun _ _ _ _ _ h => h) hSq.out ?_
                    (first | go_big_quiet_step (fail) | quiet_step (fail))
                    refine wpQuiet_nil ?_
                    refine wpAnyH_one 42 rfl rfl (by kernel_rfl) (by kernel_rfl) (fun _ _ _ _ _ h => h) hSq.out ?_
                    (first | go_big_quiet_step (fail) | quiet_step (fail))
                    refine wpQuiet_nil ?_
                    clear hSq
                    refine wpAnyH_sole 43 rfl (by kernel_rfl) (fun K hK => ?_)
                    go_simp
                    (refine (HR.out _ _ (HZ.out.toW hr)).mono ?_; rintro e u1 hgv; obtain ⟨rfl, hb⟩ := hgv.below; clear hgv; have hsu1 := hb.size; have hr := below_step hr (by omega) hb; clear hb)
                    refine hK _ _ (over_ex (by go_light; (repeat' (first | (with_reducible exact Below.refl _ _) | (with_reducible exact Nat.le_refl _) | (with_reducible assumption) | (with_reducible refine below_step ?_ ?_ hr) | (with_reducible refine below_over ?_ ?_ _) | (with_reducible refine Below.alloc ?_ ?_ _) | (with_reducible refine Below.setCell ?_ ?_ _) | (with_reducible refine below_put ?_ ?_ _) | (with_reducible refine Below.drew ?_) | (with_reducible refine below_drewN_ ?_ _) | (with_reducible refine le_drewN ?_ _) | (with_reducible refine over_le _ _ _ ?_) | (with_reducible refine le_alloc ?_ _) | (with_reducible refine le_setCell ?_ _ _) | (with_reducible refine le_put ?_ _ _) | (with_reducible refine le_drew ?_) | dsimp only | omega | ((try simp only [World.size_alloc, World.size_setCell, World.size_drew, size_put]); omega) | (simp; done))))) ?_
                    clear hK K
                    have hzu1 := hr.size
                    refine wpAnyH_keep (over_ex (by go_light; (repeat' (first | (with_reducible exact Below.refl _ _) | (with_reducible exact Nat.le_refl _) | (with_reducible assumption) | (with_reducible refine below_step ?_ ?_ hr) | (with_reducible refine below_over ?_ ?_ _) | (with_reducible refine Below.alloc ?_ ?_ _) | (with_reducible refine Below.setCell ?_ ?_ _) | (with_reducible refine below_put ?_ ?_ _) | (with_reducible refine Below.drew ?_) | (with_reducible refine below_drewN_ ?_ _) | (with_reducible refine le_drewN ?_ _) | (with_reducible refine over_le _ _ _ ?_) | (with_reducible refine le_alloc ?_ _) | (with_reducible refine le_setCell ?_ _ _) | (with_reducible refine le_put ?_ _ _) | (with_reducible refine le_drew ?_) | dsimp only | omega | ((try simp only [World.size_alloc, World.size_setCell, World.size_drew, size_put]); omega) | (simp; done))))) (fun hSq => ?_)
                    refine wpAnyH_one 44 rfl rfl (by kernel_rfl) (by kernel_rfl) (fun _ _ _ _ _ h => h) hSq.out ?_
                    (first | go_big_quiet_step (fail) | quiet_step (fail))
                    refine wpQuiet_nil ?_
                    refine wpAnyH_one 45 rfl rfl (by kernel_rfl) (by kernel_rfl) (fun _ _ _ _ _ h => h) hSq.out ?_
                    (first | go_big_quiet_step (fail) | quiet_step (fail))
                    refine wpQuiet_nil ?_
                    refine wpAnyH_one 46 rfl rfl (by kernel_rfl) (by kernel_rfl) (fun _ _ _ _ _ h => h) hSq.out ?_
                    (first | go_big_quiet_step (fail) | quiet_step (fail))
                    refine wpQuiet_nil ?_
                    refine wpAnyH_one 47 rfl rfl (by kernel_rfl) (by kernel_rfl) (fun _ _ _ _ _ h => h) hSq.out ?_
                    (first | go_big_quiet_step (fail) | quiet_step (fail))
                    refine wpQuiet_nil ?_
                    refine wpAnyH_one 48 rfl rfl (by kernel_rfl) (by kernel_rfl) (fun _ _ _ _ _ h => h) hSq.out ?_
                    (first | go_big_quiet_step (fail) | quiet_step (fail))
                    refine wpQuiet_nil ?_
                    refine wpAnyH_one 49 rfl rfl (by kernel_rfl) (by kernel_rfl) (fun _ _ _ _ _ h => h) hSq.out ?_
                    (first | go_big_quiet_step (fail) | quiet_step (fail))
                    refine wpQuiet_nil ?_
                    refine wpAnyH_one 50 rfl rfl (by kernel_rfl) (by kernel_rfl) (fun _ _ _ _ _ h => h) hSq.out ?_
                    (first | go_big_quiet_step (fail) | quiet_step (fail))
                    refine wpQuiet_nil ?_
                    refine wpAnyH_one 51 rfl rfl (by kernel_rfl) (by kernel_rfl) (fun _ _ _ _ _ h => h) hSq.out ?_
                    (first | go_big_quiet_step (fail) | quiet_step (fail))
                    refine wpQuiet_nil ?_
                    refine wpAnyH_one 53 rfl rfl (by kernel_rfl) (by kernel_rfl) (fun _ _ _ _ _ h => h) hSq.out ?_
                    (first | go_big_quiet_step (fail) | quiet_step (fail))
                    refine wpQuiet_nil ?_
                    refine wpAnyH_one 54 rfl rfl (by kernel_rfl) (by kernel_rfl) (fun _ _ _ _ _ h => h) hSq.out ?_
                    (first | go_big_quiet_step (fail) | quiet_step (fail))
                    refine wpQuiet_nil ?_
                    refine wpAnyH_one 56 rfl rfl (by kernel_rfl) (by kernel_rfl) (fun _ _ _ _ _ h => h) hSq.out ?_
                    (first | go_big_quiet_step (fail) | quiet_step (fail))
                    refine wpQuiet_nil ?_
                    refine wpAnyH_one 57 rfl rfl (by kernel_rfl) (by kernel_rfl) (fun _ _ _ _ _ h => h) hSq.out ?_
                    (first | go_big_quiet_step (fail) | quiet_step (fail))
                    refine wpQuiet_nil ?_
                    clear hSq
                    refine wpAnyH_sole 52 rfl (by kernel_rfl) (fun K hK => ?_)
                    go_simp
                    (refine (HO.out _ _ (HZ.out.toW hr)).mono ?_; rintro e u2 ⟨v2, rfl, hb, hv⟩; have HI := Lib.hid (hv.rd (fun _ => rfl)); clear hv; have hsu2 := hb.size; have hr := below_step hr (by omega) hb; clear hb)
                    refine hK _ _ (over_ex (by go_light; (repeat' (first | (with_reducible exact Below.refl _ _) | (with_reducible exact Nat.le_refl _) | (with_reducible assumption) | (with_reducible refine below_step ?_ ?_ hr) | (with_reducible refine below_over ?_ ?_ _) | (with_reducible refine Below.alloc ?_ ?_ _) | (with_reducible refine Below.setCell ?_ ?_ _) | (with_reducible refine below_put ?_ ?_ _) | (with_reducible refine Below.drew ?_) | (with_reducible refine below_drewN_ ?_ _) | (with_reducible refine le_drewN ?_ _) | (with_reducible refine over_le _ _ _ ?_) | (with_reducible refine le_alloc ?_ _) | (with_reducible refine le_setCell ?_ _ _) | (with_reducible refine le_put ?_ _ _) | (with_reducible refine le_drew ?_) | dsimp only | omega | ((try simp only [World.size_alloc, World.size_setCell, World.size_drew, size_put]); omega) | (simp; done))))) ?_
                    clear hK K
                    have hzu2 := hr.size
                    refine wpAnyH_sole 55 rfl (by kernel_rfl) (fun K hK => ?_)
                    go_simp
                    (refine (HH.out _ _ HI.out).mono ?_; rintro e u3 hgv; obtain ⟨rfl, hb⟩ := hgv.below; clear hgv HI; have hsu3 := hb.size; have hr := below_step hr (by omega) hb; clear hb)
                    refine hK _ _ (over_ex (by go_light; (repeat' (first | (with_reducible exact Below.refl _ _) | (with_reducible exact Nat.le_refl _) | (with_reducible assumption) | (with_reducible refine below_step ?_ ?_ hr) | (with_reducible refine below_over ?_ ?_ _) | (with_reducible refine Below.alloc ?_ ?_ _) | (with_reducible refine Below.setCell ?_ ?_ _) | (with_reducible refine below_put ?_ ?_ _) | (with_reducible refine Below.drew ?_) | (with_reducible refine below_drewN_ ?_ _) | (with_reducible refine le_drewN ?_ _) | (with_reducible refine over_le _ _ _ ?_) | (with_reducible refine le_alloc ?_ _) | (with_reducible refine le_setCell ?_ _ _) | (with_reducible refine le_put ?_ _ _) | (with_reducible refine le_drew ?_) | dsimp only | omega | ((try simp only [World.size_alloc, World.size_setCell, World.size_drew, size_put]); omega) | (simp; done))))) ?_
                    clear hK K
                    have hzu3 := hr.size
                    refine wpAnyH_keep (over_ex (by go_light; (repeat' (first | (with_reducible exact Below.refl _ _) | (with_reducible exact Nat.le_refl _) | (with_reducible assumption) | (with_reducible refine below_step ?_ ?_ hr) | (with_reducible refine below_over ?_ ?_ _) | (with_reducible refine Below.alloc ?_ ?_ _) | (with_reducible refine Below.setCell ?_ ?_ _) | (with_reducible refine below_put ?_ ?_ _) | (with_reducible refine Below.drew ?_) | (with_reducible refine below_drewN_ ?_ _) | (with_reducible refine le_drewN ?_ _) | (with_reducible refine over_le _ _ _ ?_) | (with_reducible refine le_alloc ?_ _) | (with_reducible refine le_setCell ?_ _ _) | (with_reducible refine le_put ?_ _ _) | (with_reducible refine le_drew ?_) | dsimp only | omega | ((try simp only [World.size_alloc, World.size_setCell, World.size_drew, size_put]); omega) | (simp; done))))) (fun hSq => ?_)
                    refine wpAnyH_one 58 rfl rfl (by kernel_rfl) (by kernel_rfl) (fun _ _ _ _ _ h => h) hSq.out ?_
                    (first | go_big_quiet_step (fail) | quiet_step (fail))
                    refine wpQuiet_nil ?_
                    refine wpAnyH_one 59 rfl rfl (by kernel_rfl) (by kernel_rfl) (fun _ _ _ _ _ h => h) hSq.out ?_
                    (first | go_big_quiet_step (fail) | quiet_step (fail))
                    refine wpQuiet_nil ?_
                    clear hSq
                    refine wpAnyH_done (by kernel_rfl) ?_ _
                    have HZ9 := Lib.hid (HZ.out.toW hr)
                    have hB9 : Below w1.heap.size w1 u3 := hBr4.trans (hr.mono (by omega))
                    go_wp2_with fail
                    go_roundw
                    case rel => exact ⟨k + 1, ⟨_, m, d⟩, Z, by omega, rfl, by go_num, HGZ, HZ9, by go_light; (repeat' (first | (with_reducible exact Below.refl _ _) | (with_reducible exact Nat.le_refl _) | (with_reducible assumption) | (with_reducible refine below_step ?_ ?_ hr) | (with_reducible refine below_over ?_ ?_ _) | (with_reducible refine Below.alloc ?_ ?_ _) | (with_reducible refine Below.setCell ?_ ?_ _) | (with_reducible refine below_put ?_ ?_ _) | (with_reducible refine Below.drew ?_) | (with_reducible refine below_drewN_ ?_ _) | (with_reducible refine le_drewN ?_ _) | (with_reducible refine over_le _ _ _ ?_) | (with_reducible refine le_alloc ?_ _) | (with_reducible refine le_setCell ?_ _ _) | (with_reducible refine le_put ?_ _ _) | (with_reducible refine le_drew ?_) | dsimp only | omega | ((try simp only [World.size_alloc, World.size_setCell, World.size_drew, size_put]); omega) | (simp; done)))⟩
                    case measure => (simp [intOf] <;> omega)
          · have HC : Hid (Rd wr CV.enc ⟨A0, n0, c0⟩ ys → ∀ w', Below wr.heap.size wr w' → Calls Try.prog 13 #[.slice A0 n0 c0, c.val] w' (COPost [] (closeE c ys) w')) := fun h w' hb => by
              have h2 := closure_Close ⟨A0, n0, c0⟩ ys c w' (h.toW hb) (by dsimp only; omega)
              rw [close_err hE] at h2
              exact h2
            have HC := Lib.hid (HC.out Hy.out)
            have hEb : (closeE c ys != 0) = true := by simpa using hE
            clear hE hW
            generalize closeE c ys = E at HC hEb
            go_wp2_with fail
            refine (HW.out _ (by (repeat' (first | (with_reducible exact Below.refl _ _) | (with_reducible exact Nat.le_refl _) | (with_reducible assumption) | (with_reducible refine below_step ?_ ?_ hr) | (with_reducible refine below_over ?_ ?_ _) | (with_reducible refine Below.alloc ?_ ?_ _) | (with_reducible refine Below.setCell ?_ ?_ _) | (with_reducible refine below_put ?_ ?_ _) | (with_reducible refine Below.drew ?_) | (with_reducible refine below_drewN_ ?_ _) | (with_reducible refine le_drewN ?_ _) | (with_reducible refine over_le _ _ _ ?_) | (with_reducible refine le_alloc ?_ _) | (with_reducible refine le_setCell ?_ _ _) | (with_reducible refine le_put ?_ _ _) | (with_reducible refine le_drew ?_) | dsimp only | omega | ((try simp only [World.size_alloc, World.size_setCell, World.size_drew, size_put]); omega) | (simp; done))))).mono ?_
            rintro e w2 hg
            obtain ⟨rfl, hb⟩ := hg.below
            clear hg
            have hz := hb.size
            (try simp only [World.size_alloc, World.size_setCell, World.size_drew, size_put] at hz)
            have hB : Below wr.heap.size wr w2 := below_step (by (repeat' (first | (with_reducible exact Below.refl _ _) | (with_reducible exact Nat.le_refl _) | (with_reducible assumption) | (with_reducible refine below_step ?_ ?_ hr) | (with_reducible refine below_over ?_ ?_ _) | (with_reducible refine Below.alloc ?_ ?_ _) | (with_reducible refine Below.setCell ?_ ?_ _) | (with_reducible refine below_put ?_ ?_ _) | (with_reducible refine Below.drew ?_) | (with_reducible refine below_drewN_ ?_ _) | (with_reducible refine le_drewN ?_ _) | (with_reducible refine over_le _ _ _ ?_) | (with_reducible refine le_alloc ?_ _) | (with_reducible refine le_setCell ?_ _ _) | (with_reducible refine le_put ?_ _ _) | (with_reducible refine le_drew ?_) | dsimp only | omega | ((try simp only [World.size_alloc, World.size_setCell, World.size_drew, size_put]); omega) | (simp; done)))) (by (first | omega | ((try simp only [World.size_alloc, World.size_setCell, World.size_drew, size_put]); omega))) hb
            have Hy := Lib.hid (Hy.out.toW (below_step (by (repeat' (first | (with_reducible exact Below.refl _ _) | (with_reducible exact Nat.le_refl _) | (with_reducible assumption) | (with_reducible refine below_step ?_ ?_ hr) | (with_reducible refine below_over ?_ ?_ _) | (with_reducible refine Below.alloc ?_ ?_ _) | (with_reducible refine Below.setCell ?_ ?_ _) | (with_reducible refine below_put ?_ ?_ _) | (with_reducible refine Below.drew ?_) | (with_reducible refine below_drewN_ ?_ _) | (with_reducible refine le_drewN ?_ _) | (with_reducible refine over_le _ _ _ ?_) | (with_reducible refine le_alloc ?_ _) | (with_reducible refine le_setCell ?_ _ _) | (with_reducible refine le_put ?_ _ _) | (with_reducible refine le_drew ?_) | dsimp only | omega | ((try simp only [World.size_alloc, World.size_setCell, World.size_drew, size_put]); omega) | (simp; done)))) (by (first | omega | ((try simp only [World.size_alloc, World.size_setCell, World.size_drew, size_put]); omega))) hb))
            have Q' : w2.heap[w.heap.size]? = _ := hb.block (w.heap.size) (by (first | omega | ((try simp only [World.size_alloc, World.size_setCell, World.size_drew, size_put]); omega)))
            simp only [alloc_block_if, put_block_if, over_block_if, set_block_if, setObj_cells, drew_block, drewN_block, Option.map_some, List.setIfInBounds_toArray, List.set_cons_zero, List.set_cons_succ, World.size_alloc, World.size_setCell, size_put, World.size_drew, if_true, if_false, ↓IntWalk.iteOmega, Q_0] at Q'
            clear Q_0
            have Q_0 := Q'
            clear Q'
            have Q' : w2.heap[wr.heap.size]? = _ := hb.block (wr.heap.size) (by (first | omega | ((try simp only [World.size_alloc, World.size_setCell, World.size_drew, size_put]); omega)))
            simp only [alloc_block_if, put_block_if, over_block_if, set_block_if, setObj_cells, drew_block, drewN_block, Option.map_some, List.setIfInBounds_toArray, List.set_cons_zero, List.set_cons_succ, World.size_alloc, World.size_setCell, size_put, World.size_drew, if_true, if_false, ↓IntWalk.iteOmega] at Q'
            have Qwr_0 := Q'
            clear Q'
            have q_0 := cell_of_block Q_0
            have qwr_0 := cell_of_block Qwr_0
            clear hb
            have hBw2 : Below w.heap.size w w2 := hBw.trans (hB.mono (by omega))
            have f0 := (hBw2.cell (p := ⟨b, _, none⟩) hbw).trans hc0
            clear e0 e1 e2 e3 e4
            go_wp2_with fail
            refine (HC.out _ (by (repeat' (first | (with_reducible exact Below.refl _ _) | (with_reducible exact Nat.le_refl _) | (with_reducible assumption) | (with_reducible refine below_step ?_ ?_ hr) | (with_reducible refine below_over ?_ ?_ _) | (with_reducible refine Below.alloc ?_ ?_ _) | (with_reducible refine Below.setCell ?_ ?_ _) | (with_reducible refine below_put ?_ ?_ _) | (with_reducible refine Below.drew ?_) | (with_reducible refine below_drewN_ ?_ _) | (with_reducible refine le_drewN ?_ _) | (with_reducible refine over_le _ _ _ ?_) | (with_reducible refine le_alloc ?_ _) | (with_reducible refine le_setCell ?_ _ _) | (with_reducible refine le_put ?_ _ _) | (with_reducible refine le_drew ?_) | dsimp only | omega | ((try simp only [World.size_alloc, World.size_setCell, World.size_drew, size_put]); omega) | (simp; done))))).mono ?_
            rintro e w3 ⟨⟨B, m, d⟩, rfl, hb, hv⟩
            obtain rfl : m = 0 := by have h := hv.len; simpa using h.symm
            clear hv
            dsimp only [Sl.val]
            have hz := hb.size
            (try simp only [World.size_alloc, World.size_setCell, World.size_drew, size_put] at hz)
            have hB : Below wr.heap.size wr w3 := below_step (by (repeat' (first | (with_reducible exact Below.refl _ _) | (with_reducible exact Nat.le_refl _) | (with_reducible assumption) | (with_reducible refine below_step ?_ ?_ hr) | (with_reducible refine below_over ?_ ?_ _) | (with_reducible refine Below.alloc ?_ ?_ _) | (with_reducible refine Below.setCell ?_ ?_ _) | (with_reducible refine below_put ?_ ?_ _) | (with_reducible refine Below.drew ?_) | (with_reducible refine below_drewN_ ?_ _) | (with_reducible refine le_drewN ?_ _) | (with_reducible refine over_le _ _ _ ?_) | (with_reducible refine le_alloc ?_ _) | (with_reducible refine le_setCell ?_ _ _) | (with_reducible refine le_put ?_ _ _) | (with_reducible refine le_drew ?_) | dsimp only | omega | ((try simp only [World.size_alloc, World.size_setCell, World.size_drew, size_put]); omega) | (simp; done)))) (by (first | omega | ((try simp only [World.size_alloc, World.size_setCell, World.size_drew, size_put]); omega))) hb
            have Hy := Lib.hid (Hy.out.toW (below_step (by (repeat' (first | (with_reducible exact Below.refl _ _) | (with_reducible exact Nat.le_refl _) | (with_reducible assumption) | (with_reducible refine below_step ?_ ?_ hr) | (with_reducible refine below_over ?_ ?_ _) | (with_reducible refine Below.alloc ?_ ?_ _) | (with_reducible refine Below.setCell ?_ ?_ _) | (with_reducible refine below_put ?_ ?_ _) | (with_reducible refine Below.drew ?_) | (with_reducible refine below_drewN_ ?_ _) | (with_reducible refine le_drewN ?_ _) | (with_reducible refine over_le _ _ _ ?_) | (with_reducible refine le_alloc ?_ _) | (with_reducible refine le_setCell ?_ _ _) | (with_reducible refine le_put ?_ _ _) | (with_reducible refine le_drew ?_) | dsimp only | omega | ((try simp only [World.size_alloc, World.size_setCell, World.size_drew, size_put]); omega) | (simp; done)))) (by (first | omega | ((try simp only [World.size_alloc, World.size_setCell, World.size_drew, size_put]); omega))) hb))
            clear hb
            have hBr3 : Below w1.heap.size w1 w3 := hBr.trans (hB.mono (by omega))
            go_wp2_with fail
            go_roundw
            case rel => exact ⟨k + 1, ⟨A0, n0, c0⟩, ys, by omega, rfl, by go_num, Hg, Hy, by go_light; (repeat' (first | (with_reducible exact Below.refl _ _) | (with_reducible exact Nat.le_refl _) | (with_reducible assumption) | (with_reducible refine below_step ?_ ?_ hr) | (with_reducible refine below_over ?_ ?_ _) | (with_reducible refine Below.alloc ?_ ?_ _) | (with_reducible refine Below.setCell ?_ ?_ _) | (with_reducible refine below_put ?_ ?_ _) | (with_reducible refine Below.drew ?_) | (with_reducible refine below_drewN_ ?_ _) | (with_reducible refine le_drewN ?_ _) | (with_reducible refine over_le _ _ _ ?_) | (with_reducible refine le_alloc ?_ _) | (with_reducible refine le_setCell ?_ _ _) | (with_reducible refine le_put ?_ _ _) | (with_reducible refine le_drew ?_) | dsimp only | omega | ((try simp only [World.size_alloc, World.size_setCell, World.size_drew, size_put]); omega) | (simp; done)))⟩
            case measure => (simp [intOf] <;> omega)
        · by_cases hE : openE c.key ys = 0
          · have HS := Lib.hid (open_step (q := q) Hg.out hE)
            have HC : Hid (Rd wr CV.enc ⟨A0, n0, c0⟩ ys → ∀ w', Below wr.heap.size wr w' → Calls Try.prog 15 #[.slice A0 n0 c0, .int .i64 c.kind, .int .i64 c.target, .int .i64 c.by_] w' (COPost (openF c.key ys) 0 w')) := fun h w' hb => by
              have h2 := closure_Open ⟨A0, n0, c0⟩ ys c.key w' (h.toW hb) (by dsimp only; omega)
              rw [hE] at h2
              exact h2
            have HC := Lib.hid (HC.out Hy.out)
            clear hE
            generalize openF c.key ys = Z at HS HC
            have HGZ := Lib.hid HS.out.good
            have HN : Hid (∀ (v : Sl) w', Rd w' CV.enc v Z → Calls Try.prog 26 #[v.val, .int .i64 q.kind, .int .i64 q.target, .int .i64 q.by_] w' (Gives (.int .i64 (placeF q Z 0)) w')) := fun v w' h => ref52_Place v Z q w' h
            have HR : Hid (∀ (v : Sl) w', Rd w' CV.enc v Z → Calls Try.prog 10 #[v.val] w' (Gives (.int .i64 0) w')) := fun v w' h => right_is HGZ.out.right h
            have HO : Hid (∀ (v : Sl) w', Rd w' CV.enc v Z → Calls Try.prog 20 #[v.val, .int .i64 q.kind, .int .i64 q.target] w' (OwnIPost (sortI (ofC q.kind q.target Z)) w')) := fun v w' h => closure_Of v Z _ _ w' h (by have h1 := h.len; have h2 := HGZ.out.len; omega)
            generalize hN : placeF q Z 0 = N at HN
            go_wp2_with fail
            refine (HW.out _ (by (repeat' (first | (with_reducible exact Below.refl _ _) | (with_reducible exact Nat.le_refl _) | (with_reducible assumption) | (with_reducible refine below_step ?_ ?_ hr) | (with_reducible refine below_over ?_ ?_ _) | (with_reducible refine Below.alloc ?_ ?_ _) | (with_reducible refine Below.setCell ?_ ?_ _) | (with_reducible refine below_put ?_ ?_ _) | (with_reducible refine Below.drew ?_) | (with_reducible refine below_drewN_ ?_ _) | (with_reducible refine le_drewN ?_ _) | (with_reducible refine over_le _ _ _ ?_) | (with_reducible refine le_alloc ?_ _) | (with_reducible refine le_setCell ?_ _ _) | (with_reducible refine le_put ?_ _ _) | (with_reducible refine le_drew ?_) | dsimp only | omega | ((try simp only [World.size_alloc, World.size_setCell, World.size_drew, size_put]); omega) | (simp; done))))).mono ?_
            rintro e w2 hg
            obtain ⟨rfl, hb⟩ := hg.below
            clear hg
            have hz := hb.size
            (try simp only [World.size_alloc, World.size_setCell, World.size_drew, size_put] at hz)
            have hB : Below wr.heap.size wr w2 := below_step (by (repeat' (first | (with_reducible exact Below.refl _ _) | (with_reducible exact Nat.le_refl _) | (with_reducible assumption) | (with_reducible refine below_step ?_ ?_ hr) | (with_reducible refine below_over ?_ ?_ _) | (with_reducible refine Below.alloc ?_ ?_ _) | (with_reducible refine Below.setCell ?_ ?_ _) | (with_reducible refine below_put ?_ ?_ _) | (with_reducible refine Below.drew ?_) | (with_reducible refine below_drewN_ ?_ _) | (with_reducible refine le_drewN ?_ _) | (with_reducible refine over_le _ _ _ ?_) | (with_reducible refine le_alloc ?_ _) | (with_reducible refine le_setCell ?_ _ _) | (with_reducible refine le_put ?_ _ _) | (with_reducible refine le_drew ?_) | dsimp only | omega | ((try simp only [World.size_alloc, World.size_setCell, World.size_drew, size_put]); omega) | (simp; done)))) (by (first | omega | ((try simp only [World.size_alloc, World.size_setCell, World.size_drew, size_put]); omega))) hb
            have Hy := Lib.hid (Hy.out.toW (below_step (by (repeat' (first | (with_reducible exact Below.refl _ _) | (with_reducible exact Nat.le_refl _) | (with_reducible assumption) | (with_reducible refine below_step ?_ ?_ hr) | (with_reducible refine below_over ?_ ?_ _) | (with_reducible refine Below.alloc ?_ ?_ _) | (with_reducible refine Below.setCell ?_ ?_ _) | (with_reducible refine below_put ?_ ?_ _) | (with_reducible refine Below.drew ?_) | (with_reducible refine below_drewN_ ?_ _) | (with_reducible refine le_drewN ?_ _) | (with_reducible refine over_le _ _ _ ?_) | (with_reducible refine le_alloc ?_ _) | (with_reducible refine le_setCell ?_ _ _) | (with_reducible refine le_put ?_ _ _) | (with_reducible refine le_drew ?_) | dsimp only | omega | ((try simp only [World.size_alloc, World.size_setCell, World.size_drew, size_put]); omega) | (simp; done)))) (by (first | omega | ((try simp only [World.size_alloc, World.size_setCell, World.size_drew, size_put]); omega))) hb))
            have Q' : w2.heap[w.heap.size]? = _ := hb.block (w.heap.size) (by (first | omega | ((try simp only [World.size_alloc, World.size_setCell, World.size_drew, size_put]); omega)))
            simp only [alloc_block_if, put_block_if, over_block_if, set_block_if, setObj_cells, drew_block, drewN_block, Option.map_some, List.setIfInBounds_toArray, List.set_cons_zero, List.set_cons_succ, World.size_alloc, World.size_setCell, size_put, World.size_drew, if_true, if_false, ↓IntWalk.iteOmega, Q_0] at Q'
            clear Q_0
            have Q_0 := Q'
            clear Q'
            have Q' : w2.heap[wr.heap.size]? = _ := hb.block (wr.heap.size) (by (first | omega | ((try simp only [World.size_alloc, World.size_setCell, World.size_drew, size_put]); omega)))
            simp only [alloc_block_if, put_block_if, over_block_if, set_block_if, setObj_cells, drew_block, drewN_block, Option.map_some, List.setIfInBounds_toArray, List.set_cons_zero, List.set_cons_succ, World.size_alloc, World.size_setCell, size_put, World.size_drew, if_true, if_false, ↓IntWalk.iteOmega] at Q'
            have Qwr_0 := Q'
            clear Q'
            have q_0 := cell_of_block Q_0
            have qwr_0 := cell_of_block Qwr_0
            clear hb
            have hBw2 : Below w.heap.size w w2 := hBw.trans (hB.mono (by omega))
            have f0 := (hBw2.cell (p := ⟨b, _, none⟩) hbw).trans hc0
            clear e0 e1 e2 e3 e4
            go_wp2_with fail
            refine (HC.out _ (by (repeat' (first | (with_reducible exact Below.refl _ _) | (with_reducible exact Nat.le_refl _) | (with_reducible assumption) | (with_reducible refine below_step ?_ ?_ hr) | (with_reducible refine below_over ?_ ?_ _) | (with_reducible refine Below.alloc ?_ ?_ _) | (with_reducible refine Below.setCell ?_ ?_ _) | (with_reducible refine below_put ?_ ?_ _) | (with_reducible refine Below.drew ?_) | (with_reducible refine below_drewN_ ?_ _) | (with_reducible refine le_drewN ?_ _) | (with_reducible refine over_le _ _ _ ?_) | (with_reducible refine le_alloc ?_ _) | (with_reducible refine le_setCell ?_ _ _) | (with_reducible refine le_put ?_ _ _) | (with_reducible refine le_drew ?_) | dsimp only | omega | ((try simp only [World.size_alloc, World.size_setCell, World.size_drew, size_put]); omega) | (simp; done))))).mono ?_
            rintro e w3 ⟨⟨B, m, d⟩, rfl, hb, hv⟩
            have HZ := Lib.hid (hv.rd (fun _ => rfl))
            clear hv
            dsimp only [Sl.val]
            have hz := hb.size
            (try simp only [World.size_alloc, World.size_setCell, World.size_drew, size_put] at hz)
            have hB : Below wr.heap.size wr w3 := below_step (by (repeat' (first | (with_reducible exact Below.refl _ _) | (with_reducible exact Nat.le_refl _) | (with_reducible assumption) | (with_reducible refine below_step ?_ ?_ hr) | (with_reducible refine below_over ?_ ?_ _) | (with_reducible refine Below.alloc ?_ ?_ _) | (with_reducible refine Below.setCell ?_ ?_ _) | (with_reducible refine below_put ?_ ?_ _) | (with_reducible refine Below.drew ?_) | (with_reducible refine below_drewN_ ?_ _) | (with_reducible refine le_drewN ?_ _) | (with_reducible refine over_le _ _ _ ?_) | (with_reducible refine le_alloc ?_ _) | (with_reducible refine le_setCell ?_ _ _) | (with_reducible refine le_put ?_ _ _) | (with_reducible refine le_drew ?_) | dsimp only | omega | ((try simp only [World.size_alloc, World.size_setCell, World.size_drew, size_put]); omega) | (simp; done)))) (by (first | omega | ((try simp only [World.size_alloc, World.size_setCell, World.size_drew, size_put]); omega))) hb
            have Hy := Lib.hid (Hy.out.toW (below_step (by (repeat' (first | (with_reducible exact Below.refl _ _) | (with_reducible exact Nat.le_refl _) | (with_reducible assumption) | (with_reducible refine below_step ?_ ?_ hr) | (with_reducible refine below_over ?_ ?_ _) | (with_reducible refine Below.alloc ?_ ?_ _) | (with_reducible refine Below.setCell ?_ ?_ _) | (with_reducible refine below_put ?_ ?_ _) | (with_reducible refine Below.drew ?_) | (with_reducible refine below_drewN_ ?_ _) | (with_reducible refine le_drewN ?_ _) | (with_reducible refine over_le _ _ _ ?_) | (with_reducible refine le_alloc ?_ _) | (with_reducible refine le_setCell ?_ _ _) | (with_reducible refine le_put ?_ _ _) | (with_reducible refine le_drew ?_) | dsimp only | omega | ((try simp only [World.size_alloc, World.size_setCell, World.size_drew, size_put]); omega) | (simp; done)))) (by (first | omega | ((try simp only [World.size_alloc, World.size_setCell, World.size_drew, size_put]); omega))) hb))
            have Q' : w3.heap[w.heap.size]? = _ := hb.block (w.heap.size) (by (first | omega | ((try simp only [World.size_alloc, World.size_setCell, World.size_drew, size_put]); omega)))
            simp only [alloc_block_if, put_block_if, over_block_if, set_block_if, setObj_cells, drew_block, drewN_block, Option.map_some, List.setIfInBounds_toArray, List.set_cons_zero, List.set_cons_succ, World.size_alloc, World.size_setCell, size_put, World.size_drew, if_true, if_false, ↓IntWalk.iteOmega, Q_0] at Q'
            clear Q_0
            have Q_0 := Q'
            clear Q'
            have Q' : w3.heap[wr.heap.size]? = _ := hb.block (wr.heap.size) (by (first | omega | ((try simp only [World.size_alloc, World.size_setCell, World.size_drew, size_put]); omega)))
            simp only [alloc_block_if, put_block_if, over_block_if, set_block_if, setObj_cells, drew_block, drewN_block, Option.map_some, List.setIfInBounds_toArray, List.set_cons_zero, List.set_cons_succ, World.size_alloc, World.size_setCell, size_put, World.size_drew, if_true, if_false, ↓IntWalk.iteOmega, Qwr_0] at Q'
            clear Qwr_0
            have Qwr_0 := Q'
            clear Q'
            have q_0 := cell_of_block Q_0
            have qwr_0 := cell_of_block Qwr_0
            clear hb
            clear f0 hBw2
            go_wp2_with fail
            refine (HN.out ⟨B, m, d⟩ _ HZ.out).mono ?_
            rintro e w4 hg
            obtain ⟨rfl, hb⟩ := hg.below
            clear hg
            have hz := hb.size
            (try simp only [World.size_alloc, World.size_setCell, World.size_drew, size_put] at hz)
            have hB : Below wr.heap.size wr w4 := below_step (by (repeat' (first | (with_reducible exact Below.refl _ _) | (with_reducible exact Nat.le_refl _) | (with_reducible assumption) | (with_reducible refine below_step ?_ ?_ hr) | (with_reducible refine below_over ?_ ?_ _) | (with_reducible refine Below.alloc ?_ ?_ _) | (with_reducible refine Below.setCell ?_ ?_ _) | (with_reducible refine below_put ?_ ?_ _) | (with_reducible refine Below.drew ?_) | (with_reducible refine below_drewN_ ?_ _) | (with_reducible refine le_drewN ?_ _) | (with_reducible refine over_le _ _ _ ?_) | (with_reducible refine le_alloc ?_ _) | (with_reducible refine le_setCell ?_ _ _) | (with_reducible refine le_put ?_ _ _) | (with_reducible refine le_drew ?_) | dsimp only | omega | ((try simp only [World.size_alloc, World.size_setCell, World.size_drew, size_put]); omega) | (simp; done)))) (by (first | omega | ((try simp only [World.size_alloc, World.size_setCell, World.size_drew, size_put]); omega))) hb
            have Hy := Lib.hid (Hy.out.toW (below_step (by (repeat' (first | (with_reducible exact Below.refl _ _) | (with_reducible exact Nat.le_refl _) | (with_reducible assumption) | (with_reducible refine below_step ?_ ?_ hr) | (with_reducible refine below_over ?_ ?_ _) | (with_reducible refine Below.alloc ?_ ?_ _) | (with_reducible refine Below.setCell ?_ ?_ _) | (with_reducible refine below_put ?_ ?_ _) | (with_reducible refine Below.drew ?_) | (with_reducible refine below_drewN_ ?_ _) | (with_reducible refine le_drewN ?_ _) | (with_reducible refine over_le _ _ _ ?_) | (with_reducible refine le_alloc ?_ _) | (with_reducible refine le_setCell ?_ _ _) | (with_reducible refine le_put ?_ _ _) | (with_reducible refine le_drew ?_) | dsimp only | omega | ((try simp only [World.size_alloc, World.size_setCell, World.size_drew, size_put]); omega) | (simp; done)))) (by (first | omega | ((try simp only [World.size_alloc, World.size_setCell, World.size_drew, size_put]); omega))) hb))
            have HZ := Lib.hid (HZ.out.toW (below_step (by (repeat' (first | (with_reducible exact Below.refl _ _) | (with_reducible exact Nat.le_refl _) | (with_reducible assumption) | (with_reducible refine below_step ?_ ?_ hr) | (with_reducible refine below_over ?_ ?_ _) | (with_reducible refine Below.alloc ?_ ?_ _) | (with_reducible refine Below.setCell ?_ ?_ _) | (with_reducible refine below_put ?_ ?_ _) | (with_reducible refine Below.drew ?_) | (with_reducible refine below_drewN_ ?_ _) | (with_reducible refine le_drewN ?_ _) | (with_reducible refine over_le _ _ _ ?_) | (with_reducible refine le_alloc ?_ _) | (with_reducible refine le_setCell ?_ _ _) | (with_reducible refine le_put ?_ _ _) | (with_reducible refine le_drew ?_) | dsimp only | omega | ((try simp only [World.size_alloc, World.size_setCell, World.size_drew, size_put]); omega) | (simp; done)))) (by (first | omega | ((try simp only [World.size_alloc, World.size_setCell, World.size_drew, size_put]); omega))) hb))
            have Q' : w4.heap[w.heap.size]? = _ := hb.block (w.heap.size) (by (first | omega | ((try simp only [World.size_alloc, World.size_setCell, World.size_drew, size_put]); omega)))
            simp only [alloc_block_if, put_block_if, over_block_if, set_block_if, setObj_cells, drew_block, drewN_block, Option.map_some, List.setIfInBounds_toArray, List.set_cons_zero, List.set_cons_succ, World.size_alloc, World.size_setCell, size_put, World.size_drew, if_true, if_false, ↓IntWalk.iteOmega, Q_0] at Q'
            clear Q_0
            have Q_0 := Q'
            clear Q'
            have Q' : w4.heap[wr.heap.size]? = _ := hb.block (wr.heap.size) (by (first | omega | ((try simp only [World.size_alloc, World.size_setCell, World.size_drew, size_put]); omega)))
            simp only [alloc_block_if, put_block_if, over_block_if, set_block_if, setObj_cells, drew_block, drewN_block, Option.map_some, List.setIfInBounds_toArray, List.set_cons_zero, List.set_cons_succ, World.size_alloc, World.size_setCell, size_put, World.size_drew, if_true, if_false, ↓IntWalk.iteOmega, Qwr_0] at Q'
            clear Qwr_0
            have Qwr_0 := Q'
            clear Q'
            have q_0 := cell_of_block Q_0
            have qwr_0 := cell_of_block Qwr_0
            clear hb
            have hBw4 : Below w.heap.size w w4 := hBw.trans (hB.mono (by omega))
            have hBr4 : Below w1.heap.size w1 w4 := hBr.trans (hB.mono (by omega))
            have f0 := (hBw4.cell (p := ⟨b, _, none⟩) hbw).trans hc0
            have hz4 := hBw4.size
            by_cases hkey : c.key = q
            · have HF := Lib.hid (HS.out.flag hkey)
              obtain ⟨t1, t2, t3⟩ := key_same hkey
              clear hkey
              have hN0 : ¬ 0 ≤ N := by have h := HF.out; rw [hN] at h; simpa using h
              have hN1 : decide (N < 0) = true := by simp; omega
              have hN2 : decide (0 ≤ N) = false := by simp; omega
              have HH : Hid (∀ (v : Sl) w', Rd w' encI v (sortI (ofC q.kind q.target Z)) → Calls Try.prog 27 #[v.val, .int .i64 q.by_] w' (Gives (.bool false) w')) := fun v w' h => has_is (q := q) (by rw [hN]; exact hN2) h
              by_cases hW0 : 0 ≤ W
              · clear HS HF HN HW HC hN hW
                have hW1 : decide (W < 0) = false := by simp; omega
                have hW2 : decide (0 ≤ W) = true := by simp; omega
                go_wp2_with fail
                as_aux_lemma =>
                  refine wp_region_ord (by kernel_rfl) (fun wx hr => ?_)
                  simp only [List.length_cons, List.length_nil, Nat.reduceAdd]
                  have hzx := hr.size
                  refine wpAnyH_keep (over_ex (by go_light; (repeat' (first | (with_reducible exact Below.refl _ _) | (with_reducible exact Nat.le_refl _) | (with_reducible assumption) | (with_reducible refine below_step ?_ ?_ hr) | (with_reducible refine below_over ?_ ?_ _) | (with_reducible refine Below.alloc ?_ ?_ _) | (with_reducible refine Below.setCell ?_ ?_ _) | (with_reducible refine below_put ?_ ?_ _) | (with_reducible refine Below.drew ?_) | (with_reducible refine below_drewN_ ?_ _) | (with_reducible refine le_drewN ?_ _) | (with_reducible refine over_le _ _ _ ?_) | (with_reducible refine le_alloc ?_ _) | (with_reducible refine le_setCell ?_ _ _) | (with_reducible refine le_put ?_ _ _) | (with_reducible refine le_drew ?_) | dsimp only | omega | ((try simp only [World.size_alloc, World.size_setCell, World.size_drew, size_put]); omega) | (simp; done))))) (fun hSq => ?_)
                  refine wpAnyH_one 0 rfl rfl (by kernel_rfl) (by kernel_rfl) (fun _ _ _ _ _ h => h) hSq.out ?_
                  (first | go_big_quiet_step (fail) | quiet_step (fail))
                  refine wpQuiet_nil ?_
                  refine wpAnyH_one 1 rfl rfl (by kernel_rfl) (by kernel_rfl) (fun _ _ _ _ _ h => h) hSq.out ?_
                  (first | go_big_quiet_step (fail) | quiet_step (fail))
                  refine wpQuiet_nil ?_
                  refine wpAnyH_one 2 rfl rfl (by kernel_rfl) (by kernel_rfl) (fun _ _ _ _ _ h => h) hSq.out ?_
                  (first | go_big_quiet_step (fail) | quiet_step (fail))
                  refine wpQuiet_nil ?_
                  refine wpAnyH_one 3 rfl rfl (by kernel_rfl) (by kernel_rfl) (fun _ _ _ _ _ h => h) hSq.out ?_
                  (first | go_big_quiet_step (fail) | quiet_step (fail))
                  refine wpQuiet_nil ?_
                  refine wpAnyH_one 4 rfl rfl (by kernel_rfl) (by kernel_rfl) (fun _ _ _ _ _ h => h) hSq.out ?_
                  (first | go_big_quiet_step (fail) | quiet_step (fail))
                  refine wpQuiet_nil ?_
                  refine wpAnyH_one 5 rfl rfl (by kernel_rfl) (by kernel_rfl) (fun _ _ _ _ _ h => h) hSq.out ?_
                  (first | go_big_quiet_step (fail) | quiet_step (fail))
                  refine wpQuiet_nil ?_
                  refine wpAnyH_one 6 rfl rfl (by kernel_rfl) (by kernel_rfl) (fun _ _ _ _ _ h => h) hSq.out ?_
                  (first | go_big_quiet_step (fail) | quiet_step (fail))
                  refine wpQuiet_nil ?_
                  refine wpAnyH_one 7 rfl rfl (by kernel_rfl) (by kernel_rfl) (fun _ _ _ _ _ h => h) hSq.out ?_
                  (first | go_big_quiet_step (fail) | quiet_step (fail))
                  refine wpQuiet_nil ?_
                  refine wpAnyH_one 8 rfl rfl (by kernel_rfl) (by kernel_rfl) (fun _ _ _ _ _ h => h) hSq.out ?_
                  (first | go_big_quiet_step (fail) | quiet_step (fail))
                  refine wpQuiet_nil ?_
                  refine wpAnyH_one 9 rfl rfl (by kernel_rfl) (by kernel_rfl) (fun _ _ _ _ _ h => h) hSq.out ?_
                  (first | go_big_quiet_step (fail) | quiet_step (fail))
                  refine wpQuiet_nil ?_
                  refine wpAnyH_one 10 rfl rfl (by kernel_rfl) (by kernel_rfl) (fun _ _ _ _ _ h => h) hSq.out ?_
                  (first | go_big_quiet_step (fail) | quiet_step (fail))
                  refine wpQuiet_nil ?_
                  refine wpAnyH_one 11 rfl rfl (by kernel_rfl) (by kernel_rfl) (fun _ _ _ _ _ h => h) hSq.out ?_
                  (first | go_big_quiet_step (fail) | quiet_step (fail))
                  refine wpQuiet_nil ?_
                  refine wpAnyH_one 12 rfl rfl (by kernel_rfl) (by kernel_rfl) (fun _ _ _ _ _ h => h) hSq.out ?_
                  (first | go_big_quiet_step (fail) | quiet_step (fail))
                  refine wpQuiet_nil ?_
                  refine wpAnyH_one 13 rfl rfl (by kernel_rfl) (by kernel_rfl) (fun _ _ _ _ _ h => h) hSq.out ?_
                  (first | go_big_quiet_step (fail) | quiet_step (fail))
                  refine wpQuiet_nil ?_
                  refine wpAnyH_one 14 rfl rfl (by kernel_rfl) (by kernel_rfl) (fun _ _ _ _ _ h => h) hSq.out ?_
                  (first | go_big_quiet_step (fail) | quiet_step (fail))
                  refine wpQuiet_nil ?_
                  refine wpAnyH_one 15 rfl rfl (by kernel_rfl) (by kernel_rfl) (fun _ _ _ _ _ h => h) hSq.out ?_
                  (first | go_big_quiet_step (fail) | quiet_step (fail))
                  refine wpQuiet_nil ?_
                  refine wpAnyH_one 16 rfl rfl (by kernel_rfl) (by kernel_rfl) (fun _ _ _ _ _ h => h) hSq.out ?_
                  (first | go_big_quiet_step (fail) | quiet_step (fail))
                  refine wpQuiet_nil ?_
                  refine wpAnyH_one 17 rfl rfl (by kernel_rfl) (by kernel_rfl) (fun _ _ _ _ _ h => h) hSq.out ?_
                  (first | go_big_quiet_step (fail) | quiet_step (fail))
                  refine wpQuiet_nil ?_
                  refine wpAnyH_one 18 rfl rfl (by kernel_rfl) (by kernel_rfl) (fun _ _ _ _ _ h => h) hSq.out ?_
                  (first | go_big_quiet_step (fail) | quiet_step (fail))
                  refine wpQuiet_nil ?_
                  refine wpAnyH_one 19 rfl rfl (by kernel_rfl) (by kernel_rfl) (fun _ _ _ _ _ h => h) hSq.out ?_
                  (first | go_big_quiet_step (fail) | quiet_step (fail))
                  refine wpQuiet_nil ?_
                  refine wpAnyH_one 20 rfl rfl (by kernel_rfl) (by kernel_rfl) (fun _ _ _ _ _ h => h) hSq.out ?_
                  (first | go_big_quiet_step (fail) | quiet_step (fail))
                  refine wpQuiet_nil ?_
                  refine wpAnyH_one 21 rfl rfl (by kernel_rfl) (by kernel_rfl) (fun _ _ _ _ _ h => h) hSq.out ?_
                  (first | go_big_quiet_step (fail) | quiet_step (fail))
                  refine wpQuiet_nil ?_
                  refine wpAnyH_one 22 rfl rfl (by kernel_rfl) (by kernel_rfl) (fun _ _ _ _ _ h => h) hSq.out ?_
                  (first | go_big_quiet_step (fail) | quiet_step (fail))
                  refine wpQuiet_nil ?_
                  refine wpAnyH_one 23 rfl rfl (by kernel_rfl) (by kernel_rfl) (fun _ _ _ _ _ h => h) hSq.out ?_
                  (first | go_big_quiet_step (fail) | quiet_step (fail))
                  refine wpQuiet_nil ?_
                  refine wpAnyH_one 24 rfl rfl (by kernel_rfl) (by kernel_rfl) (fun _ _ _ _ _ h => h) hSq.out ?_
                  (first | go_big_quiet_step (fail) | quiet_step (fail))
                  refine wpQuiet_nil ?_
                  refine wpAnyH_one 25 rfl rfl (by kernel_rfl) (by kernel_rfl) (fun _ _ _ _ _ h => h) hSq.out ?_
                  (first | go_big_quiet_step (fail) | quiet_step (fail))
                  refine wpQuiet_nil ?_
                  refine wpAnyH_one 26 rfl rfl (by kernel_rfl) (by kernel_rfl) (fun _ _ _ _ _ h => h) hSq.out ?_
                  (first | go_big_quiet_step (fail) | quiet_step (fail))
                  refine wpQuiet_nil ?_
                  refine wpAnyH_one 27 rfl rfl (by kernel_rfl) (by kernel_rfl) (fun _ _ _ _ _ h => h) hSq.out ?_
                  (first | go_big_quiet_step (fail) | quiet_step (fail))
                  refine wpQuiet_nil ?_
                  refine wpAnyH_one 28 rfl rfl (by kernel_rfl) (by kernel_rfl) (fun _ _ _ _ _ h => h) hSq.out ?_
                  (first | go_big_quiet_step (fail) | quiet_step (fail))
                  refine wpQuiet_nil ?_
                  refine wpAnyH_one 29 rfl rfl (by kernel_rfl) (by kernel_rfl) (fun _ _ _ _ _ h => h) hSq.out ?_
                  (first | go_big_quiet_step (fail) | quiet_step (fail))
                  refine wpQuiet_nil ?_
                  refine wpAnyH_one 30 rfl rfl (by kernel_rfl) (by kernel_rfl) (fun _ _ _ _ _ h => h) hSq.out ?_
                  (first | go_big_quiet_step (fail) | quiet_step (fail))
                  refine wpQuiet_nil ?_
                  refine wpAnyH_one 31 rfl rfl (by kernel_rfl) (by kernel_rfl) (fun _ _ _ _ _ h => h) hSq.out ?_
                  (first | go_big_quiet_step (fail) | quiet_step (fail))
                  refine wpQuiet_nil ?_
                  refine wpAnyH_one 32 rfl rfl (by kernel_rfl) (by kernel_rfl) (fun _ _ _ _ _ h => h) hSq.out ?_
                  (first | go_big_quiet_step (fail) | quiet_step (fail))
                  refine wpQuiet_nil ?_
                  refine wpAnyH_one 33 rfl rfl (by kernel_rfl) (by kernel_rfl) (fun _ _ _ _ _ h => h) hSq.out ?_
                  (first | go_big_quiet_step (fail) | quiet_step (fail))
                  refine wpQuiet_nil ?_
                  refine wpAnyH_one 34 rfl rfl (by kernel_rfl) (by kernel_rfl) (fun _ _ _ _ _ h => h) hSq.out ?_
                  (first | go_big_quiet_step (fail) | quiet_step (fail))
                  refine wpQuiet_nil ?_
                  refine wpAnyH_one 35 rfl rfl (by kernel_rfl) (by kernel_rfl) (fun _ _ _ _ _ h => h) hSq.out ?_
                  (first | go_big_quiet_step (fail) | quiet_step (fail))
                  refine wpQuiet_nil ?_
                  refine wpAnyH_one 36 rfl rfl (by kernel_rfl) (by kernel_rfl) (fun _ _ _ _ _ h => h) hSq.out ?_
                  (first | go_big_quiet_step (fail) | quiet_step (fail))
                  refine wpQuiet_nil ?_
                  refine wpAnyH_one 37 rfl rfl (by kernel_rfl) (by kernel_rfl) (fun _ _ _ _ _ h => h) hSq.out ?_
                  (first | go_big_quiet_step (fail) | quiet_step (fail))
                  refine wpQuiet_nil ?_
                  refine wpAnyH_one 38 rfl rfl (by kernel_rfl) (by kernel_rfl) (fun _ _ _ _ _ h => h) hSq.out ?_
                  (first | go_big_quiet_step (fail) | quiet_step (fail))
                  refine wpQuiet_nil ?_
                  refine wpAnyH_one 39 rfl rfl (by kernel_rfl) (by kernel_rfl) (fun _ _ _ _ _ h => h) hSq.out ?_
                  (first | go_big_quiet_step (fail) | quiet_step (fail))
                  refine wpQuiet_nil ?_
                  refine wpAnyH_one 40 rfl rfl (by kernel_rfl) (by kernel_rfl) (fun _ _ _ _ _ h => h) hSq.out ?_
                  (first | go_big_quiet_step (fail) | quiet_step (fail))
                  refine wpQuiet_nil ?_
                  refine wpAnyH_one 41 rfl rfl (by kernel_rfl) (by kernel_rfl) (fun _ _ _ _ _ h => h) hSq.out ?_
                  (first | go_big_quiet_step (fail) | quiet_step (fail))
                  refine wpQuiet_nil ?_
                  refine wpAnyH_one 42 rfl rfl (by kernel_rfl) (by kernel_rfl) (fun _ _ _ _ _ h => h) hSq.out ?_
                  (first | go_big_quiet_step (fail) | quiet_step (fail))
                  refine wpQuiet_nil ?_
                  clear hSq
                  refine wpAnyH_sole 43 rfl (by kernel_rfl) (fun K hK => ?_)
                  go_simp
                  (refine (HR.out _ _ (HZ.out.toW hr)).mono ?_; rintro e u1 hgv; obtain ⟨rfl, hb⟩ := hgv.below; clear hgv; have hsu1 := hb.size; have hr := below_step hr (by omega) hb; clear hb)
                  refine hK _ _ (over_ex (by go_light; (repeat' (first | (with_reducible exact Below.refl _ _) | (with_reducible exact Nat.le_refl _) | (with_reducible assumption) | (with_reducible refine below_step ?_ ?_ hr) | (with_reducible refine below_over ?_ ?_ _) | (with_reducible refine Below.alloc ?_ ?_ _) | (with_reducible refine Below.setCell ?_ ?_ _) | (with_reducible refine below_put ?_ ?_ _) | (with_reducible refine Below.drew ?_) | (with_reducible refine below_drewN_ ?_ _) | (with_reducible refine le_drewN ?_ _) | (with_reducible refine over_le _ _ _ ?_) | (with_reducible refine le_alloc ?_ _) | (with_reducible refine le_setCell ?_ _ _) | (with_reducible refine le_put ?_ _ _) | (with_reducible refine le_drew ?_) | dsimp only | omega | ((try simp only [World.size_alloc, World.size_setCell, World.size_drew, size_put]); omega) | (simp; done))))) ?_
                  clear hK K
                  have hzu1 := hr.size
                  refine wpAnyH_keep (over_ex (by go_light; (repeat' (first | (with_reducible exact Below.refl _ _) | (with_reducible exact Nat.le_refl _) | (with_reducible assumption) | (with_reducible refine below_step ?_ ?_ hr) | (with_reducible refine below_over ?_ ?_ _) | (with_reducible refine Below.alloc ?_ ?_ _) | (with_reducible refine Below.setCell ?_ ?_ _) | (with_reducible refine below_put ?_ ?_ _) | (with_reducible refine Below.drew ?_) | (with_reducible refine below_drewN_ ?_ _) | (with_reducible refine le_drewN ?_ _) | (with_reducible refine over_le _ _ _ ?_) | (with_reducible refine le_alloc ?_ _) | (with_reducible refine le_setCell ?_ _ _) | (with_reducible refine le_put ?_ _ _) | (with_reducible refine le_drew ?_) | dsimp only | omega | ((try simp only [World.size_alloc, World.size_setCell, World.size_drew, size_put]); omega) | (simp; done))))) (fun hSq => ?_)
                  refine wpAnyH_one 44 rfl rfl (by kernel_rfl) (by kernel_rfl) (fun _ _ _ _ _ h => h) hSq.out ?_
                  (first | go_big_quiet_step (fail) | quiet_step (fail))
                  refine wpQuiet_nil ?_
                  refine wpAnyH_one 45 rfl rfl (by kernel_rfl) (by kernel_rfl) (fun _ _ _ _ _ h => h) hSq.out ?_
                  (first | go_big_quiet_step (fail) | quiet_step (fail))
                  refine wpQuiet_nil ?_
                  refine wpAnyH_one 46 rfl rfl (by kernel_rfl) (by kernel_rfl) (fun _ _ _ _ _ h => h) hSq.out ?_
                  (first | go_big_quiet_step (fail) | quiet_step (fail))
                  refine wpQuiet_nil ?_
                  refine wpAnyH_one 47 rfl rfl (by kernel_rfl) (by kernel_rfl) (fun _ _ _ _ _ h => h) hSq.out ?_
                  (first | go_big_quiet_step (fail) | quiet_step (fail))
                  refine wpQuiet_nil ?_
                  refine wpAnyH_one 48 rfl rfl (by kernel_rfl) (by kernel_rfl) (fun _ _ _ _ _ h => h) hSq.out ?_
                  (first | go_big_quiet_step (fail) | quiet_step (fail))
                  refine wpQuiet_nil ?_
                  refine wpAnyH_one 49 rfl rfl (by kernel_rfl) (by kernel_rfl) (fun _ _ _ _ _ h => h) hSq.out ?_
                  (first | go_big_quiet_step (fail) | quiet_step (fail))
                  refine wpQuiet_nil ?_
                  refine wpAnyH_one 50 rfl rfl (by kernel_rfl) (by kernel_rfl) (fun _ _ _ _ _ h => h) hSq.out ?_
                  (first | go_big_quiet_step (fail) | quiet_step (fail))
                  refine wpQuiet_nil ?_
                  refine wpAnyH_one 51 rfl rfl (by kernel_rfl) (by kernel_rfl) (fun _ _ _ _ _ h => h) hSq.out ?_
                  (first | go_big_quiet_step (fail) | quiet_step (fail))
                  refine wpQuiet_nil ?_
                  refine wpAnyH_one 53 rfl rfl (by kernel_rfl) (by kernel_rfl) (fun _ _ _ _ _ h => h) hSq.out ?_
                  (first | go_big_quiet_step (fail) | quiet_step (fail))
                  refine wpQuiet_nil ?_
                  refine wpAnyH_one 54 rfl rfl (by kernel_rfl) (by kernel_rfl) (fun _ _ _ _ _ h => h) hSq.out ?_
                  (first | go_big_quiet_step (fail) | quiet_step (fail))
                  refine wpQuiet_nil ?_
                  refine wpAnyH_one 56 rfl rfl (by kernel_rfl) (by kernel_rfl) (fun _ _ _ _ _ h => h) hSq.out ?_
                  (first | go_big_quiet_step (fail) | quiet_step (fail))
                  refine wpQuiet_nil ?_
                  refine wpAnyH_one 57 rfl rfl (by kernel_rfl) (by kernel_rfl) (fun _ _ _ _ _ h => h) hSq.out ?_
                  (first | go_big_quiet_step (fail) | quiet_step (fail))
                  refine wpQuiet_nil ?_
                  clear hSq
                  refine wpAnyH_sole 52 rfl (by kernel_rfl) (fun K hK => ?_)
                  go_simp
                  (refine (HO.out _ _ (HZ.out.toW hr)).mono ?_; rintro e u2 ⟨v2, rfl, hb, hv⟩; have HI := Lib.hid (hv.rd (fun _ => rfl)); clear hv; have hsu2 := hb.size; have hr := below_step hr (by omega) hb; clear hb)
                  refine hK _ _ (over_ex (by go_light; (repeat' (first | (with_reducible exact Below.refl _ _) | (with_reducible exact Nat.le_refl _) | (with_reducible assumption) | (with_reducible refine below_step ?_ ?_ hr) | (with_reducible refine below_over ?_ ?_ _) | (with_reducible refine Below.alloc ?_ ?_ _) | (with_reducible refine Below.setCell ?_ ?_ _) | (with_reducible refine below_put ?_ ?_ _) | (with_reducible refine Below.drew ?_) | (with_reducible refine below_drewN_ ?_ _) | (with_reducible refine le_drewN ?_ _) | (with_reducible refine over_le _ _ _ ?_) | (with_reducible refine le_alloc ?_ _) | (with_reducible refine le_setCell ?_ _ _) | (with_reducible refine le_put ?_ _ _) | (with_reducible refine le_drew ?_) | dsimp only | omega | ((try simp only [World.size_alloc, World.size_setCell, World.size_drew, size_put]); omega) | (simp; done))))) ?_
                  clear hK K
                  have hzu2 := hr.size
                  refine wpAnyH_sole 55 rfl (by kernel_rfl) (fun K hK => ?_)
                  go_simp
                  (refine (HH.out _ _ HI.out).mono ?_; rintro e u3 hgv; obtain ⟨rfl, hb⟩ := hgv.below; clear hgv HI; have hsu3 := hb.size; have hr := below_step hr (by omega) hb; clear hb)
                  refine hK _ _ (over_ex (by go_light; (repeat' (first | (with_reducible exact Below.refl _ _) | (with_reducible exact Nat.le_refl _) | (with_reducible assumption) | (with_reducible refine below_step ?_ ?_ hr) | (with_reducible refine below_over ?_ ?_ _) | (with_reducible refine Below.alloc ?_ ?_ _) | (with_reducible refine Below.setCell ?_ ?_ _) | (with_reducible refine below_put ?_ ?_ _) | (with_reducible refine Below.drew ?_) | (with_reducible refine below_drewN_ ?_ _) | (with_reducible refine le_drewN ?_ _) | (with_reducible refine over_le _ _ _ ?_) | (with_reducible refine le_alloc ?_ _) | (with_reducible refine le_setCell ?_ _ _) | (with_reducible refine le_put ?_ _ _) | (with_reducible refine le_drew ?_) | dsimp only | omega | ((try simp only [World.size_alloc, World.size_setCell, World.size_drew, size_put]); omega) | (simp; done))))) ?_
                  clear hK K
                  have hzu3 := hr.size
                  refine wpAnyH_keep (over_ex (by go_light; (repeat' (first | (with_reducible exact Below.refl _ _) | (with_reducible exact Nat.le_refl _) | (with_reducible assumption) | (with_reducible refine below_step ?_ ?_ hr) | (with_reducible refine below_over ?_ ?_ _) | (with_reducible refine Below.alloc ?_ ?_ _) | (with_reducible refine Below.setCell ?_ ?_ _) | (with_reducible refine below_put ?_ ?_ _) | (with_reducible refine Below.drew ?_) | (with_reducible refine below_drewN_ ?_ _) | (with_reducible refine le_drewN ?_ _) | (with_reducible refine over_le _ _ _ ?_) | (with_reducible refine le_alloc ?_ _) | (with_reducible refine le_setCell ?_ _ _) | (with_reducible refine le_put ?_ _ _) | (with_reducible refine le_drew ?_) | dsimp only | omega | ((try simp only [World.size_alloc, World.size_setCell, World.size_drew, size_put]); omega) | (simp; done))))) (fun hSq => ?_)
                  refine wpAnyH_one 58 rfl rfl (by kernel_rfl) (by kernel_rfl) (fun _ _ _ _ _ h => h) hSq.out ?_
                  (first | go_big_quiet_step (fail) | quiet_step (fail))
                  refine wpQuiet_nil ?_
                  refine wpAnyH_one 59 rfl rfl (by kernel_rfl) (by kernel_rfl) (fun _ _ _ _ _ h => h) hSq.out ?_
                  (first | go_big_quiet_step (fail) | quiet_step (fail))
                  refine wpQuiet_nil ?_
                  clear hSq
                  refine wpAnyH_done (by kernel_rfl) ?_ _
                  have HZ9 := Lib.hid (HZ.out.toW hr)
                  have hB9 : Below w1.heap.size w1 u3 := hBr4.trans (hr.mono (by omega))
                  go_wp2_with fail
                  go_roundw
                  case rel => exact ⟨k + 1, ⟨_, m, d⟩, Z, by omega, rfl, by go_num, HGZ, HZ9, by go_light; (repeat' (first | (with_reducible exact Below.refl _ _) | (with_reducible exact Nat.le_refl _) | (with_reducible assumption) | (with_reducible refine below_step ?_ ?_ hr) | (with_reducible refine below_over ?_ ?_ _) | (with_reducible refine Below.alloc ?_ ?_ _) | (with_reducible refine Below.setCell ?_ ?_ _) | (with_reducible refine below_put ?_ ?_ _) | (with_reducible refine Below.drew ?_) | (with_reducible refine below_drewN_ ?_ _) | (with_reducible refine le_drewN ?_ _) | (with_reducible refine over_le _ _ _ ?_) | (with_reducible refine le_alloc ?_ _) | (with_reducible refine le_setCell ?_ _ _) | (with_reducible refine le_put ?_ _ _) | (with_reducible refine le_drew ?_) | dsimp only | omega | ((try simp only [World.size_alloc, World.size_setCell, World.size_drew, size_put]); omega) | (simp; done)))⟩
                  case measure => (simp [intOf] <;> omega)
              · clear HS HF HN HW HC hN hW
                have hW1 : decide (W < 0) = true := by simp; omega
                have hW2 : decide (0 ≤ W) = false := by simp; omega
                go_wp2_with fail
                as_aux_lemma =>
                  refine wp_region_ord (by kernel_rfl) (fun wx hr => ?_)
                  simp only [List.length_cons, List.length_nil, Nat.reduceAdd]
                  have hzx := hr.size
                  refine wpAnyH_keep (over_ex (by go_light; (repeat' (first | (with_reducible exact Below.refl _ _) | (with_reducible exact Nat.le_refl _) | (with_reducible assumption) | (with_reducible refine below_step ?_ ?_ hr) | (with_reducible refine below_over ?_ ?_ _) | (with_reducible refine Below.alloc ?_ ?_ _) | (with_reducible refine Below.setCell ?_ ?_ _) | (with_reducible refine below_put ?_ ?_ _) | (with_reducible refine Below.drew ?_) | (with_reducible refine below_drewN_ ?_ _) | (with_reducible refine le_drewN ?_ _) | (with_reducible refine over_le _ _ _ ?_) | (with_reducible refine le_alloc ?_ _) | (with_reducible refine le_setCell ?_ _ _) | (with_reducible refine le_put ?_ _ _) | (with_reducible refine le_drew ?_) | dsimp only | omega | ((try simp only [World.size_alloc, World.size_setCell, World.size_drew, size_put]); omega) | (simp; done))))) (fun hSq => ?_)
                  refine wpAnyH_one 0 rfl rfl (by kernel_rfl) (by kernel_rfl) (fun _ _ _ _ _ h => h) hSq.out ?_
                  (first | go_big_quiet_step (fail) | quiet_step (fail))
                  refine wpQuiet_nil ?_
                  refine wpAnyH_one 1 rfl rfl (by kernel_rfl) (by kernel_rfl) (fun _ _ _ _ _ h => h) hSq.out ?_
                  (first | go_big_quiet_step (fail) | quiet_step (fail))
                  refine wpQuiet_nil ?_
                  refine wpAnyH_one 2 rfl rfl (by kernel_rfl) (by kernel_rfl) (fun _ _ _ _ _ h => h) hSq.out ?_
                  (first | go_big_quiet_step (fail) | quiet_step (fail))
                  refine wpQuiet_nil ?_
                  refine wpAnyH_one 3 rfl rfl (by kernel_rfl) (by kernel_rfl) (fun _ _ _ _ _ h => h) hSq.out ?_
                  (first | go_big_quiet_step (fail) | quiet_step (fail))
                  refine wpQuiet_nil ?_
                  refine wpAnyH_one 4 rfl rfl (by kernel_rfl) (by kernel_rfl) (fun _ _ _ _ _ h => h) hSq.out ?_
                  (first | go_big_quiet_step (fail) | quiet_step (fail))
                  refine wpQuiet_nil ?_
                  refine wpAnyH_one 5 rfl rfl (by kernel_rfl) (by kernel_rfl) (fun _ _ _ _ _ h => h) hSq.out ?_
                  (first | go_big_quiet_step (fail) | quiet_step (fail))
                  refine wpQuiet_nil ?_
                  refine wpAnyH_one 6 rfl rfl (by kernel_rfl) (by kernel_rfl) (fun _ _ _ _ _ h => h) hSq.out ?_
                  (first | go_big_quiet_step (fail) | quiet_step (fail))
                  refine wpQuiet_nil ?_
                  refine wpAnyH_one 7 rfl rfl (by kernel_rfl) (by kernel_rfl) (fun _ _ _ _ _ h => h) hSq.out ?_
                  (first | go_big_quiet_step (fail) | quiet_step (fail))
                  refine wpQuiet_nil ?_
                  refine wpAnyH_one 8 rfl rfl (by kernel_rfl) (by kernel_rfl) (fun _ _ _ _ _ h => h) hSq.out ?_
                  (first | go_big_quiet_step (fail) | quiet_step (fail))
                  refine wpQuiet_nil ?_
                  refine wpAnyH_one 9 rfl rfl (by kernel_rfl) (by kernel_rfl) (fun _ _ _ _ _ h => h) hSq.out ?_
                  (first | go_big_quiet_step (fail) | quiet_step (fail))
                  refine wpQuiet_nil ?_
                  refine wpAnyH_one 10 rfl rfl (by kernel_rfl) (by kernel_rfl) (fun _ _ _ _ _ h => h) hSq.out ?_
                  (first | go_big_quiet_step (fail) | quiet_step (fail))
                  refine wpQuiet_nil ?_
                  refine wpAnyH_one 11 rfl rfl (by kernel_rfl) (by kernel_rfl) (fun _ _ _ _ _ h => h) hSq.out ?_
                  (first | go_big_quiet_step (fail) | quiet_step (fail))
                  refine wpQuiet_nil ?_
                  refine wpAnyH_one 12 rfl rfl (by kernel_rfl) (by kernel_rfl) (fun _ _ _ _ _ h => h) hSq.out ?_
                  (first | go_big_quiet_step (fail) | quiet_step (fail))
                  refine wpQuiet_nil ?_
                  refine wpAnyH_one 13 rfl rfl (by kernel_rfl) (by kernel_rfl) (fun _ _ _ _ _ h => h) hSq.out ?_
                  (first | go_big_quiet_step (fail) | quiet_step (fail))
                  refine wpQuiet_nil ?_
                  refine wpAnyH_one 14 rfl rfl (by kernel_rfl) (by kernel_rfl) (fun _ _ _ _ _ h => h) hSq.out ?_
                  (first | go_big_quiet_step (fail) | quiet_step (fail))
                  refine wpQuiet_nil ?_
                  refine wpAnyH_one 15 rfl rfl (by kernel_rfl) (by kernel_rfl) (fun _ _ _ _ _ h => h) hSq.out ?_
                  (first | go_big_quiet_step (fail) | quiet_step (fail))
                  refine wpQuiet_nil ?_
                  refine wpAnyH_one 16 rfl rfl (by kernel_rfl) (by kernel_rfl) (fun _ _ _ _ _ h => h) hSq.out ?_
                  (first | go_big_quiet_step (fail) | quiet_step (fail))
                  refine wpQuiet_nil ?_
                  refine wpAnyH_one 17 rfl rfl (by kernel_rfl) (by kernel_rfl) (fun _ _ _ _ _ h => h) hSq.out ?_
                  (first | go_big_quiet_step (fail) | quiet_step (fail))
                  refine wpQuiet_nil ?_
                  refine wpAnyH_one 18 rfl rfl (by kernel_rfl) (by kernel_rfl) (fun _ _ _ _ _ h => h) hSq.out ?_
                  (first | go_big_quiet_step (fail) | quiet_step (fail))
                  refine wpQuiet_nil ?_
                  refine wpAnyH_one 19 rfl rfl (by kernel_rfl) (by kernel_rfl) (fun _ _ _ _ _ h => h) hSq.out ?_
                  (first | go_big_quiet_step (fail) | quiet_step (fail))
                  refine wpQuiet_nil ?_
                  refine wpAnyH_one 20 rfl rfl (by kernel_rfl) (by kernel_rfl) (fun _ _ _ _ _ h => h) hSq.out ?_
                  (first | go_big_quiet_step (fail) | quiet_step (fail))
                  refine wpQuiet_nil ?_
                  refine wpAnyH_one 21 rfl rfl (by kernel_rfl) (by kernel_rfl) (fun _ _ _ _ _ h => h) hSq.out ?_
                  (first | go_big_quiet_step (fail) | quiet_step (fail))
                  refine wpQuiet_nil ?_
                  refine wpAnyH_one 22 rfl rfl (by kernel_rfl) (by kernel_rfl) (fun _ _ _ _ _ h => h) hSq.out ?_
                  (first | go_big_quiet_step (fail) | quiet_step (fail))
                  refine wpQuiet_nil ?_
                  refine wpAnyH_one 23 rfl rfl (by kernel_rfl) (by kernel_rfl) (fun _ _ _ _ _ h => h) hSq.out ?_
                  (first | go_big_quiet_step (fail) | quiet_step (fail))
                  refine wpQuiet_nil ?_
                  refine wpAnyH_one 24 rfl rfl (by kernel_rfl) (by kernel_rfl) (fun _ _ _ _ _ h => h) hSq.out ?_
                  (first | go_big_quiet_step (fail) | quiet_step (fail))
                  refine wpQuiet_nil ?_
                  refine wpAnyH_one 25 rfl rfl (by kernel_rfl) (by kernel_rfl) (fun _ _ _ _ _ h => h) hSq.out ?_
                  (first | go_big_quiet_step (fail) | quiet_step (fail))
                  refine wpQuiet_nil ?_
                  refine wpAnyH_one 26 rfl rfl (by kernel_rfl) (by kernel_rfl) (fun _ _ _ _ _ h => h) hSq.out ?_
                  (first | go_big_quiet_step (fail) | quiet_step (fail))
                  refine wpQuiet_nil ?_
                  refine wpAnyH_one 27 rfl rfl (by kernel_rfl) (by kernel_rfl) (fun _ _ _ _ _ h => h) hSq.out ?_
                  (first | go_big_quiet_step (fail) | quiet_step (fail))
                  refine wpQuiet_nil ?_
                  refine wpAnyH_one 28 rfl rfl (by kernel_rfl) (by kernel_rfl) (fun _ _ _ _ _ h => h) hSq.out ?_
                  (first | go_big_quiet_step (fail) | quiet_step (fail))
                  refine wpQuiet_nil ?_
                  refine wpAnyH_one 29 rfl rfl (by kernel_rfl) (by kernel_rfl) (fun _ _ _ _ _ h => h) hSq.out ?_
                  (first | go_big_quiet_step (fail) | quiet_step (fail))
                  refine wpQuiet_nil ?_
                  refine wpAnyH_one 30 rfl rfl (by kernel_rfl) (by kernel_rfl) (fun _ _ _ _ _ h => h) hSq.out ?_
                  (first | go_big_quiet_step (fail) | quiet_step (fail))
                  refine wpQuiet_nil ?_
                  refine wpAnyH_one 31 rfl rfl (by kernel_rfl) (by kernel_rfl) (fun _ _ _ _ _ h => h) hSq.out ?_
                  (first | go_big_quiet_step (fail) | quiet_step (fail))
                  refine wpQuiet_nil ?_
                  refine wpAnyH_one 32 rfl rfl (by kernel_rfl) (by kernel_rfl) (fun _ _ _ _ _ h => h) hSq.out ?_
                  (first | go_big_quiet_step (fail) | quiet_step (fail))
                  refine wpQuiet_nil ?_
                  refine wpAnyH_one 33 rfl rfl (by kernel_rfl) (by kernel_rfl) (fun _ _ _ _ _ h => h) hSq.out ?_
                  (first | go_big_quiet_step (fail) | quiet_step (fail))
                  refine wpQuiet_nil ?_
                  refine wpAnyH_one 34 rfl rfl (by kernel_rfl) (by kernel_rfl) (fun _ _ _ _ _ h => h) hSq.out ?_
                  (first | go_big_quiet_step (fail) | quiet_step (fail))
                  refine wpQuiet_nil ?_
                  refine wpAnyH_one 35 rfl rfl (by kernel_rfl) (by kernel_rfl) (fun _ _ _ _ _ h => h) hSq.out ?_
                  (first | go_big_quiet_step (fail) | quiet_step (fail))
                  refine wpQuiet_nil ?_
                  refine wpAnyH_one 36 rfl rfl (by kernel_rfl) (by kernel_rfl) (fun _ _ _ _ _ h => h) hSq.out ?_
                  (first | go_big_quiet_step (fail) | quiet_step (fail))
                  refine wpQuiet_nil ?_
                  refine wpAnyH_one 37 rfl rfl (by kernel_rfl) (by kernel_rfl) (fun _ _ _ _ _ h => h) hSq.out ?_
                  (first | go_big_quiet_step (fail) | quiet_step (fail))
                  refine wpQuiet_nil ?_
                  refine wpAnyH_one 38 rfl rfl (by kernel_rfl) (by kernel_rfl) (fun _ _ _ _ _ h => h) hSq.out ?_
                  (first | go_big_quiet_step (fail) | quiet_step (fail))
                  refine wpQuiet_nil ?_
                  refine wpAnyH_one 39 rfl rfl (by kernel_rfl) (by kernel_rfl) (fun _ _ _ _ _ h => h) hSq.out ?_
                  (first | go_big_quiet_step (fail) | quiet_step (fail))
                  refine wpQuiet_nil ?_
                  refine wpAnyH_one 40 rfl rfl (by kernel_rfl) (by kernel_rfl) (fun _ _ _ _ _ h => h) hSq.out ?_
                  (first | go_big_quiet_step (fail) | quiet_step (fail))
                  refine wpQuiet_nil ?_
                  refine wpAnyH_one 41 rfl rfl (by kernel_rfl) (by kernel_rfl) (fun _ _ _ _ _ h => h) hSq.out ?_
                  (first | go_big_quiet_step (fail) | quiet_step (fail))
                  refine wpQuiet_nil ?_
                  refine wpAnyH_one 42 rfl rfl (by kernel_rfl) (by kernel_rfl) (fun _ _ _ _ _ h => h) hSq.out ?_
                  (first | go_big_quiet_step (fail) | quiet_step (fail))
                  refine wpQuiet_nil ?_
                  clear hSq
                  refine wpAnyH_sole 43 rfl (by kernel_rfl) (fun K hK => ?_)
                  go_simp
                  (refine (HR.out _ _ (HZ.out.toW hr)).mono ?_; rintro e u1 hgv; obtain ⟨rfl, hb⟩ := hgv.below; clear hgv; have hsu1 := hb.size; have hr := below_step hr (by omega) hb; clear hb)
                  refine hK _ _ (over_ex (by go_light; (repeat' (first | (with_reducible exact Below.refl _ _) | (with_reducible exact Nat.le_refl _) | (with_reducible assumption) | (with_reducible refine below_step ?_ ?_ hr) | (with_reducible refine below_over ?_ ?_ _) | (with_reducible refine Below.alloc ?_ ?_ _) | (with_reducible refine Below.setCell ?_ ?_ _) | (with_reducible refine below_put ?_ ?_ _) | (with_reducible refine Below.drew ?_) | (with_reducible refine below_drewN_ ?_ _) | (with_reducible refine le_drewN ?_ _) | (with_reducible refine over_le _ _ _ ?_) | (with_reducible refine le_alloc ?_ _) | (with_reducible refine le_setCell ?_ _ _) | (with_reducible refine le_put ?_ _ _) | (with_reducible refine le_drew ?_) | dsimp only | omega | ((try simp only [World.size_alloc, World.size_setCell, World.size_drew, size_put]); omega) | (simp; done))))) ?_
                  clear hK K
                  have hzu1 := hr.size
                  refine wpAnyH_keep (over_ex (by go_light; (repeat' (first | (with_reducible exact Below.refl _ _) | (with_reducible exact Nat.le_refl _) | (with_reducible assumption) | (with_reducible refine below_step ?_ ?_ hr) | (with_reducible refine below_over ?_ ?_ _) | (with_reducible refine Below.alloc ?_ ?_ _) | (with_reducible refine Below.setCell ?_ ?_ _) | (with_reducible refine below_put ?_ ?_ _) | (with_reducible refine Below.drew ?_) | (with_reducible refine below_drewN_ ?_ _) | (with_reducible refine le_drewN ?_ _) | (with_reducible refine over_le _ _ _ ?_) | (with_reducible refine le_alloc ?_ _) | (with_reducible refine le_setCell ?_ _ _) | (with_reducible refine le_put ?_ _ _) | (with_reducible refine le_drew ?_) | dsimp only | omega | ((try simp only [World.size_alloc, World.size_setCell, World.size_drew, size_put]); omega) | (simp; done))))) (fun hSq => ?_)
                  refine wpAnyH_one 44 rfl rfl (by kernel_rfl) (by kernel_rfl) (fun _ _ _ _ _ h => h) hSq.out ?_
                  (first | go_big_quiet_step (fail) | quiet_step (fail))
                  refine wpQuiet_nil ?_
                  refine wpAnyH_one 45 rfl rfl (by kernel_rfl) (by kernel_rfl) (fun _ _ _ _ _ h => h) hSq.out ?_
                  (first | go_big_quiet_step (fail) | quiet_step (fail))
                  refine wpQuiet_nil ?_
                  refine wpAnyH_one 46 rfl rfl (by kernel_rfl) (by kernel_rfl) (fun _ _ _ _ _ h => h) hSq.out ?_
                  (first | go_big_quiet_step (fail) | quiet_step (fail))
                  refine wpQuiet_nil ?_
                  refine wpAnyH_one 47 rfl rfl (by kernel_rfl) (by kernel_rfl) (fun _ _ _ _ _ h => h) hSq.out ?_
                  (first | go_big_quiet_step (fail) | quiet_step (fail))
                  refine wpQuiet_nil ?_
                  refine wpAnyH_one 48 rfl rfl (by kernel_rfl) (by kernel_rfl) (fun _ _ _ _ _ h => h) hSq.out ?_
                  (first | go_big_quiet_step (fail) | quiet_step (fail))
                  refine wpQuiet_nil ?_
                  refine wpAnyH_one 49 rfl rfl (by kernel_rfl) (by kernel_rfl) (fun _ _ _ _ _ h => h) hSq.out ?_
                  (first | go_big_quiet_step (fail) | quiet_step (fail))
                  refine wpQuiet_nil ?_
                  refine wpAnyH_one 50 rfl rfl (by kernel_rfl) (by kernel_rfl) (fun _ _ _ _ _ h => h) hSq.out ?_
                  (first | go_big_quiet_step (fail) | quiet_step (fail))
                  refine wpQuiet_nil ?_
                  refine wpAnyH_one 51 rfl rfl (by kernel_rfl) (by kernel_rfl) (fun _ _ _ _ _ h => h) hSq.out ?_
                  (first | go_big_quiet_step (fail) | quiet_step (fail))
                  refine wpQuiet_nil ?_
                  refine wpAnyH_one 53 rfl rfl (by kernel_rfl) (by kernel_rfl) (fun _ _ _ _ _ h => h) hSq.out ?_
                  (first | go_big_quiet_step (fail) | quiet_step (fail))
                  refine wpQuiet_nil ?_
                  refine wpAnyH_one 54 rfl rfl (by kernel_rfl) (by kernel_rfl) (fun _ _ _ _ _ h => h) hSq.out ?_
                  (first | go_big_quiet_step (fail) | quiet_step (fail))
                  refine wpQuiet_nil ?_
                  refine wpAnyH_one 56 rfl rfl (by kernel_rfl) (by kernel_rfl) (fun _ _ _ _ _ h => h) hSq.out ?_
                  (first | go_big_quiet_step (fail) | quiet_step (fail))
                  refine wpQuiet_nil ?_
                  refine wpAnyH_one 57 rfl rfl (by kernel_rfl) (by kernel_rfl) (fun _ _ _ _ _ h => h) hSq.out ?_
                  (first | go_big_quiet_step (fail) | quiet_step (fail))
                  refine wpQuiet_nil ?_
                  clear hSq
                  refine wpAnyH_sole 52 rfl (by kernel_rfl) (fun K hK => ?_)
                  go_simp
                  (refine (HO.out _ _ (HZ.out.toW hr)).mono ?_; rintro e u2 ⟨v2, rfl, hb, hv⟩; have HI := Lib.hid (hv.rd (fun _ => rfl)); clear hv; have hsu2 := hb.size; have hr := below_step hr (by omega) hb; clear hb)
                  refine hK _ _ (over_ex (by go_light; (repeat' (first | (with_reducible exact Below.refl _ _) | (with_reducible exact Nat.le_refl _) | (with_reducible assumption) | (with_reducible refine below_step ?_ ?_ hr) | (with_reducible refine below_over ?_ ?_ _) | (with_reducible refine Below.alloc ?_ ?_ _) | (with_reducible refine Below.setCell ?_ ?_ _) | (with_reducible refine below_put ?_ ?_ _) | (with_reducible refine Below.drew ?_) | (with_reducible refine below_drewN_ ?_ _) | (with_reducible refine le_drewN ?_ _) | (with_reducible refine over_le _ _ _ ?_) | (with_reducible refine le_alloc ?_ _) | (with_reducible refine le_setCell ?_ _ _) | (with_reducible refine le_put ?_ _ _) | (with_reducible refine le_drew ?_) | dsimp only | omega | ((try simp only [World.size_alloc, World.size_setCell, World.size_drew, size_put]); omega) | (simp; done))))) ?_
                  clear hK K
                  have hzu2 := hr.size
                  refine wpAnyH_sole 55 rfl (by kernel_rfl) (fun K hK => ?_)
                  go_simp
                  (refine (HH.out _ _ HI.out).mono ?_; rintro e u3 hgv; obtain ⟨rfl, hb⟩ := hgv.below; clear hgv HI; have hsu3 := hb.size; have hr := below_step hr (by omega) hb; clear hb)
                  refine hK _ _ (over_ex (by go_light; (repeat' (first | (with_reducible exact Below.refl _ _) | (with_reducible exact Nat.le_refl _) | (with_reducible assumption) | (with_reducible refine below_step ?_ ?_ hr) | (with_reducible refine below_over ?_ ?_ _) | (with_reducible refine Below.alloc ?_ ?_ _) | (with_reducible refine Below.setCell ?_ ?_ _) | (with_reducible refine below_put ?_ ?_ _) | (with_reducible refine Below.drew ?_) | (with_reducible refine below_drewN_ ?_ _) | (with_reducible refine le_drewN ?_ _) | (with_reducible refine over_le _ _ _ ?_) | (with_reducible refine le_alloc ?_ _) | (with_reducible refine le_setCell ?_ _ _) | (with_reducible refine le_put ?_ _ _) | (with_reducible refine le_drew ?_) | dsimp only | omega | ((try simp only [World.size_alloc, World.size_setCell, World.size_drew, size_put]); omega) | (simp; done))))) ?_
                  clear hK K
                  have hzu3 := hr.size
                  refine wpAnyH_keep (over_ex (by go_light; (repeat' (first | (with_reducible exact Below.refl _ _) | (with_reducible exact Nat.le_refl _) | (with_reducible assumption) | (with_reducible refine below_step ?_ ?_ hr) | (with_reducible refine below_over ?_ ?_ _) | (with_reducible refine Below.alloc ?_ ?_ _) | (with_reducible refine Below.setCell ?_ ?_ _) | (with_reducible refine below_put ?_ ?_ _) | (with_reducible refine Below.drew ?_) | (with_reducible refine below_drewN_ ?_ _) | (with_reducible refine le_drewN ?_ _) | (with_reducible refine over_le _ _ _ ?_) | (with_reducible refine le_alloc ?_ _) | (with_reducible refine le_setCell ?_ _ _) | (with_reducible refine le_put ?_ _ _) | (with_reducible refine le_drew ?_) | dsimp only | omega | ((try simp only [World.size_alloc, World.size_setCell, World.size_drew, size_put]); omega) | (simp; done))))) (fun hSq => ?_)
                  refine wpAnyH_one 58 rfl rfl (by kernel_rfl) (by kernel_rfl) (fun _ _ _ _ _ h => h) hSq.out ?_
                  (first | go_big_quiet_step (fail) | quiet_step (fail))
                  refine wpQuiet_nil ?_
                  refine wpAnyH_one 59 rfl rfl (by kernel_rfl) (by kernel_rfl) (fun _ _ _ _ _ h => h) hSq.out ?_
                  (first | go_big_quiet_step (fail) | quiet_step (fail))
                  refine wpQuiet_nil ?_
                  clear hSq
                  refine wpAnyH_done (by kernel_rfl) ?_ _
                  have HZ9 := Lib.hid (HZ.out.toW hr)
                  have hB9 : Below w1.heap.size w1 u3 := hBr4.trans (hr.mono (by omega))
                  go_wp2_with fail
                  go_roundw
                  case rel => exact ⟨k + 1, ⟨_, m, d⟩, Z, by omega, rfl, by go_num, HGZ, HZ9, by go_light; (repeat' (first | (with_reducible exact Below.refl _ _) | (with_reducible exact Nat.le_refl _) | (with_reducible assumption) | (with_reducible refine below_step ?_ ?_ hr) | (with_reducible refine below_over ?_ ?_ _) | (with_reducible refine Below.alloc ?_ ?_ _) | (with_reducible refine Below.setCell ?_ ?_ _) | (with_reducible refine below_put ?_ ?_ _) | (with_reducible refine Below.drew ?_) | (with_reducible refine below_drewN_ ?_ _) | (with_reducible refine le_drewN ?_ _) | (with_reducible refine over_le _ _ _ ?_) | (with_reducible refine le_alloc ?_ _) | (with_reducible refine le_setCell ?_ _ _) | (with_reducible refine le_put ?_ _ _) | (with_reducible refine le_drew ?_) | dsimp only | omega | ((try simp only [World.size_alloc, World.size_setCell, World.size_drew, size_put]); omega) | (simp; done)))⟩
                  case measure => (simp [intOf] <;> omega)
            · have HF := Lib.hid (HS.out.other hkey)
              go_upto_region 19 with fail
              go_cut [13] (fun c13 wx => c13 = .bool false ∧ w4 = wx)
              case first =>
                rcases key_ways hkey with t1 | ⟨t1, t2 | ⟨t2, t3⟩⟩
                all_goals clear hkey HS HF HN HW HC hN hW HO HR
                all_goals go_wp2_with fail
                all_goals
                  go_meet
                  case rel => exact ⟨rfl, rfl⟩
              case rest =>
                obtain ⟨rfl, rfl⟩ := hcut
                by_cases hW0 : 0 ≤ W
                · have hN0 : 0 ≤ N := by have h := HF.out; rw [hN, hW] at h; have h2 : decide (0 ≤ W) = true := by simpa using hW0
                                         rw [h2] at h; simpa using h.symm
                  have HH : Hid (∀ (v : Sl) w', Rd w' encI v (sortI (ofC q.kind q.target Z)) → Calls Try.prog 27 #[v.val, .int .i64 q.by_] w' (Gives (.bool true) w')) := fun v w' h => has_is (q := q) (by rw [hN]; simpa using hN0) h
                  rw [← hW] at hW0
                  rw [← hN] at hN0
                  obtain ⟨p, r, y, hWp, hNr, hyp, hzr2⟩ := same_at Hg.out (HS.out.same hW0) hW0 hN0
                  obtain rfl : W = (p : Int) := by rw [← hW]; exact hWp
                  obtain rfl : N = (r : Int) := by rw [← hN]; exact hNr
                  have hp2 : p < n0 := by have h1 := (List.getElem?_eq_some_iff.1 hyp).1; have h2 := Hy.out.len; dsimp only at h2; omega
                  have hr2 : r < m := by have h1 := (List.getElem?_eq_some_iff.1 hzr2).1; have h2 := HZ.out.len; dsimp only at h2; omega
                  obtain ⟨b0, off0, y0, rfl, hb0, -, Hy0, d0, d1, d2, d3⟩ := Hy.out.cv hp2
                  obtain ⟨b2, off2, y2, rfl, hb2, -, Hy2, g0, g1, g2, g3⟩ := HZ.out.cv hr2
                  obtain rfl : y0 = y := by have h1 := Hy0.out; rw [hyp] at h1; exact (Option.some.inj h1).symm
                  obtain rfl : y2 = y0 := by have h1 := Hy2.out; rw [hzr2] at h1; exact (Option.some.inj h1).symm
                  clear hWp hNr hyp hzr2 Hy0 Hy2 hW hN hW0 hN0
                  have hW1 : decide ((p : Int) < 0) = false := by simp
                  have hW2 : decide (0 ≤ (p : Int)) = true := by simp
                  have hN1 : decide ((r : Int) < 0) = false := by simp
                  have hN2 : decide (0 ≤ (r : Int)) = true := by simp
                  have hm2 : m ≤ 200 := by have h1 := HGZ.out.len; have h2 := HZ.out.len; dsimp only at h2; omega
                  clear HS HF HN HW HC hkey
                  go_wp2_with fail
                  as_aux_lemma =>
                    refine wp_region_ord (by kernel_rfl) (fun wx hr => ?_)
                    simp only [List.length_cons, List.length_nil, Nat.reduceAdd]
                    have hzx := hr.size
                    refine wpAnyH_keep (over_ex (by go_light; (repeat' (first | (with_reducible exact Below.refl _ _) | (with_reducible exact Nat.le_refl _) | (with_reducible assumption) | (with_reducible refine below_step ?_ ?_ hr) | (with_reducible refine below_over ?_ ?_ _) | (with_reducible refine Below.alloc ?_ ?_ _) | (with_reducible refine Below.setCell ?_ ?_ _) | (with_reducible refine below_put ?_ ?_ _) | (with_reducible refine Below.drew ?_) | (with_reducible refine below_drewN_ ?_ _) | (with_reducible refine le_drewN ?_ _) | (with_reducible refine over_le _ _ _ ?_) | (with_reducible refine le_alloc ?_ _) | (with_reducible refine le_setCell ?_ _ _) | (with_reducible refine le_put ?_ _ _) | (with_reducible refine le_drew ?_) | dsimp only | omega | ((try simp only [World.size_alloc, World.size_setCell, World.size_drew, size_put]); omega) | (simp; done))))) (fun hSq => ?_)
                    refine wpAnyH_one 0 rfl rfl (by kernel_rfl) (by kernel_rfl) (fun _ _ _ _ _ h => h) hSq.out ?_
                    (first | go_big_quiet_step (fail) | quiet_step (fail))
                    refine wpQuiet_nil ?_
                    refine wpAnyH_one 1 rfl rfl (by kernel_rfl) (by kernel_rfl) (fun _ _ _ _ _ h => h) hSq.out ?_
                    (first | go_big_quiet_step (fail) | quiet_step (fail))
                    refine wpQuiet_nil ?_
                    refine wpAnyH_one 2 rfl rfl (by kernel_rfl) (by kernel_rfl) (fun _ _ _ _ _ h => h) hSq.out ?_
                    (first | go_big_quiet_step (fail) | quiet_step (fail))
                    refine wpQuiet_nil ?_
                    refine wpAnyH_one 3 rfl rfl (by kernel_rfl) (by kernel_rfl) (fun _ _ _ _ _ h => h) hSq.out ?_
                    (first | go_big_quiet_step (fail) | quiet_step (fail))
                    refine wpQuiet_nil ?_
                    refine wpAnyH_one 4 rfl rfl (by kernel_rfl) (by kernel_rfl) (fun _ _ _ _ _ h => h) hSq.out ?_
                    (first | go_big_quiet_step (fail) | quiet_step (fail))
                    refine wpQuiet_nil ?_
                    refine wpAnyH_one 5 rfl rfl (by kernel_rfl) (by kernel_rfl) (fun _ _ _ _ _ h => h) hSq.out ?_
                    (first | go_big_quiet_step (fail) | quiet_step (fail))
                    refine wpQuiet_nil ?_
                    refine wpAnyH_one 6 rfl rfl (by kernel_rfl) (by kernel_rfl) (fun _ _ _ _ _ h => h) hSq.out ?_
                    (first | go_big_quiet_step (fail) | quiet_step (fail))
                    refine wpQuiet_nil ?_
                    refine wpAnyH_one 7 rfl rfl (by kernel_rfl) (by kernel_rfl) (fun _ _ _ _ _ h => h) hSq.out ?_
                    (first | go_big_quiet_step (fail) | quiet_step (fail))
                    refine wpQuiet_nil ?_
                    refine wpAnyH_one 8 rfl rfl (by kernel_rfl) (by kernel_rfl) (fun _ _ _ _ _ h => h) hSq.out ?_
                    (first | go_big_quiet_step (fail) | quiet_step (fail))
                    refine wpQuiet_nil ?_
                    refine wpAnyH_one 9 rfl rfl (by kernel_rfl) (by kernel_rfl) (fun _ _ _ _ _ h => h) hSq.out ?_
                    (first | go_big_quiet_step (fail) | quiet_step (fail))
                    refine wpQuiet_nil ?_
                    refine wpAnyH_one 10 rfl rfl (by kernel_rfl) (by kernel_rfl) (fun _ _ _ _ _ h => h) hSq.out ?_
                    (first | go_big_quiet_step (fail) | quiet_step (fail))
                    refine wpQuiet_nil ?_
                    refine wpAnyH_one 11 rfl rfl (by kernel_rfl) (by kernel_rfl) (fun _ _ _ _ _ h => h) hSq.out ?_
                    (first | go_big_quiet_step (fail) | quiet_step (fail))
                    refine wpQuiet_nil ?_
                    refine wpAnyH_one 12 rfl rfl (by kernel_rfl) (by kernel_rfl) (fun _ _ _ _ _ h => h) hSq.out ?_
                    (first | go_big_quiet_step (fail) | quiet_step (fail))
                    refine wpQuiet_nil ?_
                    refine wpAnyH_one 13 rfl rfl (by kernel_rfl) (by kernel_rfl) (fun _ _ _ _ _ h => h) hSq.out ?_
                    (first | go_big_quiet_step (fail) | quiet_step (fail))
                    refine wpQuiet_nil ?_
                    refine wpAnyH_one 14 rfl rfl (by kernel_rfl) (by kernel_rfl) (fun _ _ _ _ _ h => h) hSq.out ?_
                    (first | go_big_quiet_step (fail) | quiet_step (fail))
                    refine wpQuiet_nil ?_
                    refine wpAnyH_one 15 rfl rfl (by kernel_rfl) (by kernel_rfl) (fun _ _ _ _ _ h => h) hSq.out ?_
                    (first | go_big_quiet_step (fail) | quiet_step (fail))
                    refine wpQuiet_nil ?_
                    refine wpAnyH_one 16 rfl rfl (by kernel_rfl) (by kernel_rfl) (fun _ _ _ _ _ h => h) hSq.out ?_
                    (first | go_big_quiet_step (fail) | quiet_step (fail))
                    refine wpQuiet_nil ?_
                    refine wpAnyH_one 17 rfl rfl (by kernel_rfl) (by kernel_rfl) (fun _ _ _ _ _ h => h) hSq.out ?_
                    (first | go_big_quiet_step (fail) | quiet_step (fail))
                    refine wpQuiet_nil ?_
                    refine wpAnyH_one 18 rfl rfl (by kernel_rfl) (by kernel_rfl) (fun _ _ _ _ _ h => h) hSq.out ?_
                    (first | go_big_quiet_step (fail) | quiet_step (fail))
                    refine wpQuiet_nil ?_
                    refine wpAnyH_one 19 rfl rfl (by kernel_rfl) (by kernel_rfl) (fun _ _ _ _ _ h => h) hSq.out ?_
                    (first | go_big_quiet_step (fail) | quiet_step (fail))
                    refine wpQuiet_nil ?_
                    refine wpAnyH_one 20 rfl rfl (by kernel_rfl) (by kernel_rfl) (fun _ _ _ _ _ h => h) hSq.out ?_
                    (first | go_big_quiet_step (fail) | quiet_step (fail))
                    refine wpQuiet_nil ?_
                    refine wpAnyH_one 21 rfl rfl (by kernel_rfl) (by kernel_rfl) (fun _ _ _ _ _ h => h) hSq.out ?_
                    (first | go_big_quiet_step (fail) | quiet_step (fail))
                    refine wpQuiet_nil ?_
                    refine wpAnyH_one 22 rfl rfl (by kernel_rfl) (by kernel_rfl) (fun _ _ _ _ _ h => h) hSq.out ?_
                    (first | go_big_quiet_step (fail) | quiet_step (fail))
                    refine wpQuiet_nil ?_
                    refine wpAnyH_one 23 rfl rfl (by kernel_rfl) (by kernel_rfl) (fun _ _ _ _ _ h => h) hSq.out ?_
                    (first | go_big_quiet_step (fail) | quiet_step (fail))
                    refine wpQuiet_nil ?_
                    refine wpAnyH_one 24 rfl rfl (by kernel_rfl) (by kernel_rfl) (fun _ _ _ _ _ h => h) hSq.out ?_
                    (first | go_big_quiet_step (fail) | quiet_step (fail))
                    refine wpQuiet_nil ?_
                    refine wpAnyH_one 25 rfl rfl (by kernel_rfl) (by kernel_rfl) (fun _ _ _ _ _ h => h) hSq.out ?_
                    (first | go_big_quiet_step (fail) | quiet_step (fail))
                    refine wpQuiet_nil ?_
                    refine wpAnyH_one 26 rfl rfl (by kernel_rfl) (by kernel_rfl) (fun _ _ _ _ _ h => h) hSq.out ?_
                    (first | go_big_quiet_step (fail) | quiet_step (fail))
                    refine wpQuiet_nil ?_
                    refine wpAnyH_one 27 rfl rfl (by kernel_rfl) (by kernel_rfl) (fun _ _ _ _ _ h => h) hSq.out ?_
                    (first | go_big_quiet_step (fail) | quiet_step (fail))
                    refine wpQuiet_nil ?_
                    refine wpAnyH_one 28 rfl rfl (by kernel_rfl) (by kernel_rfl) (fun _ _ _ _ _ h => h) hSq.out ?_
                    (first | go_big_quiet_step (fail) | quiet_step (fail))
                    refine wpQuiet_nil ?_
                    refine wpAnyH_one 29 rfl rfl (by kernel_rfl) (by kernel_rfl) (fun _ _ _ _ _ h => h) hSq.out ?_
                    (first | go_big_quiet_step (fail) | quiet_step (fail))
                    refine wpQuiet_nil ?_
                    refine wpAnyH_one 30 rfl rfl (by kernel_rfl) (by kernel_rfl) (fun _ _ _ _ _ h => h) hSq.out ?_
                    (first | go_big_quiet_step (fail) | quiet_step (fail))
                    refine wpQuiet_nil ?_
                    refine wpAnyH_one 31 rfl rfl (by kernel_rfl) (by kernel_rfl) (fun _ _ _ _ _ h => h) hSq.out ?_
                    (first | go_big_quiet_step (fail) | quiet_step (fail))
                    refine wpQuiet_nil ?_
                    refine wpAnyH_one 32 rfl rfl (by kernel_rfl) (by kernel_rfl) (fun _ _ _ _ _ h => h) hSq.out ?_
                    (first | go_big_quiet_step (fail) | quiet_step (fail))
                    refine wpQuiet_nil ?_
                    refine wpAnyH_one 33 rfl rfl (by kernel_rfl) (by kernel_rfl) (fun _ _ _ _ _ h => h) hSq.out ?_
                    (first | go_big_quiet_step (fail) | quiet_step (fail))
                    refine wpQuiet_nil ?_
                    refine wpAnyH_one 34 rfl rfl (by kernel_rfl) (by kernel_rfl) (fun _ _ _ _ _ h => h) hSq.out ?_
                    (first | go_big_quiet_step (fail) | quiet_step (fail))
                    refine wpQuiet_nil ?_
                    refine wpAnyH_one 35 rfl rfl (by kernel_rfl) (by kernel_rfl) (fun _ _ _ _ _ h => h) hSq.out ?_
                    (first | go_big_quiet_step (fail) | quiet_step (fail))
                    refine wpQuiet_nil ?_
                    refine wpAnyH_one 36 rfl rfl (by kernel_rfl) (by kernel_rfl) (fun _ _ _ _ _ h => h) hSq.out ?_
                    (first | go_big_quiet_step (fail) | quiet_step (fail))
                    refine wpQuiet_nil ?_
                    refine wpAnyH_one 37 rfl rfl (by kernel_rfl) (by kernel_rfl) (fun _ _ _ _ _ h => h) hSq.out ?_
                    (first | go_big_quiet_step (fail) | quiet_step (fail))
                    refine wpQuiet_nil ?_
                    refine wpAnyH_one 38 rfl rfl (by kernel_rfl) (by kernel_rfl) (fun _ _ _ _ _ h => h) hSq.out ?_
                    (first | go_big_quiet_step (fail) | quiet_step (fail))
                    refine wpQuiet_nil ?_
                    refine wpAnyH_one 39 rfl rfl (by kernel_rfl) (by kernel_rfl) (fun _ _ _ _ _ h => h) hSq.out ?_
                    (first | go_big_quiet_step (fail) | quiet_step (fail))
                    refine wpQuiet_nil ?_
                    refine wpAnyH_one 40 rfl rfl (by kernel_rfl) (by kernel_rfl) (fun _ _ _ _ _ h => h) hSq.out ?_
                    (first | go_big_quiet_step (fail) | quiet_step (fail))
                    refine wpQuiet_nil ?_
                    refine wpAnyH_one 41 rfl rfl (by kernel_rfl) (by kernel_rfl) (fun _ _ _ _ _ h => h) hSq.out ?_
                    (first | go_big_quiet_step (fail) | quiet_step (fail))
                    refine wpQuiet_nil ?_
                    refine wpAnyH_one 42 rfl rfl (by kernel_rfl) (by kernel_rfl) (fun _ _ _ _ _ h => h) hSq.out ?_
                    (first | go_big_quiet_step (fail) | quiet_step (fail))
                    refine wpQuiet_nil ?_
                    clear hSq
                    refine wpAnyH_sole 43 rfl (by kernel_rfl) (fun K hK => ?_)
                    go_simp
                    (refine (HR.out _ _ (HZ.out.toW hr)).mono ?_; rintro e u1 hgv; obtain ⟨rfl, hb⟩ := hgv.below; clear hgv; have hsu1 := hb.size; have hr := below_step hr (by omega) hb; clear hb)
                    refine hK _ _ (over_ex (by go_light; (repeat' (first | (with_reducible exact Below.refl _ _) | (with_reducible exact Nat.le_refl _) | (with_reducible assumption) | (with_reducible refine below_step ?_ ?_ hr) | (with_reducible refine below_over ?_ ?_ _) | (with_reducible refine Below.alloc ?_ ?_ _) | (with_reducible refine Below.setCell ?_ ?_ _) | (with_reducible refine below_put ?_ ?_ _) | (with_reducible refine Below.drew ?_) | (with_reducible refine below_drewN_ ?_ _) | (with_reducible refine le_drewN ?_ _) | (with_reducible refine over_le _ _ _ ?_) | (with_reducible refine le_alloc ?_ _) | (with_reducible refine le_setCell ?_ _ _) | (with_reducible refine le_put ?_ _ _) | (with_reducible refine le_drew ?_) | dsimp only | omega | ((try simp only [World.size_alloc, World.size_setCell, World.size_drew, size_put]); omega) | (simp; done))))) ?_
                    clear hK K
                    have hzu1 := hr.size
                    refine wpAnyH_keep (over_ex (by go_light; (repeat' (first | (with_reducible exact Below.refl _ _) | (with_reducible exact Nat.le_refl _) | (with_reducible assumption) | (with_reducible refine below_step ?_ ?_ hr) | (with_reducible refine below_over ?_ ?_ _) | (with_reducible refine Below.alloc ?_ ?_ _) | (with_reducible refine Below.setCell ?_ ?_ _) | (with_reducible refine below_put ?_ ?_ _) | (with_reducible refine Below.drew ?_) | (with_reducible refine below_drewN_ ?_ _) | (with_reducible refine le_drewN ?_ _) | (with_reducible refine over_le _ _ _ ?_) | (with_reducible refine le_alloc ?_ _) | (with_reducible refine le_setCell ?_ _ _) | (with_reducible refine le_put ?_ _ _) | (with_reducible refine le_drew ?_) | dsimp only | omega | ((try simp only [World.size_alloc, World.size_setCell, World.size_drew, size_put]); omega) | (simp; done))))) (fun hSq => ?_)
                    refine wpAnyH_one 44 rfl rfl (by kernel_rfl) (by kernel_rfl) (fun _ _ _ _ _ h => h) hSq.out ?_
                    (first | go_big_quiet_step (fail) | quiet_step (fail))
                    refine wpQuiet_nil ?_
                    refine wpAnyH_one 45 rfl rfl (by kernel_rfl) (by kernel_rfl) (fun _ _ _ _ _ h => h) hSq.out ?_
                    (first | go_big_quiet_step (fail) | quiet_step (fail))
                    refine wpQuiet_nil ?_
                    refine wpAnyH_one 46 rfl rfl (by kernel_rfl) (by kernel_rfl) (fun _ _ _ _ _ h => h) hSq.out ?_
                    (first | go_big_quiet_step (fail) | quiet_step (fail))
                    refine wpQuiet_nil ?_
                    refine wpAnyH_one 47 rfl rfl (by kernel_rfl) (by kernel_rfl) (fun _ _ _ _ _ h => h) hSq.out ?_
                    (first | go_big_quiet_step (fail) | quiet_step (fail))
                    refine wpQuiet_nil ?_
                    refine wpAnyH_one 48 rfl rfl (by kernel_rfl) (by kernel_rfl) (fun _ _ _ _ _ h => h) hSq.out ?_
                    (first | go_big_quiet_step (fail) | quiet_step (fail))
                    refine wpQuiet_nil ?_
                    refine wpAnyH_one 49 rfl rfl (by kernel_rfl) (by kernel_rfl) (fun _ _ _ _ _ h => h) hSq.out ?_
                    (first | go_big_quiet_step (fail) | quiet_step (fail))
                    refine wpQuiet_nil ?_
                    refine wpAnyH_one 50 rfl rfl (by kernel_rfl) (by kernel_rfl) (fun _ _ _ _ _ h => h) hSq.out ?_
                    (first | go_big_quiet_step (fail) | quiet_step (fail))
                    refine wpQuiet_nil ?_
                    refine wpAnyH_one 51 rfl rfl (by kernel_rfl) (by kernel_rfl) (fun _ _ _ _ _ h => h) hSq.out ?_
                    (first | go_big_quiet_step (fail) | quiet_step (fail))
                    refine wpQuiet_nil ?_
                    refine wpAnyH_one 53 rfl rfl (by kernel_rfl) (by kernel_rfl) (fun _ _ _ _ _ h => h) hSq.out ?_
                    (first | go_big_quiet_step (fail) | quiet_step (fail))
                    refine wpQuiet_nil ?_
                    refine wpAnyH_one 54 rfl rfl (by kernel_rfl) (by kernel_rfl) (fun _ _ _ _ _ h => h) hSq.out ?_
                    (first | go_big_quiet_step (fail) | quiet_step (fail))
                    refine wpQuiet_nil ?_
                    refine wpAnyH_one 56 rfl rfl (by kernel_rfl) (by kernel_rfl) (fun _ _ _ _ _ h => h) hSq.out ?_
                    (first | go_big_quiet_step (fail) | quiet_step (fail))
                    refine wpQuiet_nil ?_
                    refine wpAnyH_one 57 rfl rfl (by kernel_rfl) (by kernel_rfl) (fun _ _ _ _ _ h => h) hSq.out ?_
                    (first | go_big_quiet_step (fail) | quiet_step (fail))
                    refine wpQuiet_nil ?_
                    clear hSq
                    refine wpAnyH_sole 52 rfl (by kernel_rfl) (fun K hK => ?_)
                    go_simp
                    (refine (HO.out _ _ (HZ.out.toW hr)).mono ?_; rintro e u2 ⟨v2, rfl, hb, hv⟩; have HI := Lib.hid (hv.rd (fun _ => rfl)); clear hv; have hsu2 := hb.size; have hr := below_step hr (by omega) hb; clear hb)
                    refine hK _ _ (over_ex (by go_light; (repeat' (first | (with_reducible exact Below.refl _ _) | (with_reducible exact Nat.le_refl _) | (with_reducible assumption) | (with_reducible refine below_step ?_ ?_ hr) | (with_reducible refine below_over ?_ ?_ _) | (with_reducible refine Below.alloc ?_ ?_ _) | (with_reducible refine Below.setCell ?_ ?_ _) | (with_reducible refine below_put ?_ ?_ _) | (with_reducible refine Below.drew ?_) | (with_reducible refine below_drewN_ ?_ _) | (with_reducible refine le_drewN ?_ _) | (with_reducible refine over_le _ _ _ ?_) | (with_reducible refine le_alloc ?_ _) | (with_reducible refine le_setCell ?_ _ _) | (with_reducible refine le_put ?_ _ _) | (with_reducible refine le_drew ?_) | dsimp only | omega | ((try simp only [World.size_alloc, World.size_setCell, World.size_drew, size_put]); omega) | (simp; done))))) ?_
                    clear hK K
                    have hzu2 := hr.size
                    refine wpAnyH_sole 55 rfl (by kernel_rfl) (fun K hK => ?_)
                    go_simp
                    (refine (HH.out _ _ HI.out).mono ?_; rintro e u3 hgv; obtain ⟨rfl, hb⟩ := hgv.below; clear hgv HI; have hsu3 := hb.size; have hr := below_step hr (by omega) hb; clear hb)
                    refine hK _ _ (over_ex (by go_light; (repeat' (first | (with_reducible exact Below.refl _ _) | (with_reducible exact Nat.le_refl _) | (with_reducible assumption) | (with_reducible refine below_step ?_ ?_ hr) | (with_reducible refine below_over ?_ ?_ _) | (with_reducible refine Below.alloc ?_ ?_ _) | (with_reducible refine Below.setCell ?_ ?_ _) | (with_reducible refine below_put ?_ ?_ _) | (with_reducible refine Below.drew ?_) | (with_reducible refine below_drewN_ ?_ _) | (with_reducible refine le_drewN ?_ _) | (with_reducible refine over_le _ _ _ ?_) | (with_reducible refine le_alloc ?_ _) | (with_reducible refine le_setCell ?_ _ _) | (with_reducible refine le_put ?_ _ _) | (with_reducible refine le_drew ?_) | dsimp only | omega | ((try simp only [World.size_alloc, World.size_setCell, World.size_drew, size_put]); omega) | (simp; done))))) ?_
                    clear hK K
                    have hzu3 := hr.size
                    refine wpAnyH_keep (over_ex (by go_light; (repeat' (first | (with_reducible exact Below.refl _ _) | (with_reducible exact Nat.le_refl _) | (with_reducible assumption) | (with_reducible refine below_step ?_ ?_ hr) | (with_reducible refine below_over ?_ ?_ _) | (with_reducible refine Below.alloc ?_ ?_ _) | (with_reducible refine Below.setCell ?_ ?_ _) | (with_reducible refine below_put ?_ ?_ _) | (with_reducible refine Below.drew ?_) | (with_reducible refine below_drewN_ ?_ _) | (with_reducible refine le_drewN ?_ _) | (with_reducible refine over_le _ _ _ ?_) | (with_reducible refine le_alloc ?_ _) | (with_reducible refine le_setCell ?_ _ _) | (with_reducible refine le_put ?_ _ _) | (with_reducible refine le_drew ?_) | dsimp only | omega | ((try simp only [World.size_alloc, World.size_setCell, World.size_drew, size_put]); omega) | (simp; done))))) (fun hSq => ?_)
                    refine wpAnyH_one 58 rfl rfl (by kernel_rfl) (by kernel_rfl) (fun _ _ _ _ _ h => h) hSq.out ?_
                    (first | go_big_quiet_step (fail) | quiet_step (fail))
                    refine wpQuiet_nil ?_
                    refine wpAnyH_one 59 rfl rfl (by kernel_rfl) (by kernel_rfl) (fun _ _ _ _ _ h => h) hSq.out ?_
                    (first | go_big_quiet_step (fail) | quiet_step (fail))
                    refine wpQuiet_nil ?_
                    clear hSq
                    refine wpAnyH_done (by kernel_rfl) ?_ _
                    have HZ9 := Lib.hid (HZ.out.toW hr)
                    have hB9 : Below w1.heap.size w1 u3 := hBr4.trans (hr.mono (by omega))
                    go_wp2_with fail
                    go_roundw
                    case rel => exact ⟨k + 1, ⟨_, m, d⟩, Z, by omega, rfl, by go_num, HGZ, HZ9, by go_light; (repeat' (first | (with_reducible exact Below.refl _ _) | (with_reducible exact Nat.le_refl _) | (with_reducible assumption) | (with_reducible refine below_step ?_ ?_ hr) | (with_reducible refine below_over ?_ ?_ _) | (with_reducible refine Below.alloc ?_ ?_ _) | (with_reducible refine Below.setCell ?_ ?_ _) | (with_reducible refine below_put ?_ ?_ _) | (with_reducible refine Below.drew ?_) | (with_reducible refine below_drewN_ ?_ _) | (with_reducible refine le_drewN ?_ _) | (with_reducible refine over_le _ _ _ ?_) | (with_reducible refine le_alloc ?_ _) | (with_reducible refine le_setCell ?_ _ _) | (with_reducible refine le_put ?_ _ _) | (with_reducible refine le_drew ?_) | dsimp only | omega | ((try simp only [World.size_alloc, World.size_setCell, World.size_drew, size_put]); omega) | (simp; done)))⟩
                    case measure => (simp [intOf] <;> omega)
                · have hN0 : ¬ 0 ≤ N := by have h := HF.out; rw [hN, hW] at h; have h2 : decide (0 ≤ W) = false := by simpa using hW0
                                           rw [h2] at h; simpa using h.symm
                  have HH : Hid (∀ (v : Sl) w', Rd w' encI v (sortI (ofC q.kind q.target Z)) → Calls Try.prog 27 #[v.val, .int .i64 q.by_] w' (Gives (.bool false) w')) := fun v w' h => has_is (q := q) (by rw [hN]; simpa using hN0) h
                  clear HS HF HN HW HC hN hW hkey
                  have hW1 : decide (W < 0) = true := by simp; omega
                  have hW2 : decide (0 ≤ W) = false := by simp; omega
                  have hN1 : decide (N < 0) = true := by simp; omega
                  have hN2 : decide (0 ≤ N) = false := by simp; omega
                  go_wp2_with fail
                  as_aux_lemma =>
                    refine wp_region_ord (by kernel_rfl) (fun wx hr => ?_)
                    simp only [List.length_cons, List.length_nil, Nat.reduceAdd]
                    have hzx := hr.size
                    refine wpAnyH_keep (over_ex (by go_light; (repeat' (first | (with_reducible exact Below.refl _ _) | (with_reducible exact Nat.le_refl _) | (with_reducible assumption) | (with_reducible refine below_step ?_ ?_ hr) | (with_reducible refine below_over ?_ ?_ _) | (with_reducible refine Below.alloc ?_ ?_ _) | (with_reducible refine Below.setCell ?_ ?_ _) | (with_reducible refine below_put ?_ ?_ _) | (with_reducible refine Below.drew ?_) | (with_reducible refine below_drewN_ ?_ _) | (with_reducible refine le_drewN ?_ _) | (with_reducible refine over_le _ _ _ ?_) | (with_reducible refine le_alloc ?_ _) | (with_reducible refine le_setCell ?_ _ _) | (with_reducible refine le_put ?_ _ _) | (with_reducible refine le_drew ?_) | dsimp only | omega | ((try simp only [World.size_alloc, World.size_setCell, World.size_drew, size_put]); omega) | (simp; done))))) (fun hSq => ?_)
                    refine wpAnyH_one 0 rfl rfl (by kernel_rfl) (by kernel_rfl) (fun _ _ _ _ _ h => h) hSq.out ?_
                    (first | go_big_quiet_step (fail) | quiet_step (fail))
                    refine wpQuiet_nil ?_
                    refine wpAnyH_one 1 rfl rfl (by kernel_rfl) (by kernel_rfl) (fun _ _ _ _ _ h => h) hSq.out ?_
                    (first | go_big_quiet_step (fail) | quiet_step (fail))
                    refine wpQuiet_nil ?_
                    refine wpAnyH_one 2 rfl rfl (by kernel_rfl) (by kernel_rfl) (fun _ _ _ _ _ h => h) hSq.out ?_
                    (first | go_big_quiet_step (fail) | quiet_step (fail))
                    refine wpQuiet_nil ?_
                    refine wpAnyH_one 3 rfl rfl (by kernel_rfl) (by kernel_rfl) (fun _ _ _ _ _ h => h) hSq.out ?_
                    (first | go_big_quiet_step (fail) | quiet_step (fail))
                    refine wpQuiet_nil ?_
                    refine wpAnyH_one 4 rfl rfl (by kernel_rfl) (by kernel_rfl) (fun _ _ _ _ _ h => h) hSq.out ?_
                    (first | go_big_quiet_step (fail) | quiet_step (fail))
                    refine wpQuiet_nil ?_
                    refine wpAnyH_one 5 rfl rfl (by kernel_rfl) (by kernel_rfl) (fun _ _ _ _ _ h => h) hSq.out ?_
                    (first | go_big_quiet_step (fail) | quiet_step (fail))
                    refine wpQuiet_nil ?_
                    refine wpAnyH_one 6 rfl rfl (by kernel_rfl) (by kernel_rfl) (fun _ _ _ _ _ h => h) hSq.out ?_
                    (first | go_big_quiet_step (fail) | quiet_step (fail))
                    refine wpQuiet_nil ?_
                    refine wpAnyH_one 7 rfl rfl (by kernel_rfl) (by kernel_rfl) (fun _ _ _ _ _ h => h) hSq.out ?_
                    (first | go_big_quiet_step (fail) | quiet_step (fail))
                    refine wpQuiet_nil ?_
                    refine wpAnyH_one 8 rfl rfl (by kernel_rfl) (by kernel_rfl) (fun _ _ _ _ _ h => h) hSq.out ?_
                    (first | go_big_quiet_step (fail) | quiet_step (fail))
                    refine wpQuiet_nil ?_
                    refine wpAnyH_one 9 rfl rfl (by kernel_rfl) (by kernel_rfl) (fun _ _ _ _ _ h => h) hSq.out ?_
                    (first | go_big_quiet_step (fail) | quiet_step (fail))
                    refine wpQuiet_nil ?_
                    refine wpAnyH_one 10 rfl rfl (by kernel_rfl) (by kernel_rfl) (fun _ _ _ _ _ h => h) hSq.out ?_
                    (first | go_big_quiet_step (fail) | quiet_step (fail))
                    refine wpQuiet_nil ?_
                    refine wpAnyH_one 11 rfl rfl (by kernel_rfl) (by kernel_rfl) (fun _ _ _ _ _ h => h) hSq.out ?_
                    (first | go_big_quiet_step (fail) | quiet_step (fail))
                    refine wpQuiet_nil ?_
                    refine wpAnyH_one 12 rfl rfl (by kernel_rfl) (by kernel_rfl) (fun _ _ _ _ _ h => h) hSq.out ?_
                    (first | go_big_quiet_step (fail) | quiet_step (fail))
                    refine wpQuiet_nil ?_
                    refine wpAnyH_one 13 rfl rfl (by kernel_rfl) (by kernel_rfl) (fun _ _ _ _ _ h => h) hSq.out ?_
                    (first | go_big_quiet_step (fail) | quiet_step (fail))
                    refine wpQuiet_nil ?_
                    refine wpAnyH_one 14 rfl rfl (by kernel_rfl) (by kernel_rfl) (fun _ _ _ _ _ h => h) hSq.out ?_
                    (first | go_big_quiet_step (fail) | quiet_step (fail))
                    refine wpQuiet_nil ?_
                    refine wpAnyH_one 15 rfl rfl (by kernel_rfl) (by kernel_rfl) (fun _ _ _ _ _ h => h) hSq.out ?_
                    (first | go_big_quiet_step (fail) | quiet_step (fail))
                    refine wpQuiet_nil ?_
                    refine wpAnyH_one 16 rfl rfl (by kernel_rfl) (by kernel_rfl) (fun _ _ _ _ _ h => h) hSq.out ?_
                    (first | go_big_quiet_step (fail) | quiet_step (fail))
                    refine wpQuiet_nil ?_
                    refine wpAnyH_one 17 rfl rfl (by kernel_rfl) (by kernel_rfl) (fun _ _ _ _ _ h => h) hSq.out ?_
                    (first | go_big_quiet_step (fail) | quiet_step (fail))
                    refine wpQuiet_nil ?_
                    refine wpAnyH_one 18 rfl rfl (by kernel_rfl) (by kernel_rfl) (fun _ _ _ _ _ h => h) hSq.out ?_
                    (first | go_big_quiet_step (fail) | quiet_step (fail))
                    refine wpQuiet_nil ?_
                    refine wpAnyH_one 19 rfl rfl (by kernel_rfl) (by kernel_rfl) (fun _ _ _ _ _ h => h) hSq.out ?_
                    (first | go_big_quiet_step (fail) | quiet_step (fail))
                    refine wpQuiet_nil ?_
                    refine wpAnyH_one 20 rfl rfl (by kernel_rfl) (by kernel_rfl) (fun _ _ _ _ _ h => h) hSq.out ?_
                    (first | go_big_quiet_step (fail) | quiet_step (fail))
                    refine wpQuiet_nil ?_
                    refine wpAnyH_one 21 rfl rfl (by kernel_rfl) (by kernel_rfl) (fun _ _ _ _ _ h => h) hSq.out ?_
                    (first | go_big_quiet_step (fail) | quiet_step (fail))
                    refine wpQuiet_nil ?_
                    refine wpAnyH_one 22 rfl rfl (by kernel_rfl) (by kernel_rfl) (fun _ _ _ _ _ h => h) hSq.out ?_
                    (first | go_big_quiet_step (fail) | quiet_step (fail))
                    refine wpQuiet_nil ?_
                    refine wpAnyH_one 23 rfl rfl (by kernel_rfl) (by kernel_rfl) (fun _ _ _ _ _ h => h) hSq.out ?_
                    (first | go_big_quiet_step (fail) | quiet_step (fail))
                    refine wpQuiet_nil ?_
                    refine wpAnyH_one 24 rfl rfl (by kernel_rfl) (by kernel_rfl) (fun _ _ _ _ _ h => h) hSq.out ?_
                    (first | go_big_quiet_step (fail) | quiet_step (fail))
                    refine wpQuiet_nil ?_
                    refine wpAnyH_one 25 rfl rfl (by kernel_rfl) (by kernel_rfl) (fun _ _ _ _ _ h => h) hSq.out ?_
                    (first | go_big_quiet_step (fail) | quiet_step (fail))
                    refine wpQuiet_nil ?_
                    refine wpAnyH_one 26 rfl rfl (by kernel_rfl) (by kernel_rfl) (fun _ _ _ _ _ h => h) hSq.out ?_
                    (first | go_big_quiet_step (fail) | quiet_step (fail))
                    refine wpQuiet_nil ?_
                    refine wpAnyH_one 27 rfl rfl (by kernel_rfl) (by kernel_rfl) (fun _ _ _ _ _ h => h) hSq.out ?_
                    (first | go_big_quiet_step (fail) | quiet_step (fail))
                    refine wpQuiet_nil ?_
                    refine wpAnyH_one 28 rfl rfl (by kernel_rfl) (by kernel_rfl) (fun _ _ _ _ _ h => h) hSq.out ?_
                    (first | go_big_quiet_step (fail) | quiet_step (fail))
                    refine wpQuiet_nil ?_
                    refine wpAnyH_one 29 rfl rfl (by kernel_rfl) (by kernel_rfl) (fun _ _ _ _ _ h => h) hSq.out ?_
                    (first | go_big_quiet_step (fail) | quiet_step (fail))
                    refine wpQuiet_nil ?_
                    refine wpAnyH_one 30 rfl rfl (by kernel_rfl) (by kernel_rfl) (fun _ _ _ _ _ h => h) hSq.out ?_
                    (first | go_big_quiet_step (fail) | quiet_step (fail))
                    refine wpQuiet_nil ?_
                    refine wpAnyH_one 31 rfl rfl (by kernel_rfl) (by kernel_rfl) (fun _ _ _ _ _ h => h) hSq.out ?_
                    (first | go_big_quiet_step (fail) | quiet_step (fail))
                    refine wpQuiet_nil ?_
                    refine wpAnyH_one 32 rfl rfl (by kernel_rfl) (by kernel_rfl) (fun _ _ _ _ _ h => h) hSq.out ?_
                    (first | go_big_quiet_step (fail) | quiet_step (fail))
                    refine wpQuiet_nil ?_
                    refine wpAnyH_one 33 rfl rfl (by kernel_rfl) (by kernel_rfl) (fun _ _ _ _ _ h => h) hSq.out ?_
                    (first | go_big_quiet_step (fail) | quiet_step (fail))
                    refine wpQuiet_nil ?_
                    refine wpAnyH_one 34 rfl rfl (by kernel_rfl) (by kernel_rfl) (fun _ _ _ _ _ h => h) hSq.out ?_
                    (first | go_big_quiet_step (fail) | quiet_step (fail))
                    refine wpQuiet_nil ?_
                    refine wpAnyH_one 35 rfl rfl (by kernel_rfl) (by kernel_rfl) (fun _ _ _ _ _ h => h) hSq.out ?_
                    (first | go_big_quiet_step (fail) | quiet_step (fail))
                    refine wpQuiet_nil ?_
                    refine wpAnyH_one 36 rfl rfl (by kernel_rfl) (by kernel_rfl) (fun _ _ _ _ _ h => h) hSq.out ?_
                    (first | go_big_quiet_step (fail) | quiet_step (fail))
                    refine wpQuiet_nil ?_
                    refine wpAnyH_one 37 rfl rfl (by kernel_rfl) (by kernel_rfl) (fun _ _ _ _ _ h => h) hSq.out ?_
                    (first | go_big_quiet_step (fail) | quiet_step (fail))
                    refine wpQuiet_nil ?_
                    refine wpAnyH_one 38 rfl rfl (by kernel_rfl) (by kernel_rfl) (fun _ _ _ _ _ h => h) hSq.out ?_
                    (first | go_big_quiet_step (fail) | quiet_step (fail))
                    refine wpQuiet_nil ?_
                    refine wpAnyH_one 39 rfl rfl (by kernel_rfl) (by kernel_rfl) (fun _ _ _ _ _ h => h) hSq.out ?_
                    (first | go_big_quiet_step (fail) | quiet_step (fail))
                    refine wpQuiet_nil ?_
                    refine wpAnyH_one 40 rfl rfl (by kernel_rfl) (by kernel_rfl) (fun _ _ _ _ _ h => h) hSq.out ?_
                    (first | go_big_quiet_step (fail) | quiet_step (fail))
                    refine wpQuiet_nil ?_
                    refine wpAnyH_one 41 rfl rfl (by kernel_rfl) (by kernel_rfl) (fun _ _ _ _ _ h => h) hSq.out ?_
                    (first | go_big_quiet_step (fail) | quiet_step (fail))
                    refine wpQuiet_nil ?_
                    refine wpAnyH_one 42 rfl rfl (by kernel_rfl) (by kernel_rfl) (fun _ _ _ _ _ h => h) hSq.out ?_
                    (first | go_big_quiet_step (fail) | quiet_step (fail))
                    refine wpQuiet_nil ?_
                    clear hSq
                    refine wpAnyH_sole 43 rfl (by kernel_rfl) (fun K hK => ?_)
                    go_simp
                    (refine (HR.out _ _ (HZ.out.toW hr)).mono ?_; rintro e u1 hgv; obtain ⟨rfl, hb⟩ := hgv.below; clear hgv; have hsu1 := hb.size; have hr := below_step hr (by omega) hb; clear hb)
                    refine hK _ _ (over_ex (by go_light; (repeat' (first | (with_reducible exact Below.refl _ _) | (with_reducible exact Nat.le_refl _) | (with_reducible assumption) | (with_reducible refine below_step ?_ ?_ hr) | (with_reducible refine below_over ?_ ?_ _) | (with_reducible refine Below.alloc ?_ ?_ _) | (with_reducible refine Below.setCell ?_ ?_ _) | (with_reducible refine below_put ?_ ?_ _) | (with_reducible refine Below.drew ?_) | (with_reducible refine below_drewN_ ?_ _) | (with_reducible refine le_drewN ?_ _) | (with_reducible refine over_le _ _ _ ?_) | (with_reducible refine le_alloc ?_ _) | (with_reducible refine le_setCell ?_ _ _) | (with_reducible refine le_put ?_ _ _) | (with_reducible refine le_drew ?_) | dsimp only | omega | ((try simp only [World.size_alloc, World.size_setCell, World.size_drew, size_put]); omega) | (simp; done))))) ?_
                    clear hK K
                    have hzu1 := hr.size
                    refine wpAnyH_keep (over_ex (by go_light; (repeat' (first | (with_reducible exact Below.refl _ _) | (with_reducible exact Nat.le_refl _) | (with_reducible assumption) | (with_reducible refine below_step ?_ ?_ hr) | (with_reducible refine below_over ?_ ?_ _) | (with_reducible refine Below.alloc ?_ ?_ _) | (with_reducible refine Below.setCell ?_ ?_ _) | (with_reducible refine below_put ?_ ?_ _) | (with_reducible refine Below.drew ?_) | (with_reducible refine below_drewN_ ?_ _) | (with_reducible refine le_drewN ?_ _) | (with_reducible refine over_le _ _ _ ?_) | (with_reducible refine le_alloc ?_ _) | (with_reducible refine le_setCell ?_ _ _) | (with_reducible refine le_put ?_ _ _) | (with_reducible refine le_drew ?_) | dsimp only | omega | ((try simp only [World.size_alloc, World.size_setCell, World.size_drew, size_put]); omega) | (simp; done))))) (fun hSq => ?_)
                    refine wpAnyH_one 44 rfl rfl (by kernel_rfl) (by kernel_rfl) (fun _ _ _ _ _ h => h) hSq.out ?_
                    (first | go_big_quiet_step (fail) | quiet_step (fail))
                    refine wpQuiet_nil ?_
                    refine wpAnyH_one 45 rfl rfl (by kernel_rfl) (by kernel_rfl) (fun _ _ _ _ _ h => h) hSq.out ?_
                    (first | go_big_quiet_step (fail) | quiet_step (fail))
                    refine wpQuiet_nil ?_
                    refine wpAnyH_one 46 rfl rfl (by kernel_rfl) (by kernel_rfl) (fun _ _ _ _ _ h => h) hSq.out ?_
                    (first | go_big_quiet_step (fail) | quiet_step (fail))
                    refine wpQuiet_nil ?_
                    refine wpAnyH_one 47 rfl rfl (by kernel_rfl) (by kernel_rfl) (fun _ _ _ _ _ h => h) hSq.out ?_
                    (first | go_big_quiet_step (fail) | quiet_step (fail))
                    refine wpQuiet_nil ?_
                    refine wpAnyH_one 48 rfl rfl (by kernel_rfl) (by kernel_rfl) (fun _ _ _ _ _ h => h) hSq.out ?_
                    (first | go_big_quiet_step (fail) | quiet_step (fail))
                    refine wpQuiet_nil ?_
                    refine wpAnyH_one 49 rfl rfl (by kernel_rfl) (by kernel_rfl) (fun _ _ _ _ _ h => h) hSq.out ?_
                    (first | go_big_quiet_step (fail) | quiet_step (fail))
                    refine wpQuiet_nil ?_
                    refine wpAnyH_one 50 rfl rfl (by kernel_rfl) (by kernel_rfl) (fun _ _ _ _ _ h => h) hSq.out ?_
                    (first | go_big_quiet_step (fail) | quiet_step (fail))
                    refine wpQuiet_nil ?_
                    refine wpAnyH_one 51 rfl rfl (by kernel_rfl) (by kernel_rfl) (fun _ _ _ _ _ h => h) hSq.out ?_
                    (first | go_big_quiet_step (fail) | quiet_step (fail))
                    refine wpQuiet_nil ?_
                    refine wpAnyH_one 53 rfl rfl (by kernel_rfl) (by kernel_rfl) (fun _ _ _ _ _ h => h) hSq.out ?_
                    (first | go_big_quiet_step (fail) | quiet_step (fail))
                    refine wpQuiet_nil ?_
                    refine wpAnyH_one 54 rfl rfl (by kernel_rfl) (by kernel_rfl) (fun _ _ _ _ _ h => h) hSq.out ?_
                    (first | go_big_quiet_step (fail) | quiet_step (fail))
                    refine wpQuiet_nil ?_
                    refine wpAnyH_one 56 rfl rfl (by kernel_rfl) (by kernel_rfl) (fun _ _ _ _ _ h => h) hSq.out ?_
                    (first | go_big_quiet_step (fail) | quiet_step (fail))
                    refine wpQuiet_nil ?_
                    refine wpAnyH_one 57 rfl rfl (by kernel_rfl) (by kernel_rfl) (fun _ _ _ _ _ h => h) hSq.out ?_
                    (first | go_big_quiet_step (fail) | quiet_step (fail))
                    refine wpQuiet_nil ?_
                    clear hSq
                    refine wpAnyH_sole 52 rfl (by kernel_rfl) (fun K hK => ?_)
                    go_simp
                    (refine (HO.out _ _ (HZ.out.toW hr)).mono ?_; rintro e u2 ⟨v2, rfl, hb, hv⟩; have HI := Lib.hid (hv.rd (fun _ => rfl)); clear hv; have hsu2 := hb.size; have hr := below_step hr (by omega) hb; clear hb)
                    refine hK _ _ (over_ex (by go_light; (repeat' (first | (with_reducible exact Below.refl _ _) | (with_reducible exact Nat.le_refl _) | (with_reducible assumption) | (with_reducible refine below_step ?_ ?_ hr) | (with_reducible refine below_over ?_ ?_ _) | (with_reducible refine Below.alloc ?_ ?_ _) | (with_reducible refine Below.setCell ?_ ?_ _) | (with_reducible refine below_put ?_ ?_ _) | (with_reducible refine Below.drew ?_) | (with_reducible refine below_drewN_ ?_ _) | (with_reducible refine le_drewN ?_ _) | (with_reducible refine over_le _ _ _ ?_) | (with_reducible refine le_alloc ?_ _) | (with_reducible refine le_setCell ?_ _ _) | (with_reducible refine le_put ?_ _ _) | (with_reducible refine le_drew ?_) | dsimp only | omega | ((try simp only [World.size_alloc, World.size_setCell, World.size_drew, size_put]); omega) | (simp; done))))) ?_
                    clear hK K
                    have hzu2 := hr.size
                    refine wpAnyH_sole 55 rfl (by kernel_rfl) (fun K hK => ?_)
                    go_simp
                    (refine (HH.out _ _ HI.out).mono ?_; rintro e u3 hgv; obtain ⟨rfl, hb⟩ := hgv.below; clear hgv HI; have hsu3 := hb.size; have hr := below_step hr (by omega) hb; clear hb)
                    refine hK _ _ (over_ex (by go_light; (repeat' (first | (with_reducible exact Below.refl _ _) | (with_reducible exact Nat.le_refl _) | (with_reducible assumption) | (with_reducible refine below_step ?_ ?_ hr) | (with_reducible refine below_over ?_ ?_ _) | (with_reducible refine Below.alloc ?_ ?_ _) | (with_reducible refine Below.setCell ?_ ?_ _) | (with_reducible refine below_put ?_ ?_ _) | (with_reducible refine Below.drew ?_) | (with_reducible refine below_drewN_ ?_ _) | (with_reducible refine le_drewN ?_ _) | (with_reducible refine over_le _ _ _ ?_) | (with_reducible refine le_alloc ?_ _) | (with_reducible refine le_setCell ?_ _ _) | (with_reducible refine le_put ?_ _ _) | (with_reducible refine le_drew ?_) | dsimp only | omega | ((try simp only [World.size_alloc, World.size_setCell, World.size_drew, size_put]); omega) | (simp; done))))) ?_
                    clear hK K
                    have hzu3 := hr.size
                    refine wpAnyH_keep (over_ex (by go_light; (repeat' (first | (with_reducible exact Below.refl _ _) | (with_reducible exact Nat.le_refl _) | (with_reducible assumption) | (with_reducible refine below_step ?_ ?_ hr) | (with_reducible refine below_over ?_ ?_ _) | (with_reducible refine Below.alloc ?_ ?_ _) | (with_reducible refine Below.setCell ?_ ?_ _) | (with_reducible refine below_put ?_ ?_ _) | (with_reducible refine Below.drew ?_) | (with_reducible refine below_drewN_ ?_ _) | (with_reducible refine le_drewN ?_ _) | (with_reducible refine over_le _ _ _ ?_) | (with_reducible refine le_alloc ?_ _) | (with_reducible refine le_setCell ?_ _ _) | (with_reducible refine le_put ?_ _ _) | (with_reducible refine le_drew ?_) | dsimp only | omega | ((try simp only [World.size_alloc, World.size_setCell, World.size_drew, size_put]); omega) | (simp; done))))) (fun hSq => ?_)
                    refine wpAnyH_one 58 rfl rfl (by kernel_rfl) (by kernel_rfl) (fun _ _ _ _ _ h => h) hSq.out ?_
                    (first | go_big_quiet_step (fail) | quiet_step (fail))
                    refine wpQuiet_nil ?_
                    refine wpAnyH_one 59 rfl rfl (by kernel_rfl) (by kernel_rfl) (fun _ _ _ _ _ h => h) hSq.out ?_
                    (first | go_big_quiet_step (fail) | quiet_step (fail))
                    refine wpQuiet_nil ?_
                    clear hSq
                    refine wpAnyH_done (by kernel_rfl) ?_ _
                    have HZ9 := Lib.hid (HZ.out.toW hr)
                    have hB9 : Below w1.heap.size w1 u3 := hBr4.trans (hr.mono (by omega))
                    go_wp2_with fail
                    go_roundw
                    case rel => exact ⟨k + 1, ⟨_, m, d⟩, Z, by omega, rfl, by go_num, HGZ, HZ9, by go_light; (repeat' (first | (with_reducible exact Below.refl _ _) | (with_reducible exact Nat.le_refl _) | (with_reducible assumption) | (with_reducible refine below_step ?_ ?_ hr) | (with_reducible refine below_over ?_ ?_ _) | (with_reducible refine Below.alloc ?_ ?_ _) | (with_reducible refine Below.setCell ?_ ?_ _) | (with_reducible refine below_put ?_ ?_ _) | (with_reducible refine Below.drew ?_) | (with_reducible refine below_drewN_ ?_ _) | (with_reducible refine le_drewN ?_ _) | (with_reducible refine over_le _ _ _ ?_) | (with_reducible refine le_alloc ?_ _) | (with_reducible refine le_setCell ?_ _ _) | (with_reducible refine le_put ?_ _ _) | (with_reducible refine le_drew ?_) | dsimp only | omega | ((try simp only [World.size_alloc, World.size_setCell, World.size_drew, size_put]); omega) | (simp; done)))⟩
                    case measure => (simp [intOf] <;> omega)
          · have HC : Hid (Rd wr CV.enc ⟨A0, n0, c0⟩ ys → ∀ w', Below wr.heap.size wr w' → Calls Try.prog 15 #[.slice A0 n0 c0, .int .i64 c.kind, .int .i64 c.target, .int .i64 c.by_] w' (COPost [] (openE c.key ys) w')) := fun h w' hb => by
              have h2 := closure_Open ⟨A0, n0, c0⟩ ys c.key w' (h.toW hb) (by dsimp only; omega)
              rw [open_err hE] at h2
              exact h2
            have HC := Lib.hid (HC.out Hy.out)
            have hEb : (openE c.key ys != 0) = true := by simpa using hE
            clear hE hW
            generalize openE c.key ys = E at HC hEb
            go_wp2_with fail
            refine (HW.out _ (by (repeat' (first | (with_reducible exact Below.refl _ _) | (with_reducible exact Nat.le_refl _) | (with_reducible assumption) | (with_reducible refine below_step ?_ ?_ hr) | (with_reducible refine below_over ?_ ?_ _) | (with_reducible refine Below.alloc ?_ ?_ _) | (with_reducible refine Below.setCell ?_ ?_ _) | (with_reducible refine below_put ?_ ?_ _) | (with_reducible refine Below.drew ?_) | (with_reducible refine below_drewN_ ?_ _) | (with_reducible refine le_drewN ?_ _) | (with_reducible refine over_le _ _ _ ?_) | (with_reducible refine le_alloc ?_ _) | (with_reducible refine le_setCell ?_ _ _) | (with_reducible refine le_put ?_ _ _) | (with_reducible refine le_drew ?_) | dsimp only | omega | ((try simp only [World.size_alloc, World.size_setCell, World.size_drew, size_put]); omega) | (simp; done))))).mono ?_
            rintro e w2 hg
            obtain ⟨rfl, hb⟩ := hg.below
            clear hg
            have hz := hb.size
            (try simp only [World.size_alloc, World.size_setCell, World.size_drew, size_put] at hz)
            have hB : Below wr.heap.size wr w2 := below_step (by (repeat' (first | (with_reducible exact Below.refl _ _) | (with_reducible exact Nat.le_refl _) | (with_reducible assumption) | (with_reducible refine below_step ?_ ?_ hr) | (with_reducible refine below_over ?_ ?_ _) | (with_reducible refine Below.alloc ?_ ?_ _) | (with_reducible refine Below.setCell ?_ ?_ _) | (with_reducible refine below_put ?_ ?_ _) | (with_reducible refine Below.drew ?_) | (with_reducible refine below_drewN_ ?_ _) | (with_reducible refine le_drewN ?_ _) | (with_reducible refine over_le _ _ _ ?_) | (with_reducible refine le_alloc ?_ _) | (with_reducible refine le_setCell ?_ _ _) | (with_reducible refine le_put ?_ _ _) | (with_reducible refine le_drew ?_) | dsimp only | omega | ((try simp only [World.size_alloc, World.size_setCell, World.size_drew, size_put]); omega) | (simp; done)))) (by (first | omega | ((try simp only [World.size_alloc, World.size_setCell, World.size_drew, size_put]); omega))) hb
            have Hy := Lib.hid (Hy.out.toW (below_step (by (repeat' (first | (with_reducible exact Below.refl _ _) | (with_reducible exact Nat.le_refl _) | (with_reducible assumption) | (with_reducible refine below_step ?_ ?_ hr) | (with_reducible refine below_over ?_ ?_ _) | (with_reducible refine Below.alloc ?_ ?_ _) | (with_reducible refine Below.setCell ?_ ?_ _) | (with_reducible refine below_put ?_ ?_ _) | (with_reducible refine Below.drew ?_) | (with_reducible refine below_drewN_ ?_ _) | (with_reducible refine le_drewN ?_ _) | (with_reducible refine over_le _ _ _ ?_) | (with_reducible refine le_alloc ?_ _) | (with_reducible refine le_setCell ?_ _ _) | (with_reducible refine le_put ?_ _ _) | (with_reducible refine le_drew ?_) | dsimp only | omega | ((try simp only [World.size_alloc, World.size_setCell, World.size_drew, size_put]); omega) | (simp; done)))) (by (first | omega | ((try simp only [World.size_alloc, World.size_setCell, World.size_drew, size_put]); omega))) hb))
            have Q' : w2.heap[w.heap.size]? = _ := hb.block (w.heap.size) (by (first | omega | ((try simp only [World.size_alloc, World.size_setCell, World.size_drew, size_put]); omega)))
            simp only [alloc_block_if, put_block_if, over_block_if, set_block_if, setObj_cells, drew_block, drewN_block, Option.map_some, List.setIfInBounds_toArray, List.set_cons_zero, List.set_cons_succ, World.size_alloc, World.size_setCell, size_put, World.size_drew, if_true, if_false, ↓IntWalk.iteOmega, Q_0] at Q'
            clear Q_0
            have Q_0 := Q'
            clear Q'
            have Q' : w2.heap[wr.heap.size]? = _ := hb.block (wr.heap.size) (by (first | omega | ((try simp only [World.size_alloc, World.size_setCell, World.size_drew, size_put]); omega)))
            simp only [alloc_block_if, put_block_if, over_block_if, set_block_if, setObj_cells, drew_block, drewN_block, Option.map_some, List.setIfInBounds_toArray, List.set_cons_zero, List.set_cons_succ, World.size_alloc, World.size_setCell, size_put, World.size_drew, if_true, if_false, ↓IntWalk.iteOmega] at Q'
            have Qwr_0 := Q'
            clear Q'
            have q_0 := cell_of_block Q_0
            have qwr_0 := cell_of_block Qwr_0
            clear hb
            have hBw2 : Below w.heap.size w w2 := hBw.trans (hB.mono (by omega))
            have f0 := (hBw2.cell (p := ⟨b, _, none⟩) hbw).trans hc0
            clear e0 e1 e2 e3 e4
            go_wp2_with fail
            refine (HC.out _ (by (repeat' (first | (with_reducible exact Below.refl _ _) | (with_reducible exact Nat.le_refl _) | (with_reducible assumption) | (with_reducible refine below_step ?_ ?_ hr) | (with_reducible refine below_over ?_ ?_ _) | (with_reducible refine Below.alloc ?_ ?_ _) | (with_reducible refine Below.setCell ?_ ?_ _) | (with_reducible refine below_put ?_ ?_ _) | (with_reducible refine Below.drew ?_) | (with_reducible refine below_drewN_ ?_ _) | (with_reducible refine le_drewN ?_ _) | (with_reducible refine over_le _ _ _ ?_) | (with_reducible refine le_alloc ?_ _) | (with_reducible refine le_setCell ?_ _ _) | (with_reducible refine le_put ?_ _ _) | (with_reducible refine le_drew ?_) | dsimp only | omega | ((try simp only [World.size_alloc, World.size_setCell, World.size_drew, size_put]); omega) | (simp; done))))).mono ?_
            rintro e w3 ⟨⟨B, m, d⟩, rfl, hb, hv⟩
            obtain rfl : m = 0 := by have h := hv.len; simpa using h.symm
            clear hv
            dsimp only [Sl.val]
            have hz := hb.size
            (try simp only [World.size_alloc, World.size_setCell, World.size_drew, size_put] at hz)
            have hB : Below wr.heap.size wr w3 := below_step (by (repeat' (first | (with_reducible exact Below.refl _ _) | (with_reducible exact Nat.le_refl _) | (with_reducible assumption) | (with_reducible refine below_step ?_ ?_ hr) | (with_reducible refine below_over ?_ ?_ _) | (with_reducible refine Below.alloc ?_ ?_ _) | (with_reducible refine Below.setCell ?_ ?_ _) | (with_reducible refine below_put ?_ ?_ _) | (with_reducible refine Below.drew ?_) | (with_reducible refine below_drewN_ ?_ _) | (with_reducible refine le_drewN ?_ _) | (with_reducible refine over_le _ _ _ ?_) | (with_reducible refine le_alloc ?_ _) | (with_reducible refine le_setCell ?_ _ _) | (with_reducible refine le_put ?_ _ _) | (with_reducible refine le_drew ?_) | dsimp only | omega | ((try simp only [World.size_alloc, World.size_setCell, World.size_drew, size_put]); omega) | (simp; done)))) (by (first | omega | ((try simp only [World.size_alloc, World.size_setCell, World.size_drew, size_put]); omega))) hb
            have Hy := Lib.hid (Hy.out.toW (below_step (by (repeat' (first | (with_reducible exact Below.refl _ _) | (with_reducible exact Nat.le_refl _) | (with_reducible assumption) | (with_reducible refine below_step ?_ ?_ hr) | (with_reducible refine below_over ?_ ?_ _) | (with_reducible refine Below.alloc ?_ ?_ _) | (with_reducible refine Below.setCell ?_ ?_ _) | (with_reducible refine below_put ?_ ?_ _) | (with_reducible refine Below.drew ?_) | (with_reducible refine below_drewN_ ?_ _) | (with_reducible refine le_drewN ?_ _) | (with_reducible refine over_le _ _ _ ?_) | (with_reducible refine le_alloc ?_ _) | (with_reducible refine le_setCell ?_ _ _) | (with_reducible refine le_put ?_ _ _) | (with_reducible refine le_drew ?_) | dsimp only | omega | ((try simp only [World.size_alloc, World.size_setCell, World.size_drew, size_put]); omega) | (simp; done)))) (by (first | omega | ((try simp only [World.size_alloc, World.size_setCell, World.size_drew, size_put]); omega))) hb))
            clear hb
            have hBr3 : Below w1.heap.size w1 w3 := hBr.trans (hB.mono (by omega))
            go_wp2_with fail
            go_roundw
            case rel => exact ⟨k + 1, ⟨A0, n0, c0⟩, ys, by omega, rfl, by go_num, Hg, Hy, by go_light; (repeat' (first | (with_reducible exact Below.refl _ _) | (with_reducible exact Nat.le_refl _) | (with_reducible assumption) | (with_reducible refine below_step ?_ ?_ hr) | (with_reducible refine below_over ?_ ?_ _) | (with_reducible refine Below.alloc ?_ ?_ _) | (with_reducible refine Below.setCell ?_ ?_ _) | (with_reducible refine below_put ?_ ?_ _) | (with_reducible refine Below.drew ?_) | (with_reducible refine below_drewN_ ?_ _) | (with_reducible refine le_drewN ?_ _) | (with_reducible refine over_le _ _ _ ?_) | (with_reducible refine le_alloc ?_ _) | (with_reducible refine le_setCell ?_ _ _) | (with_reducible refine le_put ?_ _ _) | (with_reducible refine le_drew ?_) | dsimp only | omega | ((try simp only [World.size_alloc, World.size_setCell, World.size_drew, size_put]); omega) | (simp; done)))⟩
            case measure => (simp [intOf] <;> omega)
      · go_wp2_with fail
        go_ret
        exact ⟨rfl, by go_light; (repeat' (first | (with_reducible exact Below.refl _ _) | (with_reducible exact Nat.le_refl _) | (with_reducible assumption) | (with_reducible refine below_step ?_ ?_ hr) | (with_reducible refine below_over ?_ ?_ _) | (with_reducible refine Below.alloc ?_ ?_ _) | (with_reducible refine Below.setCell ?_ ?_ _) | (with_reducible refine below_put ?_ ?_ _) | (with_reducible refine Below.drew ?_) | (with_reducible refine below_drewN_ ?_ _) | (with_reducible refine le_drewN ?_ _) | (with_reducible refine over_le _ _ _ ?_) | (with_reducible refine le_alloc ?_ _) | (with_reducible refine le_setCell ?_ _ _) | (with_reducible refine le_put ?_ _ _) | (with_reducible refine le_drew ?_) | dsimp only | omega | ((try simp only [World.size_alloc, World.size_setCell, World.size_drew, size_put]); omega) | (simp; done)))⟩
  · have hrb : (rightC xs == 0) = false := by simpa using hr
    rw [hrb] at Hr
    obtain ⟨A, n1, c1⟩ := s
    clear hs hr hrb ho
    simp only [Sl.val] at Hr ⊢
    (go_enter Try.func6, Try.ntmps6; try dsimp only [List.append])
    go_wp2_with fail
    refine (law52_alive _).mono ?_
    rintro e w1 hg
    obtain ⟨rfl, hb⟩ := hg.below
    clear hg
    have hz := hb.size
    (try simp only [World.size_alloc, World.size_setCell, World.size_drew, size_put] at hz)
    have hB : Below w.heap.size w w1 := below_step (by (repeat' (first | (with_reducible exact Below.refl _ _) | (with_reducible exact Nat.le_refl _) | (with_reducible assumption) | (with_reducible refine below_step ?_ ?_ hr) | (with_reducible refine below_over ?_ ?_ _) | (with_reducible refine Below.alloc ?_ ?_ _) | (with_reducible refine Below.setCell ?_ ?_ _) | (with_reducible refine below_put ?_ ?_ _) | (with_reducible refine Below.drew ?_) | (with_reducible refine below_drewN_ ?_ _) | (with_reducible refine le_drewN ?_ _) | (with_reducible refine over_le _ _ _ ?_) | (with_reducible refine le_alloc ?_ _) | (with_reducible refine le_setCell ?_ _ _) | (with_reducible refine le_put ?_ _ _) | (with_reducible refine le_drew ?_) | dsimp only | omega | ((try simp only [World.size_alloc, World.size_setCell, World.size_drew, size_put]); omega) | (simp; done)))) (by (first | omega | ((try simp only [World.size_alloc, World.size_setCell, World.size_drew, size_put]); omega))) hb
    clear hb
    go_wp2_with fail
    refine (Hr.out _ (by (repeat' (first | (with_reducible exact Below.refl _ _) | (with_reducible exact Nat.le_refl _) | (with_reducible assumption) | (with_reducible refine below_step ?_ ?_ hr) | (with_reducible refine below_over ?_ ?_ _) | (with_reducible refine Below.alloc ?_ ?_ _) | (with_reducible refine Below.setCell ?_ ?_ _) | (with_reducible refine below_put ?_ ?_ _) | (with_reducible refine Below.drew ?_) | (with_reducible refine below_drewN_ ?_ _) | (with_reducible refine le_drewN ?_ _) | (with_reducible refine over_le _ _ _ ?_) | (with_reducible refine le_alloc ?_ _) | (with_reducible refine le_setCell ?_ _ _) | (with_reducible refine le_put ?_ _ _) | (with_reducible refine le_drew ?_) | dsimp only | omega | ((try simp only [World.size_alloc, World.size_setCell, World.size_drew, size_put]); omega) | (simp; done))))).mono ?_
    rintro e w2 hg
    obtain ⟨rfl, hb⟩ := hg.below
    clear hg
    have hz := hb.size
    (try simp only [World.size_alloc, World.size_setCell, World.size_drew, size_put] at hz)
    have hB : Below w.heap.size w w2 := below_step (by (repeat' (first | (with_reducible exact Below.refl _ _) | (with_reducible exact Nat.le_refl _) | (with_reducible assumption) | (with_reducible refine below_step ?_ ?_ hr) | (with_reducible refine below_over ?_ ?_ _) | (with_reducible refine Below.alloc ?_ ?_ _) | (with_reducible refine Below.setCell ?_ ?_ _) | (with_reducible refine below_put ?_ ?_ _) | (with_reducible refine Below.drew ?_) | (with_reducible refine below_drewN_ ?_ _) | (with_reducible refine le_drewN ?_ _) | (with_reducible refine over_le _ _ _ ?_) | (with_reducible refine le_alloc ?_ _) | (with_reducible refine le_setCell ?_ _ _) | (with_reducible refine le_put ?_ _ _) | (with_reducible refine le_drew ?_) | dsimp only | omega | ((try simp only [World.size_alloc, World.size_setCell, World.size_drew, size_put]); omega) | (simp; done)))) (by (first | omega | ((try simp only [World.size_alloc, World.size_setCell, World.size_drew, size_put]); omega))) hb
    clear hb
    go_wp2_with fail
    go_ret
    exact ⟨rfl, by go_light; (repeat' (first | (with_reducible exact Below.refl _ _) | (with_reducible exact Nat.le_refl _) | (with_reducible assumption) | (with_reducible refine below_step ?_ ?_ hr) | (with_reducible refine below_over ?_ ?_ _) | (with_reducible refine Below.alloc ?_ ?_ _) | (with_reducible refine Below.setCell ?_ ?_ _) | (with_reducible refine below_put ?_ ?_ _) | (with_reducible refine Below.drew ?_) | (with_reducible refine below_drewN_ ?_ _) | (with_reducible refine le_drewN ?_ _) | (with_reducible refine over_le _ _ _ ?_) | (with_reducible refine le_alloc ?_ _) | (with_reducible refine le_setCell ?_ _ _) | (with_reducible refine le_put ?_ _ _) | (with_reducible refine le_drew ?_) | dsimp only | omega | ((try simp only [World.size_alloc, World.size_setCell, World.size_drew, size_put]); omega) | (simp; done)))⟩

theorem own : ownKnob Try.prog.godebug = none := by kernel_rfl
theorem laidOut : laidOutB Try.prog = true := by kernel_rfl
set_option maxRecDepth 100000 in
theorem lifted (os : Os) (started : os.Started) (H : Type) (enc : TypeId × Value → H) :
    ReturnsInHanded {} Try.checked os 6 .any (Rows.closureHeldSpec.pre6 enc Try.prog Try.f6 Rows.closureHeldRow.domain false) (Rows.closureHeldSpec.post enc Try.prog Try.f6 false true false false) := by
  refine returnsInHanded_of_change (C := Try.checked) own started (by kernel_rfl) Try.func6
    (ChangeSpec.witness6 (enc := enc) (C := Try.checked) false ⟨#[], #[.slice none 0 0, .slice none 0 0, .agg #[.int .i64 0, .int .i64 0, .int .i64 0]], []⟩ 8 (by kernel_rfl) (by kernel_rfl) (by kernel_rfl) (by kernel_rfl)) ?_
  intro W base args ds gs before hval0 hW hcnd _
  have hval : ∀ (j : Nat) t v, Try.f6.params[j]? = some t → args[j]? = some v → Value.okWide Try.prog W .any base t v := hval0
  have hW' := hW
  obtain ⟨p, q, hA0, hV, rfl, hfz, hnd⟩ := hW
  have hA : DataW.TrodAll enc Try.prog W 0 (fun _ => true) true Try.f6.params.toList args.toList ds p := hA0
  rw [Try.params6] at hA hval
  obtain ⟨v0, vs0, d0, ds0, p0, q0, hargs, rfl, rfl, h0, r0⟩ := trodAll_cons hA
  obtain ⟨v1, vs1, d1, ds1, p1, q1, rfl, rfl, rfl, h1, r1⟩ := trodAll_cons r0
  obtain ⟨v2, vs2, d2, ds2, p2, q2, rfl, rfl, rfl, h2, r2⟩ := trodAll_cons r1
  obtain ⟨rfl, rfl, rfl⟩ := trodAll_nil r2
  obtain rfl : args = #[v0, v1, v2] := by cases args; simp_all
  obtain ⟨rfl, rfl⟩ := trodVars_none hV
  have k0 := h0
  have lt0 : ∀ x ∈ p0, x.block < W.heap.size := by obtain ⟨m, hm⟩ := k0; exact DataW.trod_lt m _ _ _ hm
  obtain ⟨a0, e0, w0⟩ := opens_arg o_closures h0
  obtain rfl : v0 = a0.1.val := slice_value Try.underlying22 (hval 0 22 v0 rfl rfl) e0
  have k1 := h1
  have lt1 : ∀ x ∈ p1, x.block < W.heap.size := by obtain ⟨m, hm⟩ := k1; exact DataW.trod_lt m _ _ _ hm
  obtain ⟨a1, e1, w1⟩ := opens_arg o_ops h1
  obtain rfl : v1 = a1.1.val := slice_value Try.underlying48 (hval 1 48 v1 rfl rfl) e1
  have k2 := h2
  have lt2 : ∀ x ∈ p2, x.block < W.heap.size := by obtain ⟨m, hm⟩ := k2; exact DataW.trod_lt m _ _ _ hm
  obtain ⟨a2, e2, w2⟩ := opens_arg o_key h2
  obtain ⟨c2, rfl, s2⟩ := okWide_struct Try.underlying30 (hval 2 30 v2 rfl rfl)
  obtain rfl : c2 = (KV.enc a2).toArray := by rw [← e2]; simp [Value.cells]
  clear hA0 hval0
  refine (walk a0.1 a0.2 a1.1 a1.2 a2 W w0.1 w1.1).mono fun e W' ⟨he, bel⟩ => ?_
  subst he
  exact ⟨_, rfl, _, _, _, [], _, [], hW', trodAll_mk1 (shut_bool Try.underlying4 _), (trodAll_cons_mk (Below.trod laidOut (by kernel_rfl) (of_decide_eq_true (by kernel_rfl)) k0 bel lt0) (trodAll_cons_mk (Below.trod laidOut (by kernel_rfl) (of_decide_eq_true (by kernel_rfl)) k1 bel lt1) (trodAll_cons_mk (Below.trod laidOut (by kernel_rfl) (of_decide_eq_true (by kernel_rfl)) k2 bel lt2) trodAll_mk0))), rfl, bel.frame _, fun h => by cases h⟩
theorem over : Rows.closureHeldRow.holds Try.pinned (OpenSpec.ofChange Rows.closureHeldSpec) :=
  OpenClaim.holds_of_wide 6 Try.f6 rfl rfl rfl rfl rfl rfl rfl ⟨rfl, rfl, rfl, rfl, rfl⟩ rfl rfl rfl rfl rfl (by kernel_rfl) Try.func6 (by kernel_rfl)
    (of_decide_eq_true (by kernel_rfl)) (by unfold Func.isWrapper; first | (rw [if_pos (by decide +kernel)]; kernel_rfl) | (rw [if_neg (by decide +kernel)]; exact ⟨rfl, rfl⟩))
    (fun os started H enc _ => lifted os started H enc)
theorem proved : Rows.ClosureHeldSaid := over
#print axioms proved
end Go.Proofs.Ytpckebhmdjhniaa.lawHeld52
