/- Tariffs: a ride counts by the tariff of its time alone (plain law), and two own lists of tariffs that grow. -/
import Derived.Test.YtidefepnkhkkiaaTarLaw
import Derived.Test.YtidefepnkhkkiaaTarAt
import Derived.Test.YtidefepnkhkkiaaOrdApp
namespace Go.Proofs.Ytidefepnkhkkiaa
set_option linter.unusedSimpArgs false
set_option linter.unusedVariables false
open Go.RowKit
theorem rateAt_data (l t : Int) : ∀ {xs ys : List RT}, xs.map RT.data = ys.map RT.data → rateAt l t xs = rateAt l t ys
  | [], [], _ => rfl
  | [], _ :: _, h => by cases h
  | _ :: _, [], h => by cases h
  | x :: xs, y :: ys, h => by
    simp only [List.map_cons, List.cons.injEq, RT.data, Prod.mk.injEq] at h
    obtain ⟨⟨h1, h2, h3, h4⟩, h5⟩ := h
    have ih := rateAt_data l t h5
    unfold rateAt
    rw [h1, ih]
    unfold cntR
    rw [h2, h3, h4]
theorem good_data : ∀ {xs ys : List RT}, xs.map RT.data = ys.map RT.data → (∀ r ∈ ys, r.good) → ∀ r ∈ xs, r.good
  | [], _, _, _, r, hr => by cases hr
  | x :: xs, [], h, _, _, _ => by cases h
  | x :: xs, y :: ys, h, hg, r, hr => by
    simp only [List.map_cons, List.cons.injEq, RT.data, Prod.mk.injEq] at h
    obtain ⟨⟨h1, h2, h3, h4⟩, h5⟩ := h
    rcases List.mem_cons.1 hr with rfl | hr
    · have g := hg y (List.mem_cons_self ..)
      exact ⟨by rw [h2]; exact g.p0, by rw [h2]; exact g.p1, by rw [h3]; exact g.e0, by rw [h3]; exact g.e1⟩
    · exact good_data h5 (fun q hq => hg q (List.mem_cons_of_mem _ hq)) r hr
theorem tarsL_inc : ∀ {xs : List TF} {prev : Option Int}, tarsL prev xs = 0 → xs.Pairwise (fun a b => a.from_ < b.from_) ∧ (∀ p, prev = some p → ∀ x ∈ xs, p < x.from_)
  | [], _, _ => ⟨List.Pairwise.nil, fun _ _ x hx => by cases hx⟩
  | y :: xs, prev, h => by
    unfold tarsL at h
    split at h
    · rename_i h1
      obtain ⟨i1, i2⟩ := tarsL_inc h
      have hy : ∀ p, prev = some p → p < y.from_ := by
        rintro p rfl
        unfold tarE at h1
        split at h1
        · omega
        split at h1
        · omega
        rename_i h2
        simp [ordBad] at h2
        omega
      refine ⟨List.pairwise_cons.2 ⟨i2 _ rfl, i1⟩, fun p hp x hx => ?_⟩
      rcases List.mem_cons.1 hx with rfl | hx
      · exact hy p hp
      · have := i2 _ rfl x hx; have := hy p hp; omega
    · contradiction
theorem tarsL_from : ∀ {xs : List TF} {prev : Option Int}, tarsL prev xs = 0 → ∀ x ∈ xs, 0 ≤ x.from_
  | [], _, _, x, hx => by cases hx
  | y :: xs, prev, h, x, hx => by
    unfold tarsL at h
    split at h
    · rename_i h1
      rcases List.mem_cons.1 hx with rfl | hx
      · unfold tarE at h1
        split at h1
        · omega
        · omega
      · exact tarsL_from h x hx
    · contradiction
theorem lastN_last {xs : List TF} {t : Int} : ∀ {n q : Nat}, lastN xs t n = some q → ∀ k, q < k → k < n → leAt xs t k = false
  | 0, _, h, _, _, _ => by cases h
  | n + 1, q, h, k, h1, h2 => by
    unfold lastN at h
    split at h
    · cases h; omega
    · rename_i hn
      by_cases e : k = n
      · subst e; simpa using hn
      · exact lastN_last h k h1 (by omega)
theorem lastN_none {xs : List TF} {t : Int} : ∀ {n : Nat}, lastN xs t n = none → ∀ k, k < n → leAt xs t k = false
  | 0, _, _, h2 => by omega
  | n + 1, h, k, h2 => by
    unfold lastN at h
    split at h
    · cases h
    · rename_i hn
      by_cases e : k = n
      · subst e; simpa using hn
      · exact lastN_none h k (by omega)
/-- No tariff is in force: the time is negative. -/
theorem idx_none {xs : List TF} {t : Int} (hr : rightT xs = true) (h : idxF xs t = none) : t < 0 := by
  simp only [rightT, Bool.and_eq_true, beq_iff_eq] at hr
  have h2 := hr.2
  unfold tarF at h2
  split at h2
  · omega
  split at h2
  · omega
  cases xs with
  | nil => simp at *
  | cons x xs =>
    have h3 := lastN_none h 0 (by simp)
    rw [leAt_some (x := x) rfl] at h3
    unfold tarsL at h2
    split at h2
    · rename_i h1
      unfold tarE at h1
      split at h1
      · omega
      · rename_i h4
        simp [firstBad] at h4 h3
        omega
    · contradiction
theorem idx_max {xs : List TF} {t : Int} {q k : Nat} {x y : TF} (ht : tarsL none xs = 0) (h : idxF xs t = some q) (hx : xs[q]? = some x) (hy : xs[k]? = some y) (hyt : y.from_ ≤ t) : y.from_ ≤ x.from_ := by
  have hk : k < xs.length := (List.getElem?_eq_some_iff.1 hy).1
  have hq : q < xs.length := (List.getElem?_eq_some_iff.1 hx).1
  by_cases hlt : q < k
  · have := lastN_last h k hlt hk
    rw [leAt_some hy] at this
    simp at this
    omega
  · by_cases e : k = q
    · subst e; rw [hy] at hx; cases hx; exact Int.le_refl _
    · have hp := (tarsL_inc ht).1
      have := (List.pairwise_iff_getElem.1 hp) k q hk hq (by omega)
      rw [(List.getElem?_eq_some_iff.1 hy).2, (List.getElem?_eq_some_iff.1 hx).2] at this
      omega
theorem lastN_from {xs ys : List TF} {t : Int} (h : xs.map TF.from_ = ys.map TF.from_) : ∀ k, lastN xs t k = lastN ys t k
  | 0 => rfl
  | k + 1 => by
    have ih := lastN_from (t := t) h k
    have e : leAt xs t k = leAt ys t k := by
      have h2 : (xs[k]?).map TF.from_ = (ys[k]?).map TF.from_ := by rw [← List.getElem?_map, ← List.getElem?_map, h]
      unfold leAt
      cases hx : xs[k]? <;> cases hy : ys[k]? <;> rw [hx, hy] at h2 <;> simp at h2 <;> simp [h2]
    unfold lastN
    rw [e, ih]
abbrev upTo (t : Int) (xs : List TF) : List TF := xs.filter (fun y => decide (y.from_ ≤ t))
theorem last_filter (xs : List TF) (t : Int) : ∀ k, k ≤ xs.length → atX xs (lastN xs t k) = ((upTo t (xs.take k)).getLast?).getD zeroTF
  | 0, _ => rfl
  | k + 1, hk => by
    have ih := last_filter xs t k (by omega)
    obtain ⟨y, hy⟩ : ∃ y, xs[k]? = some y := ⟨xs[k], List.getElem?_eq_getElem (by omega)⟩
    rw [List.take_add_one, hy]
    unfold lastN
    rw [leAt_some hy]
    by_cases hyt : y.from_ ≤ t
    · rw [if_pos (by simpa using hyt)]
      simp [upTo, List.filter_append, hyt, atX, hy]
    · rw [if_neg (by simpa using hyt), ih]
      simp [upTo, List.filter_append, hyt]
theorem pts_before (xs : List TF) (r : RD) : ptsF (upTo r.at_ xs) r = ptsF xs r := by
  have h1 := last_filter xs r.at_ xs.length (Nat.le_refl _)
  have h2 := last_filter (upTo r.at_ xs) r.at_ (upTo r.at_ xs).length (Nat.le_refl _)
  rw [List.take_length] at h1 h2
  have h3 : upTo r.at_ (upTo r.at_ xs) = upTo r.at_ xs := by simp [upTo]
  rw [h3] at h2
  show rateAt _ _ (atX _ (lastN _ _ _)).rates = rateAt _ _ (atX _ (lastN _ _ _)).rates
  rw [h1, h2]
theorem upTo_take {xs : List TF} {t : Int} {k : Nat} {y : TF} (hy : xs[k]? = some y) : upTo t (xs.take (k + 1)) = if y.from_ ≤ t then upTo t (xs.take k) ++ [y] else upTo t (xs.take k) := by
  rw [List.take_add_one, hy]
  split <;> simp_all [upTo, List.filter_append]
/-- ys is xs with other rates but at the tariffs that begin at f. -/
structure Othr (f : Int) (xs : List TF) (k : Nat) (ys : List TF) : Prop where
  fr : ys.map TF.from_ = (xs.take k).map TF.from_
  at_ : ∀ (j : Nat) y, ys[j]? = some y → y.from_ = f → xs[j]? = some y
theorem Othr.len {f : Int} {xs : List TF} {k : Nat} {ys : List TF} (h : Othr f xs k ys) (hk : k ≤ xs.length) : ys.length = k := by
  have := congrArg List.length h.fr
  simpa [hk] using this
theorem Othr.step {f : Int} {xs : List TF} {k : Nat} {ys : List TF} {y z : TF} (h : Othr f xs k ys) (hy : xs[k]? = some y) (hz : z.from_ = y.from_) (hzf : z.from_ = f → z = y) : Othr f xs (k + 1) (ys ++ [z]) := by
  have hk : k < xs.length := (List.getElem?_eq_some_iff.1 hy).1
  have hl := h.len (by omega)
  refine ⟨?_, fun j u hu hf => ?_⟩
  · rw [List.take_add_one, hy, List.map_append, h.fr]
    simp [hz]
  · rcases Nat.lt_trichotomy j ys.length with hj | hj | hj
    · rw [List.getElem?_append_left hj] at hu
      exact h.at_ j u hu hf
    · subst hj
      rw [List.getElem?_append_right (Nat.le_refl _)] at hu
      simp at hu
      subst hu
      rw [hl, hzf hf]; exact hy
    · rw [List.getElem?_append_right (by omega)] at hu
      have : ¬ (j - ys.length) < [z].length := by simp; omega
      rw [List.getElem?_eq_none (by simp; omega)] at hu
      cases hu
theorem pts_other {xs ys : List TF} {q : Nat} {x : TF} {r : RD} (h : Othr x.from_ xs xs.length ys) (hi : idxF xs r.at_ = some q) (hx : xs[q]? = some x) : ptsF ys r = ptsF xs r := by
  have hl := h.len (Nat.le_refl _)
  have hf : ys.map TF.from_ = xs.map TF.from_ := by rw [h.fr, List.take_length]
  have hq : q < xs.length := (List.getElem?_eq_some_iff.1 hx).1
  have hi2 : idxF ys r.at_ = some q := by
    unfold idxF at hi ⊢
    rw [lastN_from hf, hl]; exact hi
  obtain ⟨y, hy⟩ : ∃ y, ys[q]? = some y := ⟨ys[q], List.getElem?_eq_getElem (by omega)⟩
  have hyf : y.from_ = x.from_ := by
    have h2 : (ys[q]?).map TF.from_ = (xs[q]?).map TF.from_ := by rw [← List.getElem?_map, ← List.getElem?_map, hf]
    rw [hy, hx] at h2
    simpa using h2
  have := h.at_ q y hy hyf
  rw [hx] at this
  obtain rfl := Option.some.inj this
  show rateAt _ _ (atX ys (idxF ys r.at_)).rates = rateAt _ _ (atX xs (idxF xs r.at_)).rates
  rw [hi, hi2]
  simp only [atX, hy, hx]
theorem pts_alone {sr : Sl} {rs : List RT} {r : RD} (h : 0 ≤ r.at_) : ptsF [⟨0, sr, rs⟩] r = rateAt r.lift r.at_ rs := by
  have : idxF [⟨0, sr, rs⟩] r.at_ = some 0 := by simp [idxF, lastN, leAt, h]
  show rateAt _ _ (atX _ (idxF _ r.at_)).rates = _
  rw [this]
  rfl
/-! Two own lists. -/
theorem info_tariff : (Try.prog.info? 29).map (fun i => (i.zero, i.size, i.bytes)) = some (some (.agg #[.int .i64 0, .slice none 0 0]), 2, 32) := by kernel_rfl
theorem one_tf (h : TF) : ∀ u ∈ h.enc, u.oneCell' = true := by intro u hu; simp [TF.enc] at hu; rcases hu with rfl | rfl <;> rfl
abbrev rate7 (l : Int) : RT := ⟨l, 777, 0, ⟨none, 0, 0⟩, []⟩
abbrev OwnT (w : World) (base : Nat) (s : Sl) (xs : List TF) : Prop := Own w base 29 2 TF.enc s xs
structure Two (xs : List TF) (lf : Int) (base : Nat) (w : World) (vb vo : Sl) (bs os : List TF) : Prop where
  lo : base ≤ w.heap.size
  b : OwnT w base vb bs
  o : OwnT w base vo os
  ne : ∀ g, vb.val.ownBlock = some g → vo.val.ownBlock ≠ some g
  bx : ∀ y ∈ bs, y ∈ xs
  ox : ∀ y ∈ os, y ∈ xs ∨ (y.rates = [rate7 lf] ∧ Rd w RT.enc y.sr [rate7 lf] ∧ Far base w.heap.size vb y.sr ∧ Far base w.heap.size vo y.sr)
theorem Two.nil (xs : List TF) (lf : Int) (w : World) : Two xs lf w.heap.size w ⟨none, 0, 0⟩ ⟨none, 0, 0⟩ [] [] :=
  ⟨Nat.le_refl _, Own.nil_ _ _ _ _ _, Own.nil_ _ _ _ _ _, (fun g h => nomatch h), (fun y hy => nomatch hy), (fun y hy => nomatch hy)⟩
theorem rd_far {w w' : World} {s : Sl} {ys : List RT} {base : Nat} {v : Sl} (h : Rd w RT.enc s ys) (hf : Far base w.heap.size v s) (hz : w.heap.size ≤ w'.heap.size) (hb : ∀ k, k < w.heap.size → v.val.ownBlock ≠ some k → w'.heap[k]? = w.heap[k]?) : Rd w' RT.enc s ys :=
  rd_same h hz (fun a ha hl => hb _ hl (hf a ha).2.2)
theorem Far.up {base n n' : Nat} {v s : Sl} (h : Far base n v s) (hn : n ≤ n') : Far base n' v s := fun a ha => ⟨(h a ha).1, Nat.lt_of_lt_of_le (h a ha).2.1 hn, (h a ha).2.2⟩
theorem Far.turn {base n n' : Nat} {v v' s : Sl} (h : Far base n v s) (hn : n < n') (hp : v'.val.ownBlock = v.val.ownBlock ∨ v'.val.ownBlock = some n) : Far base n' v' s := fun a ha => ⟨(h a ha).1, by have := (h a ha).2.1; omega, by
  rcases hp with e | e <;> rw [e]
  · exact (h a ha).2.2
  · intro e2; have := Option.some.inj e2; have := (h a ha).2.1; omega⟩
theorem Two.alloc {xs : List TF} {lf : Int} {base : Nat} {w : World} {vb vo : Sl} {bs os : List TF} (h : Two xs lf base w vb vo bs os) (o : Obj) : Two xs lf base (w.alloc o) vb vo bs os := by
  refine ⟨by simp; have := h.lo; omega, h.b.alloc o, h.o.alloc o, h.ne, h.bx, fun y hy => ?_⟩
  rcases h.ox y hy with h1 | ⟨h1, h2, h3, h4⟩
  · exact .inl h1
  · exact .inr ⟨h1, rd_far h2 h3 (by simp) (fun k hk _ => by rw [alloc_block_if, if_neg (by omega)]), h3.up (by simp), h4.up (by simp)⟩
theorem Two.toW {xs : List TF} {lf : Int} {base : Nat} {w w' : World} {vb vo : Sl} {bs os : List TF} (h : Two xs lf base w vb vo bs os) (hb : Below w.heap.size w w') : Two xs lf base w' vb vo bs os := by
  refine ⟨Nat.le_trans h.lo hb.size, h.b.same (fun g hg => hb.block g (h.b.block g hg).2), h.o.same (fun g hg => hb.block g (h.o.block g hg).2), h.ne, h.bx, fun y hy => ?_⟩
  rcases h.ox y hy with h1 | ⟨h1, h2, h3, h4⟩
  · exact .inl h1
  · exact .inr ⟨h1, h2.toW hb, h3.up hb.size, h4.up hb.size⟩
theorem Two.lenB {xs : List TF} {lf : Int} {base : Nat} {w : World} {vb vo : Sl} {bs os : List TF} {t : Int} {k n : Nat} (h : Two xs lf base w vb vo bs os) (hb : bs = upTo t (xs.take k)) (hk : k ≤ n) : vb.n ≤ n := by
  have h1 : bs.length = vb.n := h.b.len
  have h2 : bs.length ≤ (xs.take k).length := by rw [hb]; exact List.length_filter_le _ _
  rw [List.length_take] at h2
  omega
theorem Two.lenO {xs : List TF} {lf f : Int} {base : Nat} {w : World} {vb vo : Sl} {bs os : List TF} {k n : Nat} (h : Two xs lf base w vb vo bs os) (ho : Othr f xs k os) (hk : k ≤ n) (hn : n ≤ xs.length) : vo.n ≤ n := by
  have h1 : os.length = vo.n := h.o.len
  have h2 := ho.len (by omega)
  omega
theorem far_new {base n : Nat} {v : Sl} {m c : Nat} (hb : base ≤ n) (hv : ∀ g, v.val.ownBlock = some g → g < n) : Far base (n + 1) v ⟨some ⟨n, 0, none⟩, m, c⟩ := fun a ha => by
  cases ha
  exact ⟨hb, by simp, fun e => by have := hv _ e; simp at this⟩
theorem Two.pushB {xs : List TF} {lf : Int} {base : Nat} {w w' : World} {vb vo vb' : Sl} {bs os : List TF} {y : TF} (h : Two xs lf base w vb vo bs os) (hv : OwnT w' base vb' (bs ++ [y])) (hg : w.grownBy w' vb.val.ownBlock)
    (hp : vb'.val.ownBlock = vb.val.ownBlock ∨ vb'.val.ownBlock = some w.heap.size) (hy : y ∈ xs) : Two xs lf base w' vb' vo (bs ++ [y]) os := by
  have hz : w.heap.size ≤ w'.heap.size := hg.size
  have hkeep : ∀ k, k < w.heap.size → vb.val.ownBlock ≠ some k → w'.heap[k]? = w.heap[k]? := fun k hk hn => hg.block k hk (fun e => hn e.symm)
  refine ⟨by have := h.lo; omega, hv, h.o.same (fun g hg2 => hkeep g (h.o.block g hg2).2 (fun e => h.ne g e hg2)), ?_, ?_, fun z hz2 => ?_⟩
  · intro g hg2 he
    rcases hp with e | e
    · exact h.ne g (by rw [← e]; exact hg2) he
    · rw [hg2] at e; have := Option.some.inj e; have := (h.o.block g he).2; omega
  · intro z hz2
    rcases List.mem_append.1 hz2 with h1 | h1
    · exact h.bx z h1
    · rw [List.mem_singleton.1 h1]; exact hy
  · rcases h.ox z hz2 with h1 | ⟨h1, h2, h3, h4⟩
    · exact .inl h1
    · refine .inr ⟨h1, rd_far h2 h3 hz hkeep, fun a ha => ⟨(h3 a ha).1, by have := (h3 a ha).2.1; omega, ?_⟩, h4.up hz⟩
      rcases hp with e | e <;> rw [e]
      · exact (h3 a ha).2.2
      · intro e2; have := Option.some.inj e2; have := (h3 a ha).2.1; omega
theorem Two.pushO {xs : List TF} {lf : Int} {base : Nat} {w w' : World} {vb vo vo' : Sl} {bs os : List TF} {y : TF} (h : Two xs lf base w vb vo bs os) (hv : OwnT w' base vo' (os ++ [y])) (hg : w.grownBy w' vo.val.ownBlock)
    (hp : vo'.val.ownBlock = vo.val.ownBlock ∨ vo'.val.ownBlock = some w.heap.size)
    (hy : y ∈ xs ∨ (y.rates = [rate7 lf] ∧ Rd w RT.enc y.sr [rate7 lf] ∧ Far base w.heap.size vb y.sr ∧ Far base w.heap.size vo y.sr)) : Two xs lf base w' vb vo' bs (os ++ [y]) := by
  have hz : w.heap.size ≤ w'.heap.size := hg.size
  have hkeep : ∀ k, k < w.heap.size → vo.val.ownBlock ≠ some k → w'.heap[k]? = w.heap[k]? := fun k hk hn => hg.block k hk (fun e => hn e.symm)
  have key : ∀ z : TF, (z ∈ xs ∨ (z.rates = [rate7 lf] ∧ Rd w RT.enc z.sr [rate7 lf] ∧ Far base w.heap.size vb z.sr ∧ Far base w.heap.size vo z.sr)) →
      (z ∈ xs ∨ (z.rates = [rate7 lf] ∧ Rd w' RT.enc z.sr [rate7 lf] ∧ Far base w'.heap.size vb z.sr ∧ Far base w'.heap.size vo' z.sr)) := by
    intro z h0
    rcases h0 with h1 | ⟨h1, h2, h3, h4⟩
    · exact .inl h1
    · refine .inr ⟨h1, rd_far h2 h4 hz hkeep, h3.up hz, fun a ha => ⟨(h4 a ha).1, by have := (h4 a ha).2.1; omega, ?_⟩⟩
      rcases hp with e | e <;> rw [e]
      · exact (h4 a ha).2.2
      · intro e2; have := Option.some.inj e2; have := (h4 a ha).2.1; omega
  refine ⟨by have := h.lo; omega, h.b.same (fun g hg2 => hkeep g (h.b.block g hg2).2 (h.ne g hg2)), hv, ?_, h.bx, fun z hz2 => ?_⟩
  · intro g hg2 he
    rcases hp with e | e
    · exact h.ne g hg2 (by rw [← e]; exact he)
    · rw [he] at e; have := Option.some.inj e; have := (h.b.block g hg2).2; omega
  · rcases List.mem_append.1 hz2 with h1 | h1
    · exact key z (h.ox z h1)
    · rw [List.mem_singleton.1 h1]; exact key y hy
theorem Two.push7 {xs : List TF} {lf f : Int} {base : Nat} {w w' : World} {vb vo vo' : Sl} {bs os : List TF} {t1 : TypeId} {o2 : Obj} (h : Two xs lf base w vb vo bs os)
    (hv : OwnT w' base vo' (os ++ [⟨f, ⟨some ⟨w.heap.size, 0, none⟩, 1, 1⟩, [rate7 lf]⟩])) (hg : ((w.alloc (.cells #[.int .i64 lf, .int .i64 777, .int .i64 0, .slice none 0 0] t1)).alloc o2).grownBy w' vo.val.ownBlock)
    (hp : vo'.val.ownBlock = vo.val.ownBlock ∨ vo'.val.ownBlock = some ((w.alloc (.cells #[.int .i64 lf, .int .i64 777, .int .i64 0, .slice none 0 0] t1)).alloc o2).heap.size) :
    Two xs lf base w' vb vo' bs (os ++ [⟨f, ⟨some ⟨w.heap.size, 0, none⟩, 1, 1⟩, [rate7 lf]⟩]) := by
  have h1 : Rd (w.alloc (.cells #[.int .i64 lf, .int .i64 777, .int .i64 0, .slice none 0 0] t1)) RT.enc ⟨some ⟨w.heap.size, 0, none⟩, 1, 1⟩ [rate7 lf] := rd_new 4 (fun _ => rfl) [_] rfl rfl rfl (by simp [maxLen])
  exact ((h.alloc _).alloc _).pushO hv hg hp (.inr ⟨rfl, h1.toW (Below.alloc (Below.refl _ _) (Nat.le_refl _) _), (far_new h.lo (fun g hg => (h.b.block g hg).2)).up (by simp), (far_new h.lo (fun g hg => (h.o.block g hg).2)).up (by simp)⟩)
theorem Two.tfsB {xs : List TF} {lf : Int} {base : Nat} {w : World} {vb vo : Sl} {bs os : List TF} (h : Two xs lf base w vb vo bs os) (hx : ∀ y ∈ xs, y.at_ w) : TFs w vb bs := ⟨h.b.rd (fun _ => rfl), fun y hy => hx y (h.bx y hy)⟩
theorem Two.tfsO {xs : List TF} {lf : Int} {base : Nat} {w : World} {vb vo : Sl} {bs os : List TF} (h : Two xs lf base w vb vo bs os) (hx : ∀ y ∈ xs, y.at_ w) : TFs w vo os := ⟨h.o.rd (fun _ => rfl), fun y hy => by
  rcases h.ox y hy with h1 | ⟨h1, h2, -⟩
  · exact hx y h1
  · exact ⟨by rw [h1]; exact h2, fun r hr => by rw [h1] at hr; rw [List.mem_singleton.1 hr]; exact Rd.nil_ _ _⟩⟩
theorem Two.goodB {xs : List TF} {lf : Int} {base : Nat} {w : World} {vb vo : Sl} {bs os : List TF} (h : Two xs lf base w vb vo bs os) (hx : goodTs xs) : goodTs bs := fun y hy => hx y (h.bx y hy)
theorem Two.goodO {xs : List TF} {lf : Int} {base : Nat} {w : World} {vb vo : Sl} {bs os : List TF} (h : Two xs lf base w vb vo bs os) (hx : goodTs xs) : goodTs os := fun y hy => by
  rcases h.ox y hy with h1 | ⟨h1, -⟩
  · exact hx y h1
  · intro r hr; rw [h1] at hr; rw [List.mem_singleton.1 hr]; constructor <;> simp
end Go.Proofs.Ytidefepnkhkkiaa
