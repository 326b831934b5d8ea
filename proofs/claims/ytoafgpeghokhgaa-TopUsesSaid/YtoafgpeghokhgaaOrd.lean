/- A region that draws its order, walked in ONE order of my own choosing: what yields one value in every world of a class is taken first; a call whose result hangs on the world is taken where nothing else may come up. -/
import Derived.Test.YtoafgpeghokhgaaLet
import Derived.OrdersHeld
namespace Go.Proofs.Ytoafgpeghokhgaa
set_option linter.unusedSimpArgs false
set_option linter.unusedVariables false
open Go.RowKit

def plainB : Op → Bool
  | .move _ | .assign _ | .pick .. | .load .. | .binOp .. | .unOp .. | .fieldAddr .. | .field .. | .indexAddr .. | .index .. | .extract .. | .slice .. | .convert .. => true
  | _ => false
theorem then_value {s : Sem Value} {P : Program} {w w' : World} {n : Next} (h : ((do pure (Next.value (← s))) : Sem Next).run P w = .ok n w') : ∃ v, n = .value v := by
  simp only [Sem.run_bind] at h
  cases hs : s.run P w with
  | ok a w1 => rw [hs] at h; simp at h; exact ⟨a, h.1.symm⟩
  | halt x w1 => rw [hs] at h; simp at h
theorem plain_ok {o : Oper} (h : plainB o.op = true) {ρ : Operand → Value} {P : Program} {w w' : World} {n : Next} (hr : (execOp ρ o).run P w = .ok n w') : ∃ v, n = .value v := by
  obtain ⟨dst, op, type, pos, after, guard⟩ := o
  cases op <;> simp only [plainB] at h <;> first | exact absurd h (by decide) | (unfold execOp at hr; exact then_value hr) | (unfold execOp at hr; simp at hr; exact ⟨_, hr.1.symm⟩) | skip
  rename_i c x y
  unfold execOp at hr
  simp only [Sem.run_bind] at hr
  cases hs : (asBool (ρ c)).run P w with
  | ok a w1 => rw [hs] at hr; simp at hr; exact ⟨_, hr.1.symm⟩
  | halt x w1 => rw [hs] at hr; simp at hr

section
variable {P : Program} {ops : Array Oper} {Q : Exit → Act → World → Prop} {S : World → Prop}
/-- The numbers ks may be taken first, one behind the other. -/
def takesB (ops : Array Oper) : List Nat → Array Bool → Bool
  | [], _ => true
  | k :: r, listed => (Region.ready .any ops listed).contains k && Region.free .any ops listed k && takesB ops r (listed.setIfInBounds k true)
def listAll : List Nat → Array Bool → Array Bool
  | [], listed => listed
  | k :: r, listed => listAll r (listed.setIfInBounds k true)
theorem wpAnyH_quiet (hs : Region.noSelect ops = true) (hQ : ∀ c (a : Act) (d : Tmp) v w, Q (.panic c) (a.put (some d) v) w → Q (.panic c) a w) :
    ∀ (ks : List Nat) (l : List Oper) (fuel : Nat) (listed : Array Bool) (a : Act) (w : World), ks.map (fun k => ops[k]?) = l.map some → l.all (fun o => plainB o.op) = true → takesB ops ks listed = true → S w →
      wpQuiet P ops S (fun a' => wpAnyH P .any ops Q S fuel (listAll ks listed) a' w) l a → wpAnyH P .any ops Q S (fuel + ks.length) listed a w
  | [], [], _, _, _, _, _, _, _, _, h => h
  | [], _ :: _, _, _, _, _, he, _, _, _, _ => by cases he
  | _ :: _, [], _, _, _, _, he, _, _, _, _ => by cases he
  | k :: ks, o :: l, fuel, listed, a, w, he, hp, ht, hS, h => by
    simp only [List.map_cons, List.cons.injEq] at he
    simp only [List.all_cons, Bool.and_eq_true] at hp
    simp only [takesB, Bool.and_eq_true] at ht
    obtain ⟨⟨h1, h2⟩, h3⟩ := ht
    have key : ∃ v, YieldsIf P ops S o v a ∧ wpQuiet P ops S (fun a' => wpAnyH P .any ops Q S fuel (listAll ks (listed.setIfInBounds k true)) a' w) l (a.put o.dst v) := by
      unfold wpQuiet at h
      split at h
      · rename_i hw
        obtain ⟨v, hv, hn⟩ := h
        refine ⟨v, .inl ⟨hw, fun w' hw' => ?_⟩, hn⟩
        have hq := hv w' hw'
        unfold Oper.quietAt at hq
        generalize hr : (execOp a.eval o).run P w' = r at hq
        cases r with
        | ok n w1 =>
          obtain ⟨u, rfl⟩ := plain_ok hp.1 hr
          simp only [Oper.quietUpon] at hq
          rw [hq.1, hq.2]
        | halt x w1 => simp only [Oper.quietUpon] at hq
      · rename_i hw
        exact ⟨undef, .inr ⟨by simpa using hw, rfl⟩, h⟩
    obtain ⟨v, hy, hn⟩ := key
    have := wpAnyH_quiet hs hQ ks l fuel (listed.setIfInBounds k true) (a.put o.dst v) w he.2 hp.2 h3 hS hn
    exact wpAnyH_take he.1 hs h2 h1 (fun c a w hh => by cases hd : o.dst with | none => rw [hd] at hh; exact hh | some d => rw [hd] at hh; exact hQ c a d _ w hh) hy hS this
theorem at_of_drop {l : List Oper} {k : Nat} {o : Oper} {rest : List Oper} (h : l.drop k = o :: rest) : l.toArray[k]? = some o := by
  have e : (l.drop k)[0]? = l[k + 0]? := List.getElem?_drop
  rw [h] at e
  have e2 : l[k]? = some o := e.symm
  rw [List.getElem?_toArray]
  exact e2
/-- One plain operation, taken first. -/
theorem wpAnyH_one {l rest : List Oper} (k : Nat) {o : Oper} {fuel : Nat} {listed : Array Bool} {a : Act} {w : World} (ho : l.drop k = o :: rest) (hp : plainB o.op = true) (hs : Region.noSelect l.toArray = true) (ht : takesB l.toArray [k] listed = true)
    (hQ : ∀ c (a : Act) (d : Tmp) v w, Q (.panic c) (a.put (some d) v) w → Q (.panic c) a w) (hS : S w) (h : wpQuiet P l.toArray S (fun a' => wpAnyH P .any l.toArray Q S fuel (listed.setIfInBounds k true) a' w) [o] a) : wpAnyH P .any l.toArray Q S (fuel + 1) listed a w :=
  wpAnyH_quiet hs hQ [k] [o] fuel listed a w (by simp only [List.map_cons, List.map_nil, at_of_drop ho]) (by simp [hp]) ht hS h
/-- Number k alone may come up: it is carried out in the world at hand; behind it the class is shown anew. -/
theorem wpAnyH_sole {l rest : List Oper} (k : Nat) {o : Oper} {fuel : Nat} {listed : Array Bool} {a : Act} {w : World} (ho : l.drop k = o :: rest) (hr : Region.ready .any l.toArray listed = [k])
    (h : ∀ K : Act → World → Prop, (∀ a' w', S w' → wpAnyH P .any l.toArray Q S fuel (listed.setIfInBounds k true) a' w' → K a' w') → if Region.wanted o (yielded l.toArray a.tmps) = true then o.wp P a w K Q else K (a.put o.dst undef) w) :
    wpAnyH P .any l.toArray Q S (fuel + 1) listed a w :=
  wpAnyH_all hr (by simp) fun i hi => by
    obtain rfl : i = k := by simpa using hi
    have h1 := h (fun a' w' => S w' ∧ wpAnyH P .any l.toArray Q S fuel (listed.setIfInBounds i true) a' w') (fun _ _ hs hw => ⟨hs, hw⟩)
    unfold wpOp
    simp only [at_of_drop ho]
    split
    · rename_i hw; rw [if_pos hw] at h1; exact .inl h1
    · rename_i hw; rw [if_neg hw] at h1; exact h1
/-- Either of two may come up. -/
theorem wpAnyH_two {ops : Array Oper} (k1 k2 : Nat) {fuel : Nat} {listed : Array Bool} {a : Act} {w : World} (hr : Region.ready .any ops listed = [k1, k2])
    (h1 : wpOp P ops Q k1 (fun a' w' => S w' ∧ wpAnyH P .any ops Q S fuel (listed.setIfInBounds k1 true) a' w') a w) (h2 : wpOp P ops Q k2 (fun a' w' => S w' ∧ wpAnyH P .any ops Q S fuel (listed.setIfInBounds k2 true) a' w') a w) :
    wpAnyH P .any ops Q S (fuel + 1) listed a w :=
  wpAnyH_all hr (by simp) fun i hi => by
    simp only [List.mem_cons, List.not_mem_nil, or_false] at hi
    rcases hi with rfl | rfl
    · exact h1
    · exact h2
theorem wpOp_at {l rest : List Oper} {k : Nat} {o : Oper} {a : Act} {w : World} {F : Act → World → Prop} (ho : l.drop k = o :: rest)
    (h : ∀ K : Act → World → Prop, (∀ a' w', S w' → F a' w' → K a' w') → if Region.wanted o (yielded l.toArray a.tmps) = true then o.wp P a w K Q else K (a.put o.dst undef) w) : wpOp P l.toArray Q k (fun a' w' => S w' ∧ F a' w') a w := by
  have h1 := h (fun a' w' => S w' ∧ F a' w') (fun _ _ hs hw => ⟨hs, hw⟩)
  unfold wpOp
  simp only [at_of_drop ho]
  split
  · rename_i hw; rw [if_pos hw] at h1; exact .inl h1
  · rename_i hw; rw [if_neg hw] at h1; exact h1
theorem wp_region_ord {id : Nat} {l : List Oper} {a : Act} {w : World} (hm : P.follows .mixedOrders = true)
    (h : ∀ x, Below w.heap.size w x → wpAnyH P .any l.toArray Q (fun w' => ∃ x, w' = Over w x) l.length (Array.replicate l.length false) a x) : (Code.region id l.toArray true).wp P Q a w :=
  wp_region_held hm (by simpa using h { w with drawn := w.drawn + 1 } ⟨rfl, rfl, rfl, Nat.le_refl _, fun _ _ => rfl⟩)
end
end Go.Proofs.Ytoafgpeghokhgaa
