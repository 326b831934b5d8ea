/- A region that draws its order: a value is made (k1), a call takes it (k2), and another value is made (k3) before, between or behind: three orders, ONE rest. -/
import Derived.Test.YtiejgcbblljpbaaOrdApp
namespace Go.Proofs.Ytiejgcbblljpbaa
set_option linter.unusedSimpArgs false
set_option linter.unusedVariables false
open Go.RowKit
section
variable {P : Program} {Q : Exit → Act → World → Prop} {S : World → Prop}
/-- What one operation does at act a: behind it d holds a value that meets F. -/
def Step (P : Program) (Q : Exit → Act → World → Prop) (S : World → Prop) (l : List Oper) (o : Oper) (a : Act) (d : Tmp) (w : World) (F : Value → World → Prop) : Prop :=
  ∀ K : Act → World → Prop, (∀ v w', S w' → Below w.heap.size w w' → F v w' → K (a.put (some d) v) w') → if Region.wanted o (yielded l.toArray a.tmps) = true then o.wp P a w K Q else K (a.put o.dst undef) w
theorem put_comm (a : Act) {i j : Tmp} (h : i ≠ j) (u v : Value) : (a.put (some i) u).put (some j) v = (a.put (some j) v).put (some i) u := by
  simp [Act.put, Array.setIfInBounds_comm _ _ h]
theorem set_comm (l : Array Bool) {i j : Nat} (h : i ≠ j) : (l.setIfInBounds i true).setIfInBounds j true = (l.setIfInBounds j true).setIfInBounds i true := Array.setIfInBounds_comm _ _ h
theorem wpAnyH_fork {l r1 r2 r3 : List Oper} {fuel : Nat} {listed : Array Bool} {a : Act} {w : World} (k1 k2 k3 : Nat) {o1 o2 o3 : Oper} (d1 d2 d3 : Tmp)
    (h1 : l.drop k1 = o1 :: r1) (h2 : l.drop k2 = o2 :: r2) (h3 : l.drop k3 = o3 :: r3) (n13 : d1 ≠ d3) (n23 : d2 ≠ d3) (c13 : k1 ≠ k3) (c23 : k2 ≠ k3)
    (q1 : Region.ready .any l.toArray listed = [k1, k3]) (q2 : Region.ready .any l.toArray (listed.setIfInBounds k1 true) = [k2, k3]) (q3 : Region.ready .any l.toArray (listed.setIfInBounds k3 true) = [k1])
    (q4 : Region.ready .any l.toArray ((listed.setIfInBounds k1 true).setIfInBounds k2 true) = [k3]) (q5 : Region.ready .any l.toArray ((listed.setIfInBounds k1 true).setIfInBounds k3 true) = [k2]) (q6 : Region.ready .any l.toArray ((listed.setIfInBounds k3 true).setIfInBounds k1 true) = [k2])
    (F1 F2 F3 : Value → World → Prop) (m1 : ∀ v w w', Below w.heap.size w w' → F1 v w → F1 v w') (m2 : ∀ v w w', Below w.heap.size w w' → F2 v w → F2 v w') (m3 : ∀ v w w', Below w.heap.size w w' → F3 v w → F3 v w') (hS : S w)
    (b1 : ∀ w', S w' → Step P Q S l o1 a d1 w' F1) (b1' : ∀ z w', S w' → Step P Q S l o1 (a.put (some d3) z) d1 w' F1)
    (b3 : ∀ w', S w' → Step P Q S l o3 a d3 w' F3) (b3' : ∀ z w', S w' → Step P Q S l o3 (a.put (some d1) z) d3 w' F3) (b3'' : ∀ z v w', S w' → Step P Q S l o3 ((a.put (some d1) z).put (some d2) v) d3 w' F3)
    (b2 : ∀ z w', S w' → F1 z w' → Step P Q S l o2 (a.put (some d1) z) d2 w' F2) (b2' : ∀ z y w', S w' → F1 z w' → Step P Q S l o2 ((a.put (some d1) z).put (some d3) y) d2 w' F2)
    (rest : ∀ z v y w', S w' → F2 v w' → F3 y w' → wpAnyH P .any l.toArray Q S fuel (((listed.setIfInBounds k1 true).setIfInBounds k2 true).setIfInBounds k3 true) (((a.put (some d1) z).put (some d2) v).put (some d3) y) w') :
    wpAnyH P .any l.toArray Q S (fuel + 1 + 1 + 1) listed a w := by
  refine wpAnyH_two k1 k3 q1 ?_ ?_
  · refine wpOp_at h1 (fun K hK => b1 w hS K (fun z w1 s1 g1 f1 => hK _ _ s1 ?_))
    refine wpAnyH_two k2 k3 q2 ?_ ?_
    · refine wpOp_at h2 (fun K hK => b2 z w1 s1 f1 K (fun v w2 s2 g2 f2 => hK _ _ s2 ?_))
      refine wpAnyH_sole k3 h3 q4 (fun K hK => b3'' z v w2 s2 K (fun y w3 s3 g3 f3 => hK _ _ s3 ?_))
      exact rest z v y w3 s3 (m2 _ _ _ g3 f2) f3
    · refine wpOp_at h3 (fun K hK => b3' z w1 s1 K (fun y w2 s2 g2 f3 => hK _ _ s2 ?_))
      refine wpAnyH_sole k2 h2 q5 (fun K hK => b2' z y w2 s2 (m1 _ _ _ g2 f1) K (fun v w3 s3 g3 f2 => hK _ _ s3 ?_))
      rw [set_comm _ (show k3 ≠ k2 from fun e => c23 e.symm), put_comm _ (show d3 ≠ d2 from fun e => n23 e.symm)]
      exact rest z v y w3 s3 f2 (m3 _ _ _ g3 f3)
  · refine wpOp_at h3 (fun K hK => b3 w hS K (fun y w1 s1 g1 f3 => hK _ _ s1 ?_))
    refine wpAnyH_sole k1 h1 q3 (fun K hK => b1' y w1 s1 K (fun z w2 s2 g2 f1 => hK _ _ s2 ?_))
    refine wpAnyH_sole k2 h2 q6 (fun K hK => ?_)
    have b := b2' z y w2 s2 f1
    rw [put_comm _ n13] at b
    refine b K (fun v w3 s3 g3 f2 => hK _ _ s3 ?_)
    have e : ((listed.setIfInBounds k3 true).setIfInBounds k1 true).setIfInBounds k2 true = ((listed.setIfInBounds k1 true).setIfInBounds k2 true).setIfInBounds k3 true := by
      rw [set_comm _ (show k3 ≠ k1 from fun e => c13 e.symm), set_comm _ (show k3 ≠ k2 from fun e => c23 e.symm)]
    rw [e, put_comm a (show d3 ≠ d1 from fun e => n13 e.symm), put_comm _ (show d3 ≠ d2 from fun e => n23 e.symm)]
    exact rest z v y w3 s3 f2 (m3 _ _ _ (g2.trans (g3.mono g2.size)) f3)
end
end Go.Proofs.Ytiejgcbblljpbaa
