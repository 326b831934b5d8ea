/- How a try reads. -/
import Derived.Test.YtmokmndlkalplaaOpenV
namespace Go.Proofs.Ytmokmndlkalplaa
set_option linter.unusedSimpArgs false
set_option linter.unusedVariables false
open Go.RowKit Go.ChangeShapes Go.WideShapes Go.ChangeAt Go.Deep
structure TryV where
  operator : Int
  lift : Int
  at_ : Int
abbrev TryV.val (x : TryV) : Value := .agg #[.int .i64 x.operator, .int .i64 x.lift, .int .i64 x.at_]
def TryV.enc (x : TryV) : List Value := [.int .i64 x.operator, .int .i64 x.lift, .int .i64 x.at_]
def TryV.wf (x : TryV) : Prop := (Lit.int .i64 x.operator).wf = true ∧ (Lit.int .i64 x.lift).wf = true ∧ (Lit.int .i64 x.at_).wf = true
theorem o_try : OpensTo Try.prog 46 TryV.enc (fun _ m => m.wf) := fun enc w fuel cs x h => by
  obtain ⟨xs, n, _, _, hl, hxl, hf⟩ := DataW.trod_struct Try.underlying46 h
  have hl3 : cs.length = 3 := hl.trans (by kernel_rfl)
  obtain ⟨a0, e0, w0⟩ := opens_field hf hxl 0 _ rfl o_int 1 C_int
  obtain ⟨a1, e1, w1⟩ := opens_field hf hxl 1 _ rfl o_int 1 C_int
  obtain ⟨a2, e2, w2⟩ := opens_field hf hxl 2 _ rfl o_int 1 C_int
  match cs, hl3 with
  | [c0, c1, c2], _ =>
    simp at e0 e1 e2
    subst e0 e1 e2
    exact ⟨⟨a0, a1, a2⟩, rfl, w0, w1, w2⟩
theorem o_tries : OpensTo Try.prog 41 (fun x : Sl × List TryV => [.slice x.1.a x.1.n x.1.c]) (fun w x => Rd w TryV.enc x.1 x.2 ∧ ∀ a ∈ x.2, a.wf) :=
  opens_slice Try.underlying41 o_try 3 (by kernel_rfl) (by decide) (fun _ => rfl)
theorem Rd.try_ {w : World} {s : Sl} {xs : List TryV} (h : Rd w TryV.enc s xs) {k : Nat} (hk : k < s.n) : ∃ b off x, s.a = some ⟨b, off, none⟩ ∧ b < w.heap.size ∧ Hid (xs.drop k = x :: xs.drop (k + 1)) ∧ Hid (xs[k]? = some x) ∧
    w.cell? ⟨b, off + k * 3, none⟩ = some (.int .i64 x.operator) ∧ w.cell? ⟨b, off + k * 3 + 1, none⟩ = some (.int .i64 x.lift) ∧ w.cell? ⟨b, off + k * 3 + 2, none⟩ = some (.int .i64 x.at_) := by
  obtain ⟨b, off, x, e, hb, h1, h2, hc⟩ := h.step hk
  exact ⟨b, off, x, e, hb, h1, h2, hc 0 _ rfl, hc 1 _ rfl, hc 2 _ rfl⟩
end Go.Proofs.Ytmokmndlkalplaa
