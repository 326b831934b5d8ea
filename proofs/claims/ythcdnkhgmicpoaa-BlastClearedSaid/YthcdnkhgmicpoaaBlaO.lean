/- How missions read. -/
import Derived.Test.YthcdnkhgmicpoaaOpen
import Derived.Test.YthcdnkhgmicpoaaBlaAl
namespace Go.Proofs.Ythcdnkhgmicpoaa
set_option linter.unusedSimpArgs false
set_option linter.unusedVariables false
open Go.RowKit Go.ChangeShapes Go.WideShapes Go.ChangeAt Go.Deep
abbrev okI (_ : World) (n : Int) : Prop := (Lit.int .i64 n).wf = true
theorem o_int : OpensTo Try.prog 3 (fun n : Int => [.int .i64 n]) okI := opens_int Try.underlying3
theorem C_int : Try.prog.cellsOf 3 = 1 := by kernel_rfl
def encW (x : Int × Int) : List Value := [.int .i64 x.1, .int .i64 x.2]
set_option maxRecDepth 100000 in
theorem o_interval : OpensTo Try.prog 28 encW (fun _ x => True) := fun enc w fuel cs x h => by
  obtain ⟨xs, n, _, _, hl, hxl, hf⟩ := DataW.trod_struct Try.underlying28 h
  have hl2 : cs.length = 2 := hl.trans (by kernel_rfl)
  obtain ⟨a, ea, wa⟩ := opens_field hf hxl 0 _ rfl o_int 1 C_int
  obtain ⟨b, eb, wb⟩ := opens_field hf hxl 1 _ rfl o_int 1 C_int
  match cs, hl2 with
  | [c0, c1], _ =>
    simp at ea eb
    subst ea eb
    exact ⟨(a, b), rfl, trivial⟩
set_option maxRecDepth 100000 in
theorem o_mission : OpensTo Try.prog 30 MS.enc (fun _ _ => True) := fun enc w fuel cs x h => by
  obtain ⟨xs, n, _, _, hl, hxl, hf⟩ := DataW.trod_struct Try.underlying30 h
  have hl7 : cs.length = 7 := hl.trans (by kernel_rfl)
  obtain ⟨a0, e0, w0⟩ := opens_field hf hxl 0 _ rfl o_int 1 C_int
  obtain ⟨a1, e1, w1⟩ := opens_field hf hxl 1 _ rfl o_int 1 C_int
  obtain ⟨a2, e2, w2⟩ := opens_field hf hxl 2 _ rfl o_int 1 C_int
  obtain ⟨a3, e3, w3⟩ := opens_field hf hxl 3 _ rfl o_int 1 C_int
  obtain ⟨a4, e4, w4⟩ := opens_field hf hxl 4 _ rfl o_int 1 C_int
  obtain ⟨⟨a5, a6⟩, e5, w5⟩ := opens_field hf hxl 5 _ rfl o_interval 2 (by kernel_rfl)
  match cs, hl7 with
  | [c0, c1, c2, c3, c4, c5, c6], _ =>
    simp [encW] at e0 e1 e2 e3 e4 e5
    obtain ⟨e5, e6⟩ := e5
    subst e0 e1 e2 e3 e4 e5 e6
    exact ⟨⟨a0, a1, a2, a3, a4, a5, a6⟩, rfl, trivial⟩
theorem o_missions : OpensTo Try.prog 22 (fun x : Sl × List MS => [.slice x.1.a x.1.n x.1.c]) (fun w x => Rd w MS.enc x.1 x.2 ∧ ∀ a ∈ x.2, True) :=
  opens_slice Try.underlying22 o_mission 7 (by kernel_rfl) (by decide) (fun _ => rfl)
end Go.Proofs.Ythcdnkhgmicpoaa
