/- How closures, keys and maps read. -/
import Derived.Test.YtpckebhmdjhniaaOpen
import Derived.Test.YtpckebhmdjhniaaCloM
namespace Go.Proofs.Ytpckebhmdjhniaa
set_option linter.unusedSimpArgs false
set_option linter.unusedVariables false
open Go.RowKit Go.ChangeShapes Go.WideShapes Go.ChangeAt Go.Deep
abbrev okI (_ : World) (n : Int) : Prop := (Lit.int .i64 n).wf = true
theorem o_int : OpensTo Try.prog 3 (fun n : Int => [.int .i64 n]) okI := opens_int Try.underlying3
theorem C_int : Try.prog.cellsOf 3 = 1 := by kernel_rfl
theorem o_ints : OpensTo Try.prog 39 (fun x : Sl × List Int => [.slice x.1.a x.1.n x.1.c]) (fun w x => Rd w encI x.1 x.2 ∧ ∀ a ∈ x.2, okI w a) :=
  opens_slice Try.underlying39 o_int 1 C_int (by decide) (fun _ => rfl)
set_option maxRecDepth 100000 in
theorem o_closure : OpensTo Try.prog 28 CV.enc (fun _ _ => True) := fun enc w fuel cs x h => by
  obtain ⟨xs, n, _, _, hl, hxl, hf⟩ := DataW.trod_struct Try.underlying28 h
  have hl4 : cs.length = 4 := hl.trans (by kernel_rfl)
  obtain ⟨a, ea, wa⟩ := opens_field hf hxl 0 _ rfl o_int 1 C_int
  obtain ⟨b, eb, wb⟩ := opens_field hf hxl 1 _ rfl o_int 1 C_int
  obtain ⟨c, ec, wc⟩ := opens_field hf hxl 2 _ rfl o_int 1 C_int
  obtain ⟨d, ed, wd⟩ := opens_field hf hxl 3 _ rfl o_int 1 C_int
  match cs, hl4 with
  | [c0, c1, c2, c3], _ =>
    simp at ea eb ec ed
    subst ea eb ec ed
    exact ⟨⟨a, b, c, d⟩, rfl, trivial⟩
theorem o_closures : OpensTo Try.prog 22 (fun x : Sl × List CV => [.slice x.1.a x.1.n x.1.c]) (fun w x => Rd w CV.enc x.1 x.2 ∧ ∀ a ∈ x.2, True) :=
  opens_slice Try.underlying22 o_closure 4 (by kernel_rfl) (by decide) (fun _ => rfl)
def KV.enc (r : KV) : List Value := [.int .i64 r.kind, .int .i64 r.target, .int .i64 r.by_]
set_option maxRecDepth 100000 in
theorem o_key : OpensTo Try.prog 30 KV.enc (fun _ _ => True) := fun enc w fuel cs x h => by
  obtain ⟨xs, n, _, _, hl, hxl, hf⟩ := DataW.trod_struct Try.underlying30 h
  have hl4 : cs.length = 3 := hl.trans (by kernel_rfl)
  obtain ⟨a, ea, wa⟩ := opens_field hf hxl 0 _ rfl o_int 1 C_int
  obtain ⟨b, eb, wb⟩ := opens_field hf hxl 1 _ rfl o_int 1 C_int
  obtain ⟨c, ec, wc⟩ := opens_field hf hxl 2 _ rfl o_int 1 C_int
  match cs, hl4 with
  | [c0, c1, c2], _ =>
    simp at ea eb ec
    subst ea eb ec
    exact ⟨⟨a, b, c⟩, rfl, trivial⟩
structure OpV where
  open_ : Bool
  c : CV
abbrev OpV.val (r : OpV) : Value := .agg #[.bool r.open_, .agg #[.int .i64 r.c.kind, .int .i64 r.c.target, .int .i64 r.c.by_, .int .i64 r.c.since]]
def OpV.enc (r : OpV) : List Value := [.bool r.open_, .int .i64 r.c.kind, .int .i64 r.c.target, .int .i64 r.c.by_, .int .i64 r.c.since]
theorem o_bool : OpensTo Try.prog 4 (fun b : Bool => [.bool b]) (fun _ _ => True) := opens_bool Try.underlying4
set_option maxRecDepth 100000 in
theorem o_op : OpensTo Try.prog 50 OpV.enc (fun _ _ => True) := fun enc w fuel cs x h => by
  obtain ⟨xs, n, _, _, hl, hxl, hf⟩ := DataW.trod_struct Try.underlying50 h
  have hl4 : cs.length = 5 := hl.trans (by kernel_rfl)
  obtain ⟨a, ea, wa⟩ := opens_field hf hxl 0 _ rfl o_bool 1 (by kernel_rfl)
  obtain ⟨b, eb, wb⟩ := opens_field hf hxl 1 _ rfl o_closure 4 (by kernel_rfl)
  match cs, hl4 with
  | [c0, c1, c2, c3, c4], _ =>
    simp [CV.enc] at ea eb
    obtain ⟨rfl, rfl, rfl, rfl⟩ := eb
    subst ea
    exact ⟨⟨a, b⟩, rfl, trivial⟩
theorem o_ops : OpensTo Try.prog 48 (fun x : Sl × List OpV => [.slice x.1.a x.1.n x.1.c]) (fun w x => Rd w OpV.enc x.1 x.2 ∧ ∀ a ∈ x.2, True) :=
  opens_slice Try.underlying48 o_op 5 (by kernel_rfl) (by decide) (fun _ => rfl)
set_option maxRecDepth 100000 in
theorem o_node : OpensTo Try.prog 59 ND.enc (fun _ _ => True) := fun enc w fuel cs x h => by
  obtain ⟨xs, n, _, _, hl, hxl, hf⟩ := DataW.trod_struct Try.underlying59 h
  have hl4 : cs.length = 2 := hl.trans (by kernel_rfl)
  obtain ⟨a, ea, wa⟩ := opens_field hf hxl 0 _ rfl o_int 1 C_int
  obtain ⟨b, eb, wb⟩ := opens_field hf hxl 1 _ rfl o_int 1 C_int
  match cs, hl4 with
  | [c0, c1], _ =>
    simp at ea eb
    subst ea eb
    exact ⟨⟨a, b⟩, rfl, trivial⟩
theorem o_nodes : OpensTo Try.prog 36 (fun x : Sl × List ND => [.slice x.1.a x.1.n x.1.c]) (fun w x => Rd w ND.enc x.1 x.2 ∧ ∀ a ∈ x.2, True) :=
  opens_slice Try.underlying36 o_node 2 (by kernel_rfl) (by decide) (fun _ => rfl)
set_option maxRecDepth 100000 in
theorem o_lift : OpensTo Try.prog 76 LD.enc (fun _ _ => True) := fun enc w fuel cs x h => by
  obtain ⟨xs, n, _, _, hl, hxl, hf⟩ := DataW.trod_struct Try.underlying76 h
  have hl4 : cs.length = 8 := hl.trans (by kernel_rfl)
  obtain ⟨a0, e0, w0⟩ := opens_field hf hxl 0 _ rfl o_int 1 C_int
  obtain ⟨a1, e1, w1⟩ := opens_field hf hxl 1 _ rfl o_int 1 C_int
  obtain ⟨a2, e2, w2⟩ := opens_field hf hxl 2 _ rfl o_int 1 C_int
  obtain ⟨a3, e3, w3⟩ := opens_field hf hxl 3 _ rfl o_int 1 C_int
  obtain ⟨a4, e4, w4⟩ := opens_field hf hxl 4 _ rfl o_int 1 C_int
  obtain ⟨a5, e5, w5⟩ := opens_field hf hxl 5 _ rfl o_int 1 C_int
  obtain ⟨a6, e6, w6⟩ := opens_field hf hxl 6 _ rfl o_int 1 C_int
  obtain ⟨a7, e7, w7⟩ := opens_field hf hxl 7 _ rfl o_int 1 C_int
  match cs, hl4 with
  | [c0, c1, c2, c3, c4, c5, c6, c7], _ =>
    simp at e0 e1 e2 e3 e4 e5 e6 e7
    subst e0 e1 e2 e3 e4 e5 e6 e7
    exact ⟨⟨a0, a1, a2, a3, a4, a5, a6, a7⟩, rfl, trivial⟩
theorem o_lifts : OpensTo Try.prog 37 (fun x : Sl × List LD => [.slice x.1.a x.1.n x.1.c]) (fun w x => Rd w LD.enc x.1 x.2 ∧ ∀ a ∈ x.2, True) :=
  opens_slice Try.underlying37 o_lift 8 (by kernel_rfl) (by decide) (fun _ => rfl)
set_option maxRecDepth 100000 in
theorem o_run : OpensTo Try.prog 56 UD.enc (fun _ _ => True) := fun enc w fuel cs x h => by
  obtain ⟨xs, n, _, _, hl, hxl, hf⟩ := DataW.trod_struct Try.underlying56 h
  have hl4 : cs.length = 7 := hl.trans (by kernel_rfl)
  obtain ⟨a0, e0, w0⟩ := opens_field hf hxl 0 _ rfl o_int 1 C_int
  obtain ⟨a1, e1, w1⟩ := opens_field hf hxl 1 _ rfl o_int 1 C_int
  obtain ⟨a2, e2, w2⟩ := opens_field hf hxl 2 _ rfl o_int 1 C_int
  obtain ⟨a3, e3, w3⟩ := opens_field hf hxl 3 _ rfl o_int 1 C_int
  obtain ⟨a4, e4, w4⟩ := opens_field hf hxl 4 _ rfl o_int 1 C_int
  obtain ⟨a5, e5, w5⟩ := opens_field hf hxl 5 _ rfl o_int 1 C_int
  obtain ⟨a6, e6, w6⟩ := opens_field hf hxl 6 _ rfl o_int 1 C_int
  match cs, hl4 with
  | [c0, c1, c2, c3, c4, c5, c6], _ =>
    simp at e0 e1 e2 e3 e4 e5 e6
    subst e0 e1 e2 e3 e4 e5 e6
    exact ⟨⟨a0, a1, a2, a3, a4, a5, a6⟩, rfl, trivial⟩
theorem o_runs : OpensTo Try.prog 38 (fun x : Sl × List UD => [.slice x.1.a x.1.n x.1.c]) (fun w x => Rd w UD.enc x.1 x.2 ∧ ∀ a ∈ x.2, True) :=
  opens_slice Try.underlying38 o_run 7 (by kernel_rfl) (by decide) (fun _ => rfl)
def MP.enc (m : MP) : List Value := [.slice m.sn.a m.sn.n m.sn.c, .slice m.sl.a m.sl.n m.sl.c, .slice m.su.a m.su.n m.su.c, .slice m.sb.a m.sb.n m.sb.c]
set_option maxRecDepth 100000 in
theorem o_map : OpensTo Try.prog 41 MP.enc (fun w m => m.at_ w) := fun enc w fuel cs x h => by
  obtain ⟨xs, n, _, _, hl, hxl, hf⟩ := DataW.trod_struct Try.underlying41 h
  have hl4 : cs.length = 4 := hl.trans (by kernel_rfl)
  obtain ⟨a0, e0, w0⟩ := opens_field hf hxl 0 _ rfl o_nodes 1 (by kernel_rfl)
  obtain ⟨a1, e1, w1⟩ := opens_field hf hxl 1 _ rfl o_lifts 1 (by kernel_rfl)
  obtain ⟨a2, e2, w2⟩ := opens_field hf hxl 2 _ rfl o_runs 1 (by kernel_rfl)
  obtain ⟨a3, e3, w3⟩ := opens_field hf hxl 3 _ rfl o_ints 1 (by kernel_rfl)
  match cs, hl4 with
  | [c0, c1, c2, c3], _ =>
    simp at e0 e1 e2 e3
    subst e0 e1 e2 e3
    exact ⟨⟨a0.1, a1.1, a2.1, a3.1, a0.2, a1.2, a2.2, a3.2⟩, rfl, w0.1, w1.1, w2.1, w3.1⟩
end Go.Proofs.Ytpckebhmdjhniaa
