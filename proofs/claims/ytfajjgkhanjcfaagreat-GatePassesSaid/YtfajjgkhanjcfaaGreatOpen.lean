/- How an argument reads: from the form's own reading to the words of the walks. Generic in the program. -/
import Derived.Test.YtfajjgkhanjcfaaGreatMA
import Derived.ProofKit
import Derived.OpenShut
import Derived.ChangeOld
import Derived.Carry
import Derived.Deep.Slices
namespace Go.Proofs.YtfajjgkhanjcfaaGreat
set_option linter.unusedSimpArgs false
set_option linter.unusedVariables false
open Go.RowKit Go.ChangeShapes Go.WideShapes Go.ChangeAt Go.Deep

def OpensTo {α : Type} (P : Program) (t : TypeId) (en : α → List Value) (ok : World → α → Prop) : Prop :=
  ∀ {H : Type} (enc : TypeId × Value → H) (w : World) (fuel : Nat) (cs : List Value) (x : DataW H × List MemPlace),
    DataW.trod enc P w 0 (fun _ => true) true fuel t cs = some x → ∃ a : α, cs = en a ∧ ok w a

theorem opens_int {P : Program} {t : TypeId} {k : IntKind} (ht : P.underlying t = some (.int k)) : OpensTo P t (fun n : Int => [.int k n]) (fun _ n => (Lit.int k n).wf = true) :=
  fun _ _ _ _ _ h => by
    obtain ⟨n, rfl, _, hw⟩ := DataW.trod_int ht h
    exact ⟨n, rfl, hw⟩
theorem opens_bool {P : Program} {t : TypeId} (ht : P.underlying t = some .bool) : OpensTo P t (fun b : Bool => [.bool b]) (fun _ _ => True) :=
  fun _ _ _ _ _ h => by
    obtain ⟨b, rfl, _⟩ := DataW.trod_bool ht h
    exact ⟨b, rfl, trivial⟩

theorem list_of_at {α : Type} (m : Nat) (p : Nat → α → Prop) (h : ∀ i, i < m → ∃ a, p i a) : ∃ l : List α, l.length = m ∧ ∀ i a, l[i]? = some a → p i a := by
  induction m with
  | zero => exact ⟨[], rfl, fun i a h => by simp at h⟩
  | succ m ih =>
    obtain ⟨l, hl, hp⟩ := ih fun i hi => h i (by omega)
    obtain ⟨a, ha⟩ := h m (by omega)
    refine ⟨l ++ [a], by simp [hl], fun i b hb => ?_⟩
    rw [List.getElem?_append] at hb
    split at hb
    · exact hp i b hb
    · rename_i hge
      have : i - l.length = 0 := by
        rcases Nat.eq_zero_or_pos (i - l.length) with h0 | h0
        · exact h0
        · rw [List.getElem?_eq_none (by simp; omega)] at hb; cases hb
      rw [this] at hb
      simp at hb
      subst hb
      have : i = m := by omega
      subst this
      exact ha

theorem block_lt {w : World} {a : Addr} {u : Value} (h : w.cell? a = some u) : a.block < w.heap.size := by
  rcases Nat.lt_or_ge a.block w.heap.size with hlt | hge
  · exact hlt
  · unfold World.cell? at h; rw [Array.getElem?_eq_none hge] at h; cases h

theorem opens_slice {α : Type} {P : Program} {t e : TypeId} {en : α → List Value} {ok : World → α → Prop} (ht : P.underlying t = some (.slice e)) (he : OpensTo P e en ok) (size : Nat) (hC : P.cellsOf e = size) (hpos : 0 < size) (hen : ∀ a, (en a).length = size) :
    OpensTo P t (fun x : Sl × List α => [.slice x.1.a x.1.n x.1.c]) (fun w x => Rd w en x.1 x.2 ∧ ∀ a ∈ x.2, ok w a) :=
  fun enc w fuel cs x h => by
    rcases open_slice ht h with ⟨rfl, _⟩ | ⟨a, len, cap, m, n, D, Pl, rfl, _, hl, hm, hmm, _, hi⟩
    · exact ⟨(⟨none, 0, 0⟩, []), rfl, Rd.nil_ w en, fun a ha => by cases ha⟩
    · have hmc : cap = m := by simpa using hmm.symm
      clear hmm
      subst hmc
      have key : ∀ i, i < len → ∃ y : α, ok w y ∧ ∀ j u, (en y)[j]? = some u → w.cell? ((a.add (i * size)).add j) = some u := by
        intro i hil
        obtain ⟨cs', hc, ht'⟩ := hi i (by omega)
        rw [hC] at hc
        obtain ⟨y, rfl, hy⟩ := he enc w _ _ _ ht'
        obtain ⟨_, hcl, hat⟩ := World.cells?_some hc
        refine ⟨y, hy, fun j u hu => ?_⟩
        have hj : j < size := by
          have := (List.getElem?_eq_some_iff.1 hu).1
          rw [hen] at this; exact this
        rw [hat j hj]; exact hu
      obtain ⟨l, hll, hp⟩ := list_of_at len _ key
      refine ⟨(⟨some a, len, cap⟩, l), rfl, ⟨hll, hl, hm, fun hn => ?_⟩, fun y hy => ?_⟩
      · have hn' : 0 < l.length := by rw [hll]; exact hn
        have h0 : l[0]? = some l[0] := List.getElem?_eq_getElem hn'
        have h00 := (hp 0 _ h0).2 0 _ (List.getElem?_eq_getElem (by rw [hen]; exact hpos))
        have hsp : a.spot = none := by simpa [Addr.add] using World.cell?_spot h00
        have hblk : a.block < w.heap.size := by have := block_lt h00; simpa [Addr.add] using this
        obtain ⟨b, off, spot⟩ := a
        subst hsp
        refine ⟨b, off, rfl, hblk, fun k y hk j u hu => ?_⟩
        have := (hp k y hk).2 j u hu
        rw [hen]
        rw [← this]
        simp only [Go.Deep.add_add]
        congr 1
        unfold Addr.add
        split
        · rename_i hz; simp [hz]
        · rfl
      · obtain ⟨i, hi'⟩ := List.getElem?_of_mem hy
        exact (hp i y hi').1

/-- One field of a struct: read by its own type, at its own cells. -/
theorem opens_field {H : Type} {enc : TypeId × Value → H} {P : Program} {w : World} {n : Nat} {fs : Array Field} {cs : List Value} {xs : List (DataW H × List MemPlace)}
    (hf : ∀ (i : Nat) (f : Field), fs[i]? = some f → DataW.trod enc P w 0 (fun _ => true) true n f.type ((cs.drop f.offset).take (P.cellsOf f.type)) = xs[i]?) (hl : xs.length = fs.size)
    {α : Type} {en : α → List Value} {ok : World → α → Prop} (i : Nat) (f : Field) (hi : fs[i]? = some f) (ho : OpensTo P f.type en ok) (sz : Nat) (hs : P.cellsOf f.type = sz) : ∃ a, (cs.drop f.offset).take sz = en a ∧ ok w a := by
  have h := hf i f hi
  rw [hs] at h
  have hlt : i < fs.size := (Array.getElem?_eq_some_iff.1 hi).1
  rw [List.getElem?_eq_getElem (by omega)] at h
  exact ho enc w n _ _ h

/-- A whole argument. -/
theorem opens_arg {α : Type} {P : Program} {t : TypeId} {en : α → List Value} {ok : World → α → Prop} (h : OpensTo P t en ok) {H : Type} {enc : TypeId × Value → H} {w : World} {v : Value} {d : DataW H} {ps : List MemPlace}
    (hv : DataW.Trod enc P w 0 (fun _ => true) true t v d ps) : ∃ a : α, v.cells.toList = en a ∧ ok w a := by
  obtain ⟨fuel, hf⟩ := hv
  exact h enc w fuel _ _ hf
theorem i64_bd {n : Int} (h : (Lit.int .i64 n).wf = true) : -9223372036854775808 ≤ n ∧ n ≤ 9223372036854775807 := by
  have h' : (decide (IntKind.i64.min ≤ n) && decide (n ≤ IntKind.i64.max)) = true := h
  simp only [Bool.and_eq_true, decide_eq_true_eq] at h'
  have a : IntKind.i64.min = -9223372036854775808 := by decide
  have b : IntKind.i64.max = 9223372036854775807 := by decide
  rw [a, b] at h'
  exact h'
theorem u8_bd {n : Int} (h : (Lit.int .u8 n).wf = true) : 0 ≤ n ∧ n ≤ 255 := by
  have h' : (decide (IntKind.u8.min ≤ n) && decide (n ≤ IntKind.u8.max)) = true := h
  simp only [Bool.and_eq_true, decide_eq_true_eq] at h'
  have a : IntKind.u8.min = 0 := by decide
  have b : IntKind.u8.max = 255 := by decide
  rw [a, b] at h'
  exact h'
theorem slice_value {P : Program} {w : World} {r : Reach} {b0 : Nat} {t e : TypeId} {v : Value} {s : Sl} (ht : P.underlying t = some (.slice e)) (hv : Value.okWide P w r b0 t v) (he : v.cells.toList = [.slice s.a s.n s.c]) : v = s.val := by
  obtain ⟨a, len, cap, rfl⟩ := okWide_slice ht hv
  simpa [Value.cells] using he
end Go.Proofs.YtfajjgkhanjcfaaGreat
