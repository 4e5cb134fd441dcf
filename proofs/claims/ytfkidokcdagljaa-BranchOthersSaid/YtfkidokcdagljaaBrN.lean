/-
  Branch's laws: how an act by value reads.
-/
import Derived.Test.YtfkidokcdagljaaBrM
import Derived.Lib.SmallJoins
set_option linter.unusedVariables false
namespace Go.Proofs.Ytfkidokcdagljaa
open Go.RowKit Go.Proofs.YtfkidokcdagljaaW.PrintWords PBranchPlays Opn
theorem open_act {H : Type} {enc : TypeId × Value → H} {w : World} {base : Nat} {v : Value} {d : DataW H} {p : List MemPlace} (hv : Value.okWide Try.prog w .any base 30 v) (h : DataW.Trod enc Try.prog w 0 (fun _ => true) true 30 v d p) :
    ∃ x : S30, v = .agg #[.int .u8 x.f0, .string x.f1, .int .i64 x.f2] ∧ ActOk x := by
  obtain ⟨c0, c1, c2, y0, y1, y2, m, rfl, rfl, rfl, h0, h1, h2⟩ := Joins.open_agg3 Try.underlying30 (by kernel_rfl) cells30 hv h
  obtain ⟨a, e0, _, wa⟩ := DataW.trod_int Try.underlying5 h0
  obtain ⟨s, e1, _, ws⟩ := DataW.trod_string Try.underlying9 h1
  obtain ⟨b, e2, _, wb⟩ := DataW.trod_int Try.underlying3 h2
  simp at e0 e1 e2
  subst e0 e1 e2
  exact ⟨⟨a, s, b⟩, rfl, wa, ws, wb⟩
end Go.Proofs.Ytfkidokcdagljaa
