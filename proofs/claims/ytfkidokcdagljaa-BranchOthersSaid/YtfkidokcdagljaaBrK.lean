/-
  Branch's laws: how an act reads.
-/
import Derived.Test.YtfkidokcdagljaaBrI
import Derived.Test.YtfkidokcdagljaaOpn
set_option linter.unusedVariables false
namespace Go.Proofs.Ytfkidokcdagljaa
open Go.RowKit Go.Proofs.YtfkidokcdagljaaW.PrintWords PBranchPlays Opn

theorem cells30 : Try.prog.cellsOf 30 = 3 := by kernel_rfl
theorem cells5 : Try.prog.cellsOf 5 = 1 := by kernel_rfl
theorem cells9 : Try.prog.cellsOf 9 = 1 := by kernel_rfl
theorem cells3 : Try.prog.cellsOf 3 = 1 := by kernel_rfl
theorem opens_act {H : Type} {enc : TypeId × Value → H} {N : Nat} : OpensAt enc Try.prog (N + 1) k30 30 ActOk :=
  opens_iso (fun x : S30 => (x.f0, x.f1, x.f2)) (fun y => ⟨y.1, y.2.1, y.2.2⟩) (fun _ => rfl) (fun y h => h)
    (opens_struct Try.underlying30 rfl cells30 (fields_cons rfl cells5 (opens_int Try.underlying5) (fields_cons rfl cells9 (opens_string Try.underlying9) (fields_one rfl cells3 (opens_int Try.underlying3)))))
theorem opens_acts {H : Type} {enc : TypeId × Value → H} {N : Nat} : OpensAt enc Try.prog N (Kd.slice 30 k30) 22 (fun l => l.length ≤ maxLen ∧ ∀ x ∈ l, ActOk x) :=
  opens_less (opens_slice Try.underlying22 cells30 opens_act) (Nat.le_succ_of_le (Nat.le_succ N))
end Go.Proofs.Ytfkidokcdagljaa
namespace Go.Proofs.Ytfkidokcdagljaa
open Go.RowKit Go.Proofs.YtfkidokcdagljaaW.PrintWords PBranchPlays Opn
theorem open_acts {H : Type} {enc : TypeId × Value → H} {w : World} {a : Option Addr} {len cap : Nat} {d : DataW H} {p : List MemPlace} (h : DataW.Trod enc Try.prog w 0 (fun _ => true) true 22 (.slice a len cap) d p) :
    ∃ l : List S30, len = l.length ∧ l.length ≤ cap ∧ Kd.C k30 w a l.length l ∧ ∀ x ∈ l, ActOk x := by
  obtain ⟨fuel, hf⟩ := h
  obtain ⟨A, c, l, e, hc, hC, hu⟩ := arg_slice (d := k30) (t := 22) (e := 30) opens_acts hf rfl
  injection e with e1 e2 e3
  subst e1 e2 e3
  exact ⟨l, rfl, hc, hC, hu.2⟩
end Go.Proofs.Ytfkidokcdagljaa
