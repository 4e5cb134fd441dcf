/-
  Graph: the laws' arguments, opened.
-/
import Derived.Test.YtdloopgdohjedaaOpn
import Derived.Test.YtdloopgdohjedaaPGraphTellsx0
set_option linter.unusedVariables false
set_option linter.unusedSimpArgs false
namespace Go.Proofs.Ytdloopgdohjedaa
open Go.RowKit Go.Proofs.YtdloopgdohjedaaW.PrintWords Go.Proofs.Ytdloopgdohjedaa.Opn PGraphTells

theorem opens_nums {H : Type} {enc : TypeId × Value → H} (N : Nat) : OpensAt enc Try.prog (N + 1) (Kd.slice 3 (Kd.int .i64)) 23 (fun xs => xs.length ≤ maxLen ∧ ∀ x ∈ xs, (Lit.int .i64 x).wf = true) :=
  opens_slice Try.underlying23 (by kernel_rfl) (opens_int Try.underlying3)
theorem opens41 {H : Type} {enc : TypeId × Value → H} (N : Nat) : OpensAt enc Try.prog (N + 1 + 1) k41 41 (fun _ => True) :=
  opens_iso (fun x : S41 => (x.f0, x.f1)) (fun y => ⟨y.1, y.2⟩) (fun _ => rfl) (fun _ _ => trivial)
    (opens_struct Try.underlying41 rfl (by kernel_rfl)
      (fields_cons rfl (by kernel_rfl) (opens_int Try.underlying3)
        (fields_one rfl (by kernel_rfl) (opens_nums N))))
theorem opens_links {H : Type} {enc : TypeId × Value → H} (N : Nat) : OpensAt enc Try.prog (N + 1 + 1 + 1) (Kd.slice 41 k41) 22 (fun xs => xs.length ≤ maxLen ∧ ∀ x ∈ xs, True) :=
  opens_slice Try.underlying22 (by kernel_rfl) (opens41 N)
theorem open_links {H : Type} {enc : TypeId × Value → H} {W : World} {a : Option Addr} {len cap : Nat} {d : DataW H} {p : List MemPlace} (h : DataW.Trod enc Try.prog W 0 (fun _ => true) true 22 (.slice a len cap) d p) :
    ∃ l, len = l.length ∧ l.length ≤ cap ∧ Kd.C k41 W a l.length l ∧ True := by
  obtain ⟨m, hm⟩ := h
  obtain ⟨A, c, xs, e, hl, hC, hu⟩ := arg_slice (n := m) (opens_less (opens_links m) (by omega)) hm rfl
  injection e with e1 e2 e3
  subst e1; subst e2; subst e3
  exact ⟨xs, rfl, hl, hC, trivial⟩
theorem open_nums {H : Type} {enc : TypeId × Value → H} {W : World} {a : Option Addr} {len cap : Nat} {d : DataW H} {p : List MemPlace} (h : DataW.Trod enc Try.prog W 0 (fun _ => true) true 23 (.slice a len cap) d p) :
    ∃ l, len = l.length ∧ l.length ≤ cap ∧ Kd.C (Kd.int .i64) W a l.length l ∧ ∀ x ∈ l, (Lit.int .i64 x).wf = true := by
  obtain ⟨m, hm⟩ := h
  obtain ⟨A, c, xs, e, hl, hC, hu⟩ := arg_slice (n := m) (opens_less (opens_nums m) (by omega)) hm rfl
  injection e with e1 e2 e3
  subst e1; subst e2; subst e3
  exact ⟨xs, rfl, hl, hC, hu.2⟩

end Go.Proofs.Ytdloopgdohjedaa
