/-
  What reads as data is told by a kind: opening arguments that are slices, structs, strings and numbers within each other.
-/
import Derived.Test.YtdloopgdohjedaaWWords
import Derived.ChangeArms
import Derived.OpenShut
import Derived.Deep.Slices
set_option linter.unusedVariables false
set_option linter.unusedSimpArgs false
namespace Go.Proofs.Ytdloopgdohjedaa.Opn
open Go.RowKit Go.Proofs.YtdloopgdohjedaaW.PrintWords

section
variable {H : Type} (enc : TypeId × Value → H) (P : Program)

/-- Cells that read as data of type t, by at most N steps, are told by d, with U. -/
def OpensAt {α : Type} (N : Nat) (d : Kd α) (t : TypeId) (U : α → Prop) : Prop :=
  ∀ (w : World) (fuel : Nat) (cs : List Value) (z : DataW H × List MemPlace), fuel ≤ N → DataW.trod enc P w 0 (fun _ => true) true fuel t cs = some z → ∃ x, d.K w x cs ∧ U x
/-- The same of a struct's fields from a place on. -/
def FieldsAt {α : Type} (N : Nat) (d : Kd α) (fs : List Field) (off : Nat) (U : α → Prop) : Prop :=
  ∀ (w : World) (n : Nat) (cs : List Value), n ≤ N → (∀ f ∈ fs, ∃ z, DataW.trod enc P w 0 (fun _ => true) true n f.type ((cs.drop f.offset).take (P.cellsOf f.type)) = some z) → ∃ x, d.K w x ((cs.drop off).take d.sz) ∧ U x

variable {enc P}
theorem opens_int {N : Nat} {t : TypeId} {k : IntKind} (ht : P.underlying t = some (.int k)) : OpensAt enc P N (Kd.int k) t (fun n => (Lit.int k n).wf = true) := by
  intro w fuel cs z _ h
  obtain ⟨n, rfl, _, hw⟩ := DataW.trod_int ht h
  exact ⟨n, rfl, hw⟩
theorem opens_bool {N : Nat} {t : TypeId} (ht : P.underlying t = some .bool) : OpensAt enc P N Kd.bool t (fun _ => True) := by
  intro w fuel cs z _ h
  obtain ⟨b, rfl, _⟩ := DataW.trod_bool ht h
  exact ⟨b, rfl, trivial⟩
theorem opens_string {N : Nat} {t : TypeId} (ht : P.underlying t = some .string) : OpensAt enc P N Kd.string t (fun s => s.size ≤ maxLen) := by
  intro w fuel cs z _ h
  obtain ⟨s, rfl, _, hs⟩ := DataW.trod_string ht h
  exact ⟨s, rfl, hs⟩

theorem cells_at {w : World} {a : Addr} {n : Nat} {cs : List Value} (h : w.cells? 0 a n = some cs) : cs.length = n ∧ ∀ i u, cs[i]? = some u → w.cell? (a.add i) = some u := by
  obtain ⟨_, hl, hc⟩ := World.cells?_some h
  refine ⟨hl, fun i u hi => ?_⟩
  have hlt : i < n := by
    have := (List.getElem?_eq_some_iff.1 hi).1
    omega
  rw [hc i hlt, hi]

theorem list_of {β : Type} : ∀ (n : Nat) (p : Nat → β → Prop), (∀ i, i < n → ∃ x, p i x) → ∃ xs : List β, xs.length = n ∧ ∀ i x, xs[i]? = some x → p i x
  | 0, _, _ => ⟨[], rfl, fun i x h => by simp at h⟩
  | n + 1, p, h => by
    obtain ⟨xs, hl, hx⟩ := list_of n p (fun i hi => h i (by omega))
    obtain ⟨y, hy⟩ := h n (by omega)
    refine ⟨xs ++ [y], by simp [hl], fun i x hi => ?_⟩
    by_cases hlt : i < n
    · rw [List.getElem?_append_left (by omega)] at hi
      exact hx i x hi
    · rw [List.getElem?_append_right (by omega)] at hi
      have : i - xs.length = 0 := by
        have := (List.getElem?_eq_some_iff.1 hi).1
        simp at this
        omega
      rw [this] at hi
      simp at hi
      subst hi
      obtain rfl : i = n := by omega
      exact hy

theorem opens_slice {α : Type} {N : Nat} {t e : TypeId} {d : Kd α} {U : α → Prop} (ht : P.underlying t = some (.slice e)) (hs : P.cellsOf e = d.sz) (he : OpensAt enc P N d e U) :
    OpensAt enc P (N + 1) (Kd.slice e d) t (fun xs => xs.length ≤ maxLen ∧ ∀ x ∈ xs, U x) := by
  intro w fuel cs z hN h
  rcases DataW.trod_slice ht h with ⟨rfl, _⟩ | ⟨a, len, cap, elems, rest, n, rfl, rfl, _, _, hl, hm, hlen, hel, _⟩
  · exact ⟨[], ⟨none, 0, rfl, Nat.le_refl _, rfl, by simp, fun h => absurd h (by simp)⟩, by simp, by simp⟩
  · have each : ∀ i, i < len → ∃ x, U x ∧ ∃ c, d.K w x c ∧ w.cells? 0 (a.add (i * d.sz)) d.sz = some c := by
      intro i hi
      have h1 := hel i hi
      rw [List.getElem?_eq_getElem (by omega)] at h1
      obtain ⟨c, hc, hz⟩ := Option.bind_eq_some_iff.1 h1
      obtain ⟨x, hx, hu⟩ := he w n c _ (by omega) hz
      rw [hs] at hc
      exact ⟨x, hu, c, hx, hc⟩
    obtain ⟨xs, hxl, hxs⟩ := list_of len _ each
    subst hxl
    refine ⟨xs, ⟨some a, cap, rfl, hl, rfl, by unfold maxLen at hm; omega, fun _ => ⟨a, rfl, fun j p hj => ?_⟩⟩, by omega, fun x hx => ?_⟩
    · obtain ⟨_, c, hk, hc⟩ := hxs j p hj
      obtain ⟨h1, h2⟩ := cells_at hc
      refine ⟨c, h1, hk, fun i u hi => ?_⟩
      have := h2 i u hi
      rwa [Addr.add_add] at this
    · obtain ⟨i, hi⟩ := List.mem_iff_getElem?.1 hx
      exact (hxs i x hi).1

theorem fields_one {α : Type} {N : Nat} {d : Kd α} {U : α → Prop} {f : Field} {off : Nat} (ho : f.offset = off) (hs : P.cellsOf f.type = d.sz) (h : OpensAt enc P N d f.type U) : FieldsAt enc P N d [f] off U := by
  intro w n cs hN hf
  obtain ⟨z, hz⟩ := hf f (by simp)
  rw [ho, hs] at hz
  exact h w n _ z hN hz
theorem fields_cons {α β : Type} {N : Nat} {a : Kd α} {b : Kd β} {U : α → Prop} {V : β → Prop} {f : Field} {fs : List Field} {off : Nat} (ho : f.offset = off) (hs : P.cellsOf f.type = a.sz) (h : OpensAt enc P N a f.type U)
    (hr : FieldsAt enc P N b fs (off + a.sz) V) : FieldsAt enc P N (Kd.pair a b) (f :: fs) off (fun x => U x.1 ∧ V x.2) := by
  intro w n cs hN hf
  obtain ⟨z, hz⟩ := hf f (by simp)
  rw [ho, hs] at hz
  obtain ⟨x, hx, hu⟩ := h w n _ z hN hz
  obtain ⟨y, hy, hv⟩ := hr w n cs hN (fun g hg => hf g (by simp [hg]))
  refine ⟨(x, y), ⟨_, _, ?_, hx, hy⟩, hu, hv⟩
  show (cs.drop off).take (a.sz + b.sz) = _
  rw [List.take_add, List.drop_drop]
theorem opens_struct {α : Type} {N : Nat} {t : TypeId} {d : Kd α} {U : α → Prop} {fs : Array Field} {l : List Field} (ht : P.underlying t = some (.struct fs)) (hl : fs = l.toArray) (hs : P.cellsOf t = d.sz) (h : FieldsAt enc P N d l 0 U) : OpensAt enc P (N + 1) d t U := by
  intro w fuel cs z hN hz
  obtain ⟨xs, n, rfl, _, hc, hx, hf⟩ := DataW.trod_struct ht hz
  obtain ⟨x, hk, hu⟩ := h w n cs (by omega) (fun f hm => by
    obtain ⟨i, hi⟩ := List.mem_iff_getElem?.1 hm
    have hlt : i < xs.length := by
      have := (List.getElem?_eq_some_iff.1 hi).1
      rw [hx, hl]
      simpa using this
    have := hf i f (by rw [hl]; simpa using hi)
    rw [List.getElem?_eq_getElem hlt] at this
    exact ⟨_, this⟩)
  refine ⟨x, ?_, hu⟩
  rw [List.drop_zero, List.take_of_length_le (by omega)] at hk
  exact hk
theorem opens_iso {α β : Type} {N : Nat} {t : TypeId} {d : Kd α} {U : α → Prop} {V : β → Prop} (f : β → α) (g : α → β) (hfg : ∀ y, f (g y) = y) (hUV : ∀ y, U y → V (g y)) (h : OpensAt enc P N d t U) : OpensAt enc P N (Kd.iso d f) t V := by
  intro w fuel cs z hN hz
  obtain ⟨x, hx, hu⟩ := h w fuel cs z hN hz
  refine ⟨g x, ?_, hUV x hu⟩
  show d.K w (f (g x)) cs
  rw [hfg]
  exact hx
theorem opens_less {α : Type} {N M : Nat} {t : TypeId} {d : Kd α} {U : α → Prop} (h : OpensAt enc P N d t U) (hM : M ≤ N) : OpensAt enc P M d t U := fun w fuel cs z hN hz => h w fuel cs z (by omega) hz
/-- An argument of a slice's type. -/
theorem arg_slice {α : Type} {w : World} {t e : TypeId} {d : Kd α} {U : List α → Prop} {v : Value} {z : DataW H × List MemPlace} {n : Nat} (h : OpensAt enc P n (Kd.slice e d) t U)
    (hz : DataW.trod enc P w 0 (fun _ => true) true n t v.cells.toList = some z) (hv : v.cells = #[v]) : ∃ A c xs, v = .slice A xs.length c ∧ xs.length ≤ c ∧ d.C w A xs.length xs ∧ U xs := by
  obtain ⟨xs, ⟨A, c, hcs, hl, hC⟩, hu⟩ := h w n _ z (Nat.le_refl _) hz
  rw [hv] at hcs
  simp at hcs
  exact ⟨A, c, xs, hcs, hl, hC, hu⟩

end
end Go.Proofs.Ytdloopgdohjedaa.Opn
