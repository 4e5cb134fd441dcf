/-
  Graph: what hangs on numbers: the work list's states, no program in sight.
-/
import Derived.Test.YtdloopgdohjedaaGrN
set_option linter.unusedVariables false
set_option linter.unusedSimpArgs false
namespace Go.Proofs.Ytdloopgdohjedaa
open Go.RowKit Go.Maps Go.Shelf Go.Proofs.YtdloopgdohjedaaW.PrintWords PGraphTells

abbrev SM := List (Int × Int)
def succs (m2 : GM) (n : Int) : List Int := (getM m2 n).getD []
/-- x hangs on one of the numbers. -/
inductive HangP (m2 : GM) (on : List Int) : Int → Prop
  | one {n x : Int} : n ∈ on → x ∈ succs m2 n → HangP m2 on x
  | more {n x : Int} : HangP m2 on n → x ∈ succs m2 n → HangP m2 on x

def add1 (st : SM × List Int) (x : Int) : SM × List Int := if (getM st.1 x).isSome then st else (putM st.1 x 1, st.2 ++ [x])
def addN (st : SM × List Int) (xs : List Int) : SM × List Int := xs.foldl add1 st
theorem addN_succ (st : SM × List Int) (R : List Int) {j : Nat} (hj : j < R.length) : addN st (R.take (j + 1)) = add1 (addN st (R.take j)) (rd R (j : Int)) := by
  have e : rd R (j : Int) = R[j] := by simp [rd, List.getD_eq_getElem?_getD, hj]
  unfold addN
  rw [List.take_succ_eq_append_getElem hj, List.foldl_append, e]
  rfl

/-- The work list's states. -/
inductive Runs (m2 : GM) (on : List Int) : SM → List Int → Prop
  | start : Runs m2 on [] on
  | step {m : SM} {t : Int} {ts : List Int} : Runs m2 on m (t :: ts) → Runs m2 on (addN (m, ts) (succs m2 t)).1 (addN (m, ts) (succs m2 t)).2

/-- What holds of a state. -/
structure Well (on : List Int) (m : SM) (ts : List Int) : Prop where
  rise : Rise (keysM m)
  ones : ∀ x, (getM m x).getD 0 = if (getM m x).isSome then 1 else 0
  fits : ∀ x ∈ keysM m, fitB x = true
  len : ts.length ≤ on.length + m.length
theorem well_add1 {on : List Int} {m : SM} {ts : List Int} (h : Well on m ts) {x : Int} (hx : fitB x = true) : Well on (add1 (m, ts) x).1 (add1 (m, ts) x).2 := by
  unfold add1
  by_cases hs : (getM m x).isSome = true
  · rw [if_pos hs]; exact h
  · rw [if_neg hs]
    have hn : getM m x = none := by cases hg : getM m x <;> simp_all
    refine ⟨rise_put h.rise _ _, fun y => ?_, fun y hy => ?_, ?_⟩
    · rw [getM_put]
      by_cases e : y = x
      · simp [e]
      · simp only [if_neg e]; exact h.ones y
    · rcases mem_keys_put.1 hy with rfl | hy
      · exact hx
      · exact h.fits y hy
    · have : (putM m x 1).length = m.length + 1 := by
        unfold putM
        rw [len_insM, del_none hn]
      show (ts ++ [x]).length ≤ on.length + (putM m x 1).length
      rw [this, List.length_append, List.length_singleton]
      have := h.len
      omega
theorem well_addN {on : List Int} {xs : List Int} : ∀ {st : SM × List Int}, Well on st.1 st.2 → (∀ x ∈ xs, fitB x = true) → Well on (addN st xs).1 (addN st xs).2 := by
  induction xs with
  | nil => intro st h _; exact h
  | cons x xs ih =>
    intro st h hx
    exact ih (well_add1 h (hx x (by simp))) (fun y hy => hx y (by simp [hy]))
theorem Well.tail {on : List Int} {m : SM} {t : Int} {ts : List Int} (h : Well on m (t :: ts)) : Well on m ts := ⟨h.rise, h.ones, h.fits, by have := h.len; simp at this; omega⟩
theorem runs_well {m2 : GM} {on : List Int} (hfit : ∀ n x, x ∈ succs m2 n → fitB x = true) {m : SM} {ts : List Int} (h : Runs m2 on m ts) : Well on m ts := by
  induction h with
  | start => exact ⟨List.Pairwise.nil, fun x => rfl, by simp [keysM], by simp⟩
  | step _ ih => exact well_addN (st := (_, _)) ih.tail (hfit _)
/-- Rising numbers below 1024 are at most 1024. -/
theorem rise_len {l : List Int} (h : Rise l) (hf : ∀ x ∈ l, fitB x = true) : l.length ≤ 1024 := by
  have key : ∀ (l : List Int) (a : Int), Rise l → (∀ x ∈ l, a ≤ x ∧ x < 1024) → 0 ≤ a → a ≤ 1024 → (l.length : Int) ≤ 1024 - a := by
    intro l
    induction l with
    | nil => intro a _ _ h0 h1; simp; omega
    | cons y l ih =>
      intro a hr hx h0 h1
      have hy := hx y (by simp)
      have hp := List.pairwise_cons.1 hr
      have := ih (y + 1) hp.2 (fun x hx' => ⟨by have := hp.1 x hx'; omega, (hx x (by simp [hx'])).2⟩) (by omega) (by omega)
      simp
      omega
  have := key l 0 h (fun x hx => by have := hf x hx; simp [fitB] at this; omega) (by omega) (by omega)
  omega
theorem Well.size {on : List Int} {m : SM} {ts : List Int} (h : Well on m ts) : m.length ≤ 1024 := by
  have := rise_len h.rise h.fits
  simpa [keysM] using this

/-- The measure sinks. -/
theorem add1_meas {on : List Int} {m : SM} {ts : List Int} (h : Well on m ts) {x : Int} (hx : fitB x = true) : (add1 (m, ts) x).2.length + (1024 - (add1 (m, ts) x).1.length) = ts.length + (1024 - m.length) := by
  have hw := (well_add1 h hx).size
  unfold add1 at *
  by_cases hs : (getM m x).isSome = true
  · rw [if_pos hs]
  · rw [if_neg hs] at hw ⊢
    have hn : getM m x = none := by cases hg : getM m x <;> simp_all
    have : (putM m x 1).length = m.length + 1 := by
      unfold putM
      rw [len_insM, del_none hn]
    dsimp only at hw ⊢
    rw [this] at hw ⊢
    rw [List.length_append, List.length_singleton]
    omega
theorem addN_meas {on : List Int} {xs : List Int} : ∀ {st : SM × List Int}, Well on st.1 st.2 → (∀ x ∈ xs, fitB x = true) → (addN st xs).2.length + (1024 - (addN st xs).1.length) = st.2.length + (1024 - st.1.length) := by
  induction xs with
  | nil => intro st h _; rfl
  | cons x xs ih =>
    intro st h hx
    have := ih (well_add1 (m := st.1) (ts := st.2) h (hx x (by simp))) (fun y hy => hx y (by simp [hy]))
    have h2 := add1_meas (m := st.1) (ts := st.2) h (hx x (by simp))
    exact this.trans h2

/-! ### What the last state has -/
theorem add1_mem {st : SM × List Int} {x y : Int} : y ∈ keysM (add1 st x).1 ↔ y = x ∨ y ∈ keysM st.1 := by
  unfold add1
  by_cases hs : (getM st.1 x).isSome = true
  · rw [if_pos hs]
    constructor
    · exact .inr
    · rintro (rfl | h)
      · exact mem_keys.2 hs
      · exact h
  · rw [if_neg hs]; exact mem_keys_put
theorem addN_mem {xs : List Int} : ∀ {st : SM × List Int} {y : Int}, y ∈ keysM (addN st xs).1 ↔ y ∈ xs ∨ y ∈ keysM st.1 := by
  induction xs with
  | nil => intro st y; simp [addN]
  | cons x xs ih =>
    intro st y
    have := ih (st := add1 st x) (y := y)
    show y ∈ keysM (addN (add1 st x) xs).1 ↔ _
    rw [this, add1_mem]
    simp only [List.mem_cons]
    constructor
    · rintro (h | h | h) <;> simp [h]
    · rintro ((h | h) | h) <;> simp [h]
theorem add1_todo {st : SM × List Int} {x y : Int} : y ∈ (add1 st x).2 ↔ y ∈ st.2 ∨ (y = x ∧ ¬ x ∈ keysM st.1) := by
  unfold add1
  by_cases hs : (getM st.1 x).isSome = true
  · rw [if_pos hs]
    have := mem_keys.2 hs
    simp [this]
  · rw [if_neg hs]
    have : ¬ x ∈ keysM st.1 := fun h => hs (mem_keys.1 h)
    simp [this]
theorem addN_todo {xs : List Int} : ∀ {st : SM × List Int} {y : Int}, (y ∈ st.2 → y ∈ (addN st xs).2) ∧ (y ∈ (addN st xs).2 → y ∈ st.2 ∨ y ∈ xs) ∧ (y ∈ keysM (addN st xs).1 → y ∈ keysM st.1 ∨ y ∈ (addN st xs).2) := by
  induction xs with
  | nil => intro st y; exact ⟨id, .inl, .inl⟩
  | cons x xs ih =>
    intro st y
    obtain ⟨h1, h2, h3⟩ := ih (st := add1 st x) (y := y)
    refine ⟨fun h => h1 (add1_todo.2 (.inl h)), fun h => ?_, fun h => ?_⟩
    · rcases h2 h with h | h
      · rcases add1_todo.1 h with h | ⟨rfl, _⟩
        · exact .inl h
        · exact .inr (by simp)
      · exact .inr (by simp [h])
    · rcases h3 h with h | h
      · rcases add1_mem.1 h with rfl | h
        · by_cases hk : y ∈ keysM st.1
          · exact .inl hk
          · exact .inr (h1 (add1_todo.2 (.inr ⟨rfl, hk⟩)))
        · exact .inl h
      · exact .inr h
/-- Soundness and completeness of the states. -/
theorem runs_inv {m2 : GM} {on : List Int} {m : SM} {ts : List Int} (h : Runs m2 on m ts) :
    (∀ x ∈ keysM m, HangP m2 on x) ∧ (∀ t ∈ ts, t ∈ on ∨ t ∈ keysM m) ∧ (∀ y, (y ∈ on ∨ y ∈ keysM m) → y ∈ ts ∨ ∀ x ∈ succs m2 y, x ∈ keysM m) := by
  induction h with
  | start => exact ⟨by simp [keysM], fun t ht => .inl ht, fun y hy => by rcases hy with h | h; exact .inl h; simp [keysM] at h⟩
  | @step m t ts _ ih =>
    obtain ⟨i1, i2, i3⟩ := ih
    refine ⟨fun x hx => ?_, fun y hy => ?_, fun y hy => ?_⟩
    · rcases addN_mem.1 hx with h | h
      · rcases i2 t (by simp) with ht | ht
        · exact .one ht h
        · exact .more (i1 t ht) h
      · exact i1 x h
    · rcases addN_todo.2.1 hy with h | h
      · rcases i2 y (by simp [h]) with h | h
        · exact .inl h
        · exact .inr (addN_mem.2 (.inr h))
      · exact .inr (addN_mem.2 (.inl h))
    · by_cases e : y = t
      · subst e
        exact .inr (fun x hx => addN_mem.2 (.inl hx))
      · have old : y ∈ on ∨ y ∈ keysM m → y ∈ (addN (m, ts) (succs m2 t)).2 ∨ ∀ x ∈ succs m2 y, x ∈ keysM (addN (m, ts) (succs m2 t)).1 := fun h => by
          rcases i3 y h with h | h
          · rcases List.mem_cons.1 h with h | h
            · exact absurd h e
            · exact .inl (addN_todo.1 h)
          · exact .inr (fun x hx => addN_mem.2 (.inr (h x hx)))
        rcases hy with h | h
        · exact old (.inl h)
        · rcases addN_todo.2.2 h with h | h
          · exact old (.inr h)
          · exact .inl h
theorem runs_end {m2 : GM} {on : List Int} {m : SM} (h : Runs m2 on m []) (x : Int) : x ∈ keysM m ↔ HangP m2 on x := by
  obtain ⟨i1, _, i3⟩ := runs_inv h
  refine ⟨i1 x, fun hx => ?_⟩
  induction hx with
  | one hn hx => exact ((i3 _ (.inl hn)).resolve_left (by simp)) _ hx
  | more _ hx ih => exact ((i3 _ (.inr ih)).resolve_left (by simp)) _ hx

end Go.Proofs.Ytdloopgdohjedaa
