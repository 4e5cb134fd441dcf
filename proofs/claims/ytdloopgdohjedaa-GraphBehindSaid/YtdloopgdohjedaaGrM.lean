/-
  Graph: maps of numbers, as lists of pairs whose keys rise: no program in sight.
-/
import Derived.Test.YtdloopgdohjedaaGrX
import Derived.Maps.GroupsBeside
set_option linter.unusedVariables false
set_option linter.unusedSimpArgs false
namespace Go.Proofs.Ytdloopgdohjedaa
open Go.RowKit Go.Maps Go.Shelf Go.Proofs.YtdloopgdohjedaaW.PrintWords

section
variable {α : Type} (f : α → DataW Unit)
def gent (p : Int × α) : Lit × DataW Unit := (.int .i64 p.1, f p.2)
def gmap (m : List (Int × α)) : DataW Unit := .map (m.map (gent f))
def insM (x : Int × α) : List (Int × α) → List (Int × α)
  | [] => [x]
  | y :: r => if x.1 < y.1 then x :: y :: r else y :: insM x r
def delM (m : List (Int × α)) (k : Int) : List (Int × α) := m.filter fun p => !(p.1 == k)
def putM (m : List (Int × α)) (k : Int) (h : α) : List (Int × α) := insM (k, h) (delM m k)
def getM (m : List (Int × α)) (k : Int) : Option α := (m.find? fun p => p.1 == k).map (·.2)
def keysM (m : List (Int × α)) : List Int := m.map (·.1)

theorem same_i (a b : Int) : (Lit.int .i64 a).sameKey (.int .i64 b) = (a == b) := by simp [Lit.sameKey, BEq.beq]

theorem gmap_del (m : List (Int × α)) (k : Int) : (gmap f m).del (.int .i64 k) = gmap f (delM m k) := by
  unfold gmap DataW.del delM
  simp only [DataW.map.injEq]
  induction m with
  | nil => rfl
  | cons p m ih =>
    simp only [List.map_cons, List.filter_cons, gent, same_i]
    rw [show (List.map (gent f) m) = List.map (gent f) m from rfl]
    cases h : (p.1 == k)
    · simp only [Bool.not_false, if_true, List.map_cons]
      rw [ih]
      rfl
    · simp only [Bool.not_true, Bool.false_eq_true, if_false]
      exact ih
theorem gmap_ins (x : Int × α) (m : List (Int × α)) : DataW.insert (gent f x) (m.map (gent f)) = (insM x m).map (gent f) := by
  induction m with
  | nil => rfl
  | cons y r ih =>
    simp only [List.map_cons, DataW.insert, insM, gent, Lit.before]
    by_cases h : x.1 < y.1
    · simp [h, gent]
    · simpa [h, gent] using ih
theorem gmap_put (m : List (Int × α)) (k : Int) (h : α) : (gmap f m).put (.int .i64 k) (f h) = gmap f (putM m k h) := by
  have e := gmap_del f m k
  unfold gmap DataW.del at e
  simp only [DataW.map.injEq] at e
  unfold gmap DataW.put putM
  simp only [DataW.map.injEq]
  rw [e]
  exact gmap_ins f (k, h) _
theorem gmap_has (m : List (Int × α)) (k : Int) : Maps.has (gmap f m) (.int .i64 k) = (getM m k).isSome := by
  unfold gmap Maps.has getM
  induction m with
  | nil => rfl
  | cons p m ih =>
    have e : (gent f p).1.sameKey (.int .i64 k) = (p.1 == k) := same_i _ _
    simp only [List.map_cons, List.any_cons, e, List.find?_cons]
    cases h : (p.1 == k)
    · simpa using ih
    · simp
theorem gmap_at (m : List (Int × α)) (k : Int) (z : DataW Unit) : (gmap f m).atKey (.int .i64 k) z = match getM m k with | some v => f v | none => z := by
  unfold gmap DataW.atKey getM
  induction m with
  | nil => rfl
  | cons p m ih =>
    have e : (gent f p).1.sameKey (.int .i64 k) = (p.1 == k) := same_i _ _
    simp only [List.map_cons, e, List.find?_cons]
    cases h : (p.1 == k)
    · simpa using ih
    · simp [gent]
theorem gmap_size (m : List (Int × α)) : Maps.size (gmap f m) = m.length := by simp [gmap, Maps.size]
theorem gmap_keys (m : List (Int × α)) : intKeys (gmap f m) = keysM m := by
  simp only [intKeys, gmap, keysM, List.map_map]
  rfl
end

section
variable {α : Type}
theorem mem_insM {x p : Int × α} : ∀ {m : List (Int × α)}, p ∈ insM x m ↔ p = x ∨ p ∈ m
  | [] => by simp [insM]
  | y :: r => by
    unfold insM
    split
    · simp
    · simp only [List.mem_cons, mem_insM]
      constructor
      · rintro (h | h | h) <;> simp [h]
      · rintro (h | h | h) <;> simp [h]
theorem delM_ne {m : List (Int × α)} {k : Int} : ∀ p ∈ delM m k, p.1 ≠ k := by
  intro p hp
  have := (List.mem_filter.1 hp).2
  simpa using this
theorem mem_delM {m : List (Int × α)} {k : Int} {p : Int × α} : p ∈ delM m k ↔ p ∈ m ∧ p.1 ≠ k := by
  unfold delM
  rw [List.mem_filter]
  simp
theorem rise_insM {x : Int × α} : ∀ {m : List (Int × α)}, Rise (keysM m) → (∀ p ∈ m, p.1 ≠ x.1) → Rise (keysM (insM x m))
  | [], _, _ => by simp [insM, Rise, keysM]
  | y :: r, h, hx => by
    have h1 := List.pairwise_cons.1 h
    unfold insM
    split
    · rename_i hb
      refine List.pairwise_cons.2 ⟨fun a ha => ?_, h⟩
      simp only [keysM, List.map_cons, List.mem_cons] at ha
      rcases ha with rfl | ha
      · exact hb
      · exact Int.lt_trans hb (h1.1 a ha)
    · rename_i hb
      have hne : y.1 ≠ x.1 := hx y (by simp)
      refine List.pairwise_cons.2 ⟨fun a ha => ?_, rise_insM h1.2 (fun p hp => hx p (by simp [hp]))⟩
      obtain ⟨p, hp, rfl⟩ := List.mem_map.1 ha
      rcases mem_insM.1 hp with rfl | hp
      · show y.1 < p.1
        omega
      · exact h1.1 _ (List.mem_map.2 ⟨p, hp, rfl⟩)
theorem rise_del {m : List (Int × α)} (h : Rise (keysM m)) (k : Int) : Rise (keysM (delM m k)) := by
  unfold Rise keysM delM at *
  exact h.sublist (List.Sublist.map _ List.filter_sublist)
theorem rise_put {m : List (Int × α)} (h : Rise (keysM m)) (k : Int) (v : α) : Rise (keysM (putM m k v)) := rise_insM (rise_del h k) delM_ne
theorem mem_keys {m : List (Int × α)} {k : Int} : k ∈ keysM m ↔ (getM m k).isSome = true := by
  unfold keysM getM
  rw [Option.isSome_map, List.find?_isSome, List.mem_map]
  constructor
  · rintro ⟨p, hp, rfl⟩; exact ⟨p, hp, by simp⟩
  · rintro ⟨p, hp, h⟩; exact ⟨p, hp, by simpa using h⟩
theorem find_insM {x : Int × α} {k : Int} (hk : x.1 ≠ k) : ∀ {m : List (Int × α)}, (insM x m).find? (fun p => p.1 == k) = m.find? (fun p => p.1 == k)
  | [] => by simp [insM, hk]
  | y :: r => by
    unfold insM
    split
    · rw [List.find?_cons_of_neg (by simp [hk])]
    · rw [List.find?_cons, List.find?_cons]
      split
      · rfl
      · exact find_insM hk
theorem find_insM_same {x : Int × α} : ∀ {m : List (Int × α)}, (∀ p ∈ m, p.1 ≠ x.1) → (insM x m).find? (fun p => p.1 == x.1) = some x
  | [], _ => by simp [insM]
  | y :: r, h => by
    unfold insM
    split
    · simp
    · rw [List.find?_cons_of_neg (by simp [h y (by simp)])]
      exact find_insM_same (fun p hp => h p (by simp [hp]))
theorem getM_put (m : List (Int × α)) (k x : Int) (v : α) : getM (putM m k v) x = if x = k then some v else getM m x := by
  unfold getM putM
  split
  · rename_i h
    subst h
    have := find_insM_same (x := (x, v)) (m := delM m x) delM_ne
    rw [this]
    rfl
  · rename_i h
    rw [find_insM (x := (k, v)) (k := x) (fun e => h e.symm)]
    congr 1
    unfold delM
    rw [List.find?_filter]
    congr 1
    funext p
    by_cases e : p.1 = x
    · simp [e, h]
    · simp [e]
theorem mem_keys_put {m : List (Int × α)} {k x : Int} {v : α} : x ∈ keysM (putM m k v) ↔ x = k ∨ x ∈ keysM m := by
  rw [mem_keys, mem_keys, getM_put]
  split
  · rename_i h; simp [h]
  · rename_i h; simp [h]
theorem len_insM (x : Int × α) : ∀ m : List (Int × α), (insM x m).length = m.length + 1
  | [] => rfl
  | y :: r => by
    unfold insM
    split
    · simp
    · simp [len_insM x r]
theorem del_none {m : List (Int × α)} {k : Int} (h : getM m k = none) : delM m k = m := by
  unfold delM
  rw [List.filter_eq_self]
  intro p hp
  have hk : ¬ k ∈ keysM m := by rw [mem_keys, h]; simp
  have : p.1 ≠ k := fun e => hk (List.mem_map.2 ⟨p, hp, e⟩)
  simpa using this
theorem len_put_le (m : List (Int × α)) (k : Int) (v : α) : (putM m k v).length ≤ m.length + 1 := by
  unfold putM
  rw [len_insM]
  have := List.length_filter_le (fun p : Int × α => !(p.1 == k)) m
  unfold delM
  omega
theorem srt_keys {m : List (Int × α)} (h : Rise (keysM m)) : srt (keysM m) = keysM m := by
  unfold srt
  refine List.mergeSort_of_pairwise ?_
  exact h.imp (fun h => by simp; omega)
end

end Go.Proofs.Ytdloopgdohjedaa
