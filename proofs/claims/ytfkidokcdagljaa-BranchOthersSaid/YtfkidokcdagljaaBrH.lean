/-
  Branch's laws: any acts on a table, and on the document's.
-/
import Derived.Test.YtfkidokcdagljaaBrG
import Derived.Test.YtfkidokcdagljaaBrP
import Derived.Test.YtfkidokcdagljaaPBranchPlaysx1
import Derived.StillTailTactics
set_option linter.unusedVariables false
set_option linter.unusedSimpArgs false
namespace Go.Proofs.Ytfkidokcdagljaa
open Go.RowKit Go.Maps Go.WideMaps Go.WideElems Go.Sort Go.Shelf Go.Proofs.YtfkidokcdagljaaW.PrintWords PBranchPlays

/-! ### The states -/
theorem srt_del {m : Tb} (h : Srt m) (k : List UInt8) : Srt (delB m k) := by
  unfold Srt delB at *
  exact h.sublist (List.Sublist.map _ List.filter_sublist)
theorem mem_insB {x p : List UInt8 × Int} : ∀ {m : Tb}, p ∈ insB x m ↔ p = x ∨ p ∈ m
  | [] => by simp [insB]
  | y :: r => by
    unfold insB
    split
    · simp
    · simp only [List.mem_cons, mem_insB]
      constructor
      · rintro (h | h | h) <;> simp [h]
      · rintro (h | h | h) <;> simp [h]
theorem srt_ins {x : List UInt8 × Int} : ∀ {m : Tb}, Srt m → (∀ p ∈ m, p.1 ≠ x.1) → Srt (insB x m)
  | [], _, _ => by simp [insB, Srt]
  | y :: r, h, hx => by
    have h1 := List.pairwise_cons.1 h
    unfold insB
    split
    · rename_i hb
      rw [bytesBefore_eq] at hb
      have hb' : x.1 < y.1 := by simpa using hb
      refine List.pairwise_cons.2 ⟨fun a ha => ?_, h⟩
      simp only [List.map_cons, List.mem_cons] at ha
      rcases ha with rfl | ha
      · exact hb'
      · exact List.lt_trans hb' (h1.1 a ha)
    · rename_i hb
      rw [bytesBefore_eq] at hb
      have hb' : ¬ x.1 < y.1 := by simpa using hb
      have hne : y.1 ≠ x.1 := hx y (by simp)
      have hlt : y.1 < x.1 := by
        have hle : y.1 ≤ x.1 := by simpa using hb'
        rcases List.le_iff_lt_or_eq.1 hle with h | h
        · exact h
        · exact absurd h hne
      refine List.pairwise_cons.2 ⟨fun a ha => ?_, srt_ins h1.2 (fun p hp => hx p (by simp [hp]))⟩
      obtain ⟨p, hp, rfl⟩ := List.mem_map.1 ha
      rcases mem_insB.1 hp with rfl | hp
      · exact hlt
      · exact h1.1 _ (List.mem_map.2 ⟨p, hp, rfl⟩)
theorem delB_ne {m : Tb} {k : List UInt8} : ∀ p ∈ delB m k, p.1 ≠ k := by
  intro p hp
  have := (List.mem_filter.1 hp).2
  simpa using this
theorem srt_put {m : Tb} (h : Srt m) (k : List UInt8) (v : Int) : Srt (putB m k v) := srt_ins (srt_del h k) delB_ne
theorem len_insB (x : List UInt8 × Int) : ∀ m : Tb, (insB x m).length = m.length + 1
  | [] => rfl
  | y :: r => by
    unfold insB
    split
    · simp
    · simp [len_insB x r]
theorem delB_lt {m : Tb} {k : List UInt8} {v : Int} (h : getB m k = some v) : (delB m k).length < m.length := by
  unfold getB at h
  rw [Option.map_eq_some_iff] at h
  obtain ⟨p, hp, _⟩ := h
  have hm := List.mem_of_find?_eq_some hp
  have hk := List.find?_some hp
  exact List.length_filter_lt_length_iff_exists.2 ⟨p, hm, by simpa using hk⟩
/-- What holds of a table's contents. -/
structure Good (m : Tb) : Prop where
  srt : Srt m
  len : m.length ≤ 16
theorem good_nil : Good [] := ⟨List.Pairwise.nil, by simp⟩
theorem good_set {m : Tb} (h : Good m) (nm : ByteArray) (v : Int) : Good (opSet m nm v).1 := by
  unfold opSet
  split
  · exact h
  · split
    · exact h
    · rename_i h1 h2
      refine ⟨srt_put h.srt _ _, ?_⟩
      show (putB m nm.data.toList v).length ≤ 16
      unfold putB
      rw [len_insB]
      have hl := h.len
      cases hg : getB m nm.data.toList with
      | none =>
        rw [delB_none hg]
        simp only [hg, true_and] at h2
        omega
      | some x =>
        have := delB_lt hg
        omega
theorem good_drop {m : Tb} (h : Good m) (k : List UInt8) : Good (opDrop m k).1 := by
  unfold opDrop
  split
  · exact ⟨srt_del h.srt _, Nat.le_trans (delB_le _ _) h.len⟩
  · exact h

/-! ### What is kept -/
theorem Tab.of_blocks {w w' : World} {t bm : Nat} {m : Tb} (h : Tab w t bm m) (h1 : w'.heap[t]? = w.heap[t]?) (h2 : w'.heap[bm]? = w.heap[bm]?) : Tab w' t bm m := by
  refine ⟨h1.trans h.blk, ?_⟩
  obtain ⟨es, clock, hb, r⟩ := h.own
  exact ⟨es, clock, h2.trans hb, r⟩
def Free (t bm k : Nat) : Prop := k ≠ t ∧ k ≠ bm
/-- At each round's head. -/
def Rel (w : World) (t bm : Nat) (m : Tb) (v : Value) (wr : World) : Prop :=
  Good m ∧ Tab wr t bm m ∧ Kd.R k52 52 wr w.heap.size (Free t bm) v (refB m) ∧ Below w.heap.size w wr ∧ w.heap.size ≤ t ∧ w.heap.size ≤ bm
/-- Behind what is done with the table. -/
theorem rel_one {w wr w1 : World} {t bm : Nat} {m m' : Tb} {v : Value} (h : Rel w t bm m v wr) (hm : Moved wr w1 t bm m') :
    Tab w1 t bm m' ∧ Kd.R k52 52 w1 w.heap.size (Free t bm) v (refB m) ∧ Below w.heap.size w w1 :=
  ⟨hm.tab, Kd.R_grown h.2.2.1 hm.grown (fun k hk e => hk.2 (by injection e)), hm.below h.2.2.2.1 h.2.2.2.1.size h.2.2.2.2.2⟩
/-- Behind what the document's function answers. -/
theorem rel_two {w w1 w2 : World} {t bm : Nat} {m' : Tb} {v2 : Value} (hg : Good m') (ht : Tab w1 t bm m') (hb1 : Below w.heap.size w w1) (h1 : w.heap.size ≤ t) (h2 : w.heap.size ≤ bm)
    (hv : Kd.R k52 52 w2 w.heap.size (fun k => Free t bm k ∨ w1.heap.size ≤ k) v2 (refB m')) (hb : Below w.heap.size w w2) (hk : Kept w1 w2 (Free t bm)) : Rel w t bm m' v2 w2 := by
  have lt : t < w1.heap.size := (Array.getElem?_eq_some_iff.1 ht.blk).1
  have lb : bm < w1.heap.size := ht.own.lt
  refine ⟨hg, ht.of_blocks (hk.2 t lt (fun h => h.1 rfl)) (hk.2 bm lb (fun h => h.2 rfl)), Kd.R_mono hv (fun k hk => ?_), hb, h1, h2⟩
  rcases hk with hk | hk
  · exact hk
  · exact ⟨by omega, by omega⟩

theorem fits_ev (l : List S30) : ∃ k r, gridironlaw17_fits.f k l = some r ∧ (r = true → l.length ≤ 100) := by
  unfold gridironlaw17_fits.f
  by_cases h : (l.length : Int) > 100
  · exact ⟨0, false, by rw [if_pos h], fun h => by cases h⟩
  · have hl : l.length ≤ 100 := by omega
    have key : ∀ (d i k : Nat), i + d = l.length → d < k → ∃ r, gridironlaw17_fits.l0 k l (i : Int) = some r := by
      intro d
      induction d with
      | zero =>
        intro i k hi hk
        obtain ⟨k, rfl⟩ : ∃ k', k = k' + 1 := ⟨k - 1, by omega⟩
        simp only [gridironlaw17_fits.l0]
        rw [if_neg (by omega)]
        exact ⟨_, rfl⟩
      | succ d ih =>
        intro i k hi hk
        obtain ⟨k, rfl⟩ : ∃ k', k = k' + 1 := ⟨k - 1, by omega⟩
        simp only [gridironlaw17_fits.l0]
        rw [if_pos (by omega), if_pos (by omega), wrap_nat (by omega)]
        split
        · exact ⟨_, rfl⟩
        · exact ih (i + 1) k (by omega) (by omega)
    obtain ⟨r, hr⟩ := key l.length 0 (l.length + 1) (by omega) (by omega)
    exact ⟨_, r, by rw [if_neg h]; exact hr, fun _ => hl⟩

end Go.Proofs.Ytfkidokcdagljaa
