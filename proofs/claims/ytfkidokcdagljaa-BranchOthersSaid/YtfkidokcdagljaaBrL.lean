/-
  Branch's laws: what is done with one name (plain words).
-/
import Derived.Test.YtfkidokcdagljaaBrK
set_option linter.unusedVariables false
set_option linter.unusedSimpArgs false
namespace Go.Proofs.Ytfkidokcdagljaa
open Go.RowKit Go.Maps Go.WideMaps Go.WideElems Go.Sort Go.Shelf Go.Proofs.YtfkidokcdagljaaW.PrintWords PBranchPlays

theorem get_mem {m : Tb} (hs : Srt m) {p : List UInt8 × Int} (h : p ∈ m) : getB m p.1 = some p.2 := by
  obtain ⟨i, hi⟩ := List.mem_iff_getElem?.1 h
  exact srt_get hs hi
theorem get_none {m : Tb} {k : List UInt8} (h : ∀ p ∈ m, p.1 ≠ k) : getB m k = none := by
  unfold getB
  rw [Option.map_eq_none_iff, List.find?_eq_none]
  intro p hp
  simpa using h p hp
theorem get_del_other {m : Tb} (hs : Srt m) {k : List UInt8} {p : List UInt8 × Int} (h : p ∈ m) (hk : p.1 ≠ k) : getB (delB m k) p.1 = some p.2 :=
  get_mem (srt_del hs k) (List.mem_filter.2 ⟨h, by simpa using hk⟩)
theorem get_put_other {m : Tb} (hs : Srt m) {k : List UInt8} {v : Int} {p : List UInt8 × Int} (h : p ∈ m) (hk : p.1 ≠ k) : getB (putB m k v) p.1 = some p.2 :=
  get_mem (srt_put hs k v) (mem_insB.2 (.inr (List.mem_filter.2 ⟨h, by simpa using hk⟩)))
theorem get_put_same {m : Tb} (hs : Srt m) {k : List UInt8} {v : Int} : getB (putB m k v) k = some v :=
  get_mem (p := (k, v)) (srt_put hs k v) (mem_insB.2 (.inl rfl))

/-- What an act of one name leaves. -/
structure Acted (m m' : Tb) (k : List UInt8) (drop : Bool) (v e : Int) : Prop where
  good : Good m'
  stays : ∀ p ∈ m, (p.1 ≠ k ∨ e ≠ 0) → getB m' p.1 = some p.2
  done : e = 0 → if drop then getB m' k = none else getB m' k = some v
theorem acted_drop {m : Tb} (h : Good m) (k : List UInt8) (v : Int) : Acted m (opDrop m k).1 k true v (opDrop m k).2 := by
  refine ⟨good_drop h k, ?_, ?_⟩
  · intro p hp hk
    unfold opDrop at hk ⊢
    split
    · rename_i hg
      rw [if_pos hg] at hk
      exact get_del_other h.srt hp (hk.resolve_right (by simp))
    · exact get_mem h.srt hp
  · intro he
    simp only [if_true]
    unfold opDrop at he ⊢
    split
    · exact get_none delB_ne
    · rename_i hg
      rw [if_neg hg] at he
      cases he
theorem acted_set {m : Tb} (h : Good m) (nm : ByteArray) (v : Int) : Acted m (opSet m nm v).1 nm.data.toList false v (opSet m nm v).2 := by
  refine ⟨good_set h nm v, ?_, ?_⟩
  · intro p hp hk
    unfold opSet at hk ⊢
    split
    · exact get_mem h.srt hp
    · rename_i h1
      rw [if_neg h1] at hk
      split
      · exact get_mem h.srt hp
      · rename_i h2
        rw [if_neg h2] at hk
        exact get_put_other h.srt hp (hk.resolve_right (by simp))
  · intro he
    simp only [Bool.false_eq_true, if_false]
    unfold opSet at he ⊢
    split
    · rename_i h1; rw [if_pos h1] at he; cases he
    · rename_i h1
      rw [if_neg h1] at he
      split
      · rename_i h2; rw [if_pos h2] at he; cases he
      · exact get_put_same h.srt

/-- At each round's head. -/
def RelT (w : World) (t bm : Nat) (m : Tb) (wr : World) : Prop := Good m ∧ Tab wr t bm m ∧ Below w.heap.size w wr ∧ w.heap.size ≤ t ∧ w.heap.size ≤ bm
theorem relT_moved {w wr w' : World} {t bm : Nat} {m m' : Tb} (h : RelT w t bm m wr) (hm : Moved wr w' t bm m') (hg : Good m') : RelT w t bm m' w' :=
  ⟨hg, hm.tab, hm.below h.2.2.1 h.2.2.1.size h.2.2.2.2, h.2.2.2.1, h.2.2.2.2⟩
theorem relT_below {w wr w' : World} {t bm : Nat} {m : Tb} (h : RelT w t bm m wr) (hb : Below wr.heap.size wr w') : RelT w t bm m w' :=
  ⟨h.1, h.2.1.below hb, below_then h.2.2.1 h.2.2.1.size hb, h.2.2.2.1, h.2.2.2.2⟩

/-- The three cells of an act of the call's own. -/
def Boxed (w : World) (b : Nat) (x : S30) : Prop := b < w.heap.size ∧ w.cell? ⟨b, 0, none⟩ = some (.int .u8 x.f0) ∧ w.cell? ⟨b, 1, none⟩ = some (.string x.f1) ∧ w.cell? ⟨b, 2, none⟩ = some (.int .i64 x.f2)
theorem boxed_new (w : World) (x : S30) : Boxed (w.alloc (.cells #[.int .u8 x.f0, .string x.f1, .int .i64 x.f2] 30)) w.heap.size x := by
  have h := heap_alloc_new w (.cells #[.int .u8 x.f0, .string x.f1, .int .i64 x.f2] 30)
  exact ⟨by simp, blk_cell h 0, blk_cell h 1, blk_cell h 2⟩
theorem Boxed.below {w w' : World} {b : Nat} {x : S30} (h : Boxed w b x) (hb : Below w.heap.size w w') : Boxed w' b x :=
  ⟨Nat.lt_of_lt_of_le h.1 hb.size, (hb.cell (p := ⟨b, 0, none⟩) h.1).trans h.2.1, (hb.cell (p := ⟨b, 1, none⟩) h.1).trans h.2.2.1, (hb.cell (p := ⟨b, 2, none⟩) h.1).trans h.2.2.2⟩

end Go.Proofs.Ytfkidokcdagljaa
