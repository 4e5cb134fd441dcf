/-
  Branch's table: the walks of Names and Heads.
-/
import Derived.Test.YtfkidokcdagljaaBrC
import Derived.Test.YtfkidokcdagljaaIter
import Derived.Test.YtfkidokcdagljaaPBranchPlaysx0
set_option linter.unusedVariables false
set_option linter.unusedSimpArgs false
namespace Go.Proofs.Ytfkidokcdagljaa
open Go.RowKit Go.Maps Go.WideMaps Go.WideElems Go.Sort Go.Shelf Go.Proofs.YtfkidokcdagljaaW.PrintWords

theorem bytesBefore_eq : ∀ (x y : List UInt8), bytesBefore x y = decide (x < y)
  | [], [] => by simp [bytesBefore]
  | [], y :: ys => by simp [bytesBefore]
  | x :: xs, [] => by simp [bytesBefore]
  | x :: xs, y :: ys => by
    have ih := bytesBefore_eq xs ys
    simp only [bytesBefore, List.cons_lt_cons_iff, ih]
    by_cases h1 : x < y
    · simp [h1]
    · by_cases h2 : x = y
      · subst h2; simp
      · simp [h1, h2]

def Srt (m : Tb) : Prop := (m.map (·.1)).Pairwise (fun a b => a < b)
def keyB (p : List UInt8 × Int) : ByteArray := ⟨p.1.toArray⟩
def namesB (m : Tb) : List ByteArray := m.map keyB

theorem strKeys_mapOf (m : Tb) : strKeys (mapOf m) = m.map (·.1) := by
  simp only [strKeys, mapOf, List.map_map]
  rfl
theorem srt_merge {m : Tb} (hs : Srt m) {ss : List (List UInt8)} (hp : ss.Perm (strKeys (mapOf m))) : ss.mergeSort (fun x y => decide (x ≤ y)) = m.map (·.1) := by
  rw [strKeys_mapOf] at hp
  have := mergeSort_of_perm hp
  have e : leB = fun x y => decide (x ≤ y) := rfl
  rw [e] at this
  rw [this]
  refine List.mergeSort_of_pairwise ?_
  refine hs.imp ?_
  intro a b h
  simpa using List.le_of_lt h

theorem names_nil (w : World) : Calls Try.prog 17 #[.pointer none] w fun e w' => e = .returned (.slice none 0 0) ∧ w = w' := by
  go_enter Try.func17, Try.ntmps17
  go_wp2
  go_ret
  exact ⟨rfl, rfl⟩

def NamesAre (m : Tb) (w : World) (e : Ending) (w' : World) : Prop := ∃ v, e = .returned v ∧ Kd.R Kd.string 9 w' w.heap.size (fun k => w.heap.size ≤ k) v (namesB m) ∧ Below w.heap.size w w'

set_option maxHeartbeats 1000000 in
theorem names_any (t bm : Nat) (m : Tb) (w : World) (ht : Tab w t bm m) (hs : Srt m) (hm : m.length ≤ 1000) :
    Calls Try.prog 17 #[.pointer (some ⟨t, 0, none⟩)] w (NamesAre m w) := by
  refine (callsIn_wide (n := 6)).1 ?_
  have hfK : Fence.wide.fn 21 := trivial
  have hfS : Fence.wide.fn 20 := trivial
  have hcell := ht.cell
  have hown := ht.own
  have hmax : Maps.size (mapOf m) ≤ maxLen := by rw [size_mapOf]; unfold maxLen; omega
  have hbytes : Maps.size (mapOf m) * 16 ≤ 140737488355328 := by rw [size_mapOf]; omega
  refine callsIn_of_wp Try.func17 rfl trivial ?_ rfl
  simp only [Try.ntmps17, List.size_toArray, List.length_cons, List.length_nil, Nat.reduceAdd, Nat.reduceSub, Array.replicate_succ, Array.replicate_zero, List.push_toArray, List.append_toArray, List.nil_append, List.cons_append]
  gi_wp2_with (first
    | (gi_at_call 21; refine (Try.maps_Keys_21 _ _).mono ?_; rintro e w' ⟨rfl, rfl⟩)
    | (gi_at_call 20; refine (Try.slices_Sorted_keys_20_21 bm m.length (mapOf m) _ w hown hmax hbytes).mono ?_; rintro e w' ⟨v, ss, rfl, hS, hrow, hnil, hb⟩))
  go_ret
  rw [srt_merge hs hS] at hrow
  have hlen : ss.length = (namesB m).length := by
    have := hS.length_eq
    rw [this, strKeys_mapOf]
    simp [namesB]
  have hrow2 := ownsRow_base_a hrow (show w.heap.size ≤ (w.alloc (Obj.cells #[Value.map (some bm)] 47)).heap.size by simp)
  rw [hlen] at hrow2
  have he : (m.map (·.1)).map encStr = encs Value.string (namesB m) := by simp [encs, namesB, keyB, encStr]
  rw [he] at hrow2
  exact ⟨v, rfl, Kd.R_of_own hrow2 (fun k hk => own_base hrow2 k hk), ((Below.refl _ w).alloc (Nat.le_refl _) _).trans (hb.mono (by simp))⟩

end Go.Proofs.Ytfkidokcdagljaa
