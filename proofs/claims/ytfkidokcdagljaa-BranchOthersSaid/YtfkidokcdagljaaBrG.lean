/-
  Branch's laws: the live question.
-/
import Derived.Test.YtfkidokcdagljaaBrF
set_option linter.unusedVariables false
set_option linter.unusedSimpArgs false
namespace Go.Proofs.Ytfkidokcdagljaa
open Go.RowKit Go.Maps Go.WideMaps Go.WideElems Go.Sort Go.Shelf Go.Proofs.YtfkidokcdagljaaW.PrintWords PBranchPlays

theorem set_to {t bm : Nat} {m m' : Tb} {nm : ByteArray} {v r : Int} {w : World} (ht : Tab w t bm m) (hn : nm.size ≤ maxLen) (hm : m.length < maxLen) (hv : (Lit.int .i64 v).wf = true) (h : opSet m nm v = (m', r)) :
    Calls Try.prog 12 #[.pointer (some ⟨t, 0, none⟩), .string nm, .int .i64 v] w fun e w' => e = .returned (.int .i64 r) ∧ Moved w w' t bm m' := by
  have := set_any t bm m nm v w ht hn hm hv
  rw [h] at this
  exact this
theorem drop_to {t bm : Nat} {m m' : Tb} {nm : ByteArray} {r : Int} {w : World} (ht : Tab w t bm m) (hn : nm.size ≤ maxLen) (h : opDrop m nm.data.toList = (m', r)) :
    Calls Try.prog 8 #[.pointer (some ⟨t, 0, none⟩), .string nm] w fun e w' => e = .returned (.int .i64 r) ∧ Turned w w' t bm m' := by
  have := drop_any t bm m nm w ht hn
  rw [h] at this
  exact this
theorem head_to {t bm : Nat} {m : Tb} {nm : ByteArray} {x r : Int} {w : World} (ht : Tab w t bm m) (hn : nm.size ≤ maxLen) (h : opHead m nm.data.toList = (x, r)) :
    Calls Try.prog 10 #[.pointer (some ⟨t, 0, none⟩), .string nm] w fun e w' => e = .returned (.tuple #[.int .i64 x, .int .i64 r]) ∧ w = w' := by
  have := head_any t bm m nm w ht hn
  rw [h] at this
  exact this
theorem right_to {nm : ByteArray} {b : Bool} {w : World} (hn : nm.size ≤ maxLen) (h : rightB nm = b) : Calls Try.prog 15 #[.string nm] w fun e w' => e = .returned (.bool b) ∧ Below w.heap.size w w' := by
  have := right_any nm w hn
  rw [h] at this
  exact this
theorem Moved.below {w w1 w' : World} {B t bm : Nat} {m : Tb} (h : Moved w1 w' t bm m) (hb : Below B w w1) (hB : B ≤ w1.heap.size) (hbm : B ≤ bm) : Below B w w' :=
  hb.grown h.grown hB (fun k hk => by cases hk; exact hbm)

def nMain : List UInt8 := [109, 97, 105, 110]
def nA1 : List UInt8 := [97, 49]

set_option maxRecDepth 100000 in
set_option maxHeartbeats 2000000 in
theorem alive_any (w : World) : Calls Try.prog 6 #[] w fun e w' => e = .returned (.bool true) ∧ Below w.heap.size w w' := by
  go_enter Try.func6, Try.ntmps6
  go_wp2_with fail
  refine (new_any _).mono ?_
  rintro e w1 ⟨rfl, ht1, hb1, hs1⟩
  have hB := hb1.size
  have e1 : ∃ t bm, t = w.heap.size + 1 ∧ bm = w.heap.size := ⟨_, _, rfl, rfl⟩
  obtain ⟨t, bm, et, ebm⟩ := e1
  rw [← et, ← ebm] at ht1
  rw [← et]
  have hbm : w.heap.size ≤ bm := by omega
  clear hs1 et ebm
  go_wp2_with fail
  refine (set_to (m' := [(nMain, 7)]) (r := 0) ht1 (by decide) (by decide) (by decide) (by decide)).mono ?_
  rintro e w2 ⟨rfl, hm2⟩
  go_wp2_with fail
  refine (set_to (m' := [(nA1, 8), (nMain, 7)]) (r := 0) hm2.tab (by decide) (by decide) (by decide) (by decide)).mono ?_
  rintro e w3 ⟨rfl, hm3⟩
  go_wp2_with fail
  refine (set_to (m' := [(nA1, 8), (nMain, 9)]) (r := 0) hm3.tab (by decide) (by decide) (by decide) (by decide)).mono ?_
  rintro e w4 ⟨rfl, hm4⟩
  go_wp2_with fail
  refine (set_to (m' := [(nA1, 8), (nMain, 9)]) (r := 1) hm4.tab (by decide) (by decide) (by decide) (by decide)).mono ?_
  rintro e w5 ⟨rfl, hm5⟩
  go_wp2_with fail
  refine (head_to (x := 9) (r := 0) hm5.tab (by decide) (by decide)).mono ?_
  rintro e w6 ⟨rfl, rfl⟩
  go_wp2_with fail
  refine (drop_to (m' := [(nMain, 9)]) (r := 0) hm5.tab (by decide) (by decide)).mono ?_
  rintro e w7 ⟨rfl, hm7⟩
  go_wp2_with fail
  refine (drop_to (m' := [(nMain, 9)]) (r := 4) hm7.tab (by decide) (by decide)).mono ?_
  rintro e w8 ⟨rfl, hm8⟩
  go_wp2_with fail
  refine (names_any t bm [(nMain, 9)] _ hm8.tab (by unfold Srt; simp) (by decide)).mono ?_
  rintro e w9 ⟨v, rfl, hv, hb9⟩
  obtain ⟨A1, c1, rfl, hc1, hR1⟩ := names_reads hv
  obtain ⟨a1, rfl, hcell⟩ := names_at hR1 (Below.refl _ _) (k := 0) (by decide)
  have hb2 := hm2.below hb1 hB hbm
  have hb3 := hm3.below hb2 hb2.size hbm
  have hb4 := hm4.below hb3 hb3.size hbm
  have hb5 := hm5.below hb4 hb4.size hbm
  have hb7 := hm7.moved.below hb5 hb5.size hbm
  have hb8 := hm8.moved.below hb7 hb7.size hbm
  have hbz := below_then hb8 hb8.size hb9
  clear hb2 hb3 hb4 hb5 hb7 hb8 hb9 hm2 hm3 hm4 hm5 hm7 hm8 ht1 hv hR1 hb1 hB
  have hcell1 : w9.cell? (a1.add 0) = some (.string ⟨#[109, 97, 105, 110]⟩) := hcell
  have hcell2 : w9.cell? a1 = some (.string ⟨#[109, 97, 105, 110]⟩) := Addr.add_zero' a1 ▸ hcell1
  clear hcell hcell1
  go_wp2_with fail
  refine (right_to (b := true) (by decide) (by decide)).mono ?_
  rintro e wa ⟨rfl, hba⟩
  have hbz := below_then hbz hbz.size hba
  clear hba hcell2
  go_wp2_with fail
  refine (right_to (b := false) (by decide) (by decide)).mono ?_
  rintro e wc ⟨rfl, hbc⟩
  have hbz := below_then hbz hbz.size hbc
  clear hbc
  go_wp2_with fail
  go_ret
  exact ⟨rfl, hbz⟩

end Go.Proofs.Ytfkidokcdagljaa
