/-
  Branch's laws: the walk of same, where both have the same.
-/
import Derived.Test.YtfkidokcdagljaaBrE
set_option linter.unusedVariables false
set_option linter.unusedSimpArgs false
namespace Go.Proofs.Ytfkidokcdagljaa
open Go.RowKit Go.Maps Go.WideMaps Go.WideElems Go.Sort Go.Shelf Go.Proofs.YtfkidokcdagljaaW.PrintWords PBranchPlays

def refB (m : Tb) : List S52 := m.map fun p => ⟨keyB p, p.2⟩
theorem refB_length (m : Tb) : (refB m).length = m.length := by simp [refB]
theorem ref_at {m : Tb} {w2 wr : World} {A : Option Addr} (hR : Kd.C k52 w2 A m.length (refB m)) (hb : Below w2.heap.size w2 wr) {k : Nat} (hk : k < m.length) :
    ∃ ad, A = some ad ∧ wr.cell? (ad.add (k * 2)) = some (.string (keyB m[k])) ∧ wr.cell? ⟨(ad.add (k * 2)).block, (ad.add (k * 2)).off + 1, none⟩ = some (.int .i64 m[k].2) := by
  obtain ⟨ad, rfl, h1, h2⟩ := at_T52 hR (k : Int) (by omega) (by omega)
  have e : rd_T52 (refB m) (k : Int) = ⟨keyB m[k], m[k].2⟩ := by simp [rd_T52, refB, List.getD_eq_getElem?_getD, hk]
  rw [e] at h1 h2
  exact ⟨ad, rfl, pw_cell_below hb h1, pw_cell_below hb h2⟩
theorem heads_reads {m : Tb} {w2 : World} {B : Nat} {ok : Nat → Prop} {v : Value} (hv : Kd.R (Kd.int .i64) 3 w2 B ok v (headsB m)) : ∃ A c, v = .slice A m.length c ∧ m.length ≤ c ∧ ReadsOf (Value.int .i64) (0 : Int) w2 A m.length (headsB m) := by
  obtain ⟨A, c, rfl, hc, hC⟩ := Kd.R_reads hv
  have hR := Kd.reads_of_C (d := (0 : Int)) hC
  have hlen : (headsB m).length = m.length := by simp [headsB]
  rw [hlen] at hR hc ⊢
  exact ⟨A, c, rfl, hc, hR⟩
theorem heads_at {m : Tb} {w2 wr : World} {A : Option Addr} (hR : ReadsOf (Value.int .i64) (0 : Int) w2 A m.length (headsB m)) (hb : Below w2.heap.size w2 wr) {k : Nat} (hk : k < m.length) :
    ∃ ad, A = some ad ∧ wr.cell? (ad.add k) = some (.int .i64 m[k].2) := by
  obtain ⟨ad, rfl, hc⟩ := hR.2.2 (by omega)
  refine ⟨ad, rfl, (pw_cell_below hb (hc k hk)).trans ?_⟩
  simp [headsB, List.getD_eq_getElem?_getD, hk]

set_option maxHeartbeats 1000000 in
theorem same_true (t bm : Nat) (m : Tb) (A : Option Addr) (c : Nat) (w : World) (ht : Tab w t bm m) (hs : Srt m) (hm : m.length ≤ 1000) (hc : m.length ≤ c) (hl : Kd.C k52 w A m.length (refB m)) :
    Calls Try.prog 14 #[.pointer (some ⟨t, 0, none⟩), .slice A m.length c] w fun e w' => e = .returned (.bool true) ∧ Below w.heap.size w w' := by
  have HS := Lib.hid hs
  have HC := Lib.hid hl
  clear hs hl
  go_enter Try.func14, Try.ntmps14
  go_wp2_with (first
    | (go_at_call 17; refine (names_any t bm m _ ht HS.out hm).mono ?_; rintro e w2 ⟨v, rfl, hv, hb⟩; obtain ⟨A1, c1, rfl, hc1, hR1⟩ := names_reads hv; clear hv; have HR1 := Lib.hid hR1; clear hR1)
    | (go_at_call 18; refine (heads_any t bm m _ (ht.below hb) HS.out hm).mono ?_; rintro e w3 ⟨v, rfl, hv, hb3⟩; obtain ⟨A2, c2, rfl, hc2, hR2⟩ := heads_reads hv; clear hv; have HR2 := Lib.hid hR2; clear hR2)
    | go_in)
  go_loopw [7] (fun i wr => ∃ k : Nat, k ≤ m.length ∧ i = .int .i64 k ∧ Below w3.heap.size w3 wr) (fun i _ => m.length - (intOf i).toNat)
  case atStart => exact ⟨0, Nat.zero_le _, rfl, Below.refl _ _⟩
  case round =>
    obtain ⟨k, hk, rfl, hbr⟩ := hrel
    by_cases hlt : k < m.length
    · have hb2 := below_then hb3 hb3.size hbr
      obtain ⟨a1, rfl, hcell1⟩ := names_at HR1.out hb2 hlt
      obtain ⟨a2, rfl, hcell2⟩ := heads_at HR2.out hbr hlt
      obtain ⟨a3, rfl, hcell3, hcell4⟩ := ref_at HC.out (below_then hb hb.size hb2) hlt
      obtain ⟨nm, hnm⟩ : ∃ nm, nm = keyB m[k] := ⟨_, rfl⟩
      obtain ⟨h0, hh0⟩ : ∃ h0, h0 = m[k].2 := ⟨_, rfl⟩
      rw [← hnm] at hcell1 hcell3
      rw [← hh0] at hcell2 hcell4
      clear hnm hh0
      have hlt' : (k : Int) < (m.length : Int) := by omega
      go_wp2
      go_quiet (fail)
      go_wp2
      go_roundw
      case rel => exact ⟨k + 1, by omega, by go_num, pw_below_drewN hbr _⟩
      case measure => simp [intOf]; omega
    · obtain rfl : k = m.length := by omega
      go_wp2
      go_ret
      exact ⟨rfl, below_then hb hb.size (below_then hb3 hb3.size hbr)⟩

end Go.Proofs.Ytfkidokcdagljaa
