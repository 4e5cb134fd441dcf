/-
  Graph: what the document's functions come to: no program in sight.
-/
import Derived.Test.YtdloopgdohjedaaGrO
import Derived.Test.YtdloopgdohjedaaGrZ
import Derived.Test.YtdloopgdohjedaaPGraphTellsx10
set_option linter.unusedVariables false
set_option linter.unusedSimpArgs false
namespace Go.Proofs.Ytdloopgdohjedaa
open Go.RowKit Go.Maps Go.Shelf Go.Proofs.YtdloopgdohjedaaW.PrintWords PGraphTells

theorem w1 {i n : Nat} (h : i < n) (hn : n ≤ 1000000000) : wrap64 ((i : Int) + 1) = ((i + 1 : Nat) : Int) := by unfold wrap64; omega
theorem rd_at {l : List Int} {i : Nat} (h : i < l.length) : rd l (i : Int) = l[i] := by simp [rd, List.getD_eq_getElem?_getD, h]
theorem rd55_at {l : List S55} {i : Nat} (h : i < l.length) : rd_T55 l (i : Int) = l[i] := by simp [rd_T55, List.getD_eq_getElem?_getD, h]
theorem rd41_at {l : List S41} {i : Nat} (h : i < l.length) : rd_T41 l (i : Int) = l[i] := by simp [rd_T41, List.getD_eq_getElem?_getD, h]

/-! ### has -/
theorem has_at (l : List Int) (x : Int) (hl : l.length ≤ 1000000000) : ∀ d i : Nat, i + d = l.length → Ev (fun k => gridironref12_has.l0 k l x (i : Int)) ((l.drop i).contains x)
  | 0, i, h => ⟨1, fun k hk => by
    obtain ⟨k, rfl⟩ : ∃ m, k = m + 1 := ⟨k - 1, by omega⟩
    simp only [gridironref12_has.l0]
    rw [if_neg (by omega), List.drop_eq_nil_of_le (by omega)]
    rfl⟩
  | d + 1, i, h => by
    have hi : i < l.length := by omega
    refine Ev.step (f := fun k => if l[i] = x then some true else gridironref12_has.l0 k l x ((i + 1 : Nat) : Int)) (fun k => ?_) ?_
    · simp only [gridironref12_has.l0]
      rw [if_pos (by omega), if_pos (by omega), w1 hi hl, rd_at hi]
    · rw [List.drop_eq_getElem_cons hi, List.contains_cons]
      by_cases e : l[i] = x
      · simp only [if_pos e, ← e, beq_self_eq_true, Bool.true_or]
        exact Ev.now _
      · have e2 : (x == l[i]) = false := beq_eq_false_iff_ne.2 (fun h => e h.symm)
        simp only [if_neg e, e2, Bool.false_or]
        exact has_at l x hl d (i + 1) (by omega)
theorem has_ev (l : List Int) (x : Int) (hl : l.length ≤ 1000000000) : Ev (fun k => gridironref12_has.f k l x) (l.contains x) := by
  have := has_at l x hl l.length 0 (by omega)
  simpa [gridironref12_has.f] using this

/-! ### find -/
def findR (l : List S55) (n : Int) : Int × List Int × Bool := match l.find? (fun x => x.f0 == n) with | some x => (x.f0, x.f1, true) | none => (0, [], false)
theorem find_at (l : List S55) (x : Int) (hl : l.length ≤ 1000000000) : ∀ d i : Nat, i + d = l.length → Ev (fun k => gridironref12_find.l0 k l x (i : Int)) (findR (l.drop i) x)
  | 0, i, h => ⟨1, fun k hk => by
    obtain ⟨k, rfl⟩ : ∃ m, k = m + 1 := ⟨k - 1, by omega⟩
    simp only [gridironref12_find.l0]
    rw [if_neg (by omega), List.drop_eq_nil_of_le (by omega)]
    rfl⟩
  | d + 1, i, h => by
    have hi : i < l.length := by omega
    refine Ev.step (f := fun k => if l[i].f0 = x then some (l[i].f0, l[i].f1, true) else gridironref12_find.l0 k l x ((i + 1 : Nat) : Int)) (fun k => ?_) ?_
    · simp only [gridironref12_find.l0]
      rw [if_pos (by omega), if_pos (by omega), w1 hi hl, rd55_at hi]
    · unfold findR
      rw [List.drop_eq_getElem_cons hi, List.find?_cons]
      by_cases e : l[i].f0 = x
      · simp only [if_pos e]
        have e2 : (l[i].f0 == x) = true := beq_iff_eq.2 e
        simp only [e2]
        exact Ev.now _
      · have e2 : (l[i].f0 == x) = false := beq_eq_false_iff_ne.2 e
        simp only [if_neg e, e2]
        exact find_at l x hl d (i + 1) (by omega)
theorem find_ev (l : List S55) (x : Int) (hl : l.length ≤ 1000000000) : Ev (fun k => gridironref12_find.f k l x) (findR l x) := by
  have := find_at l x hl l.length 0 (by omega)
  simpa [gridironref12_find.f] using this
theorem findR_is (l : List S55) (n : Int) : (findR l n).2.2 = l.any (fun x => x.f0 == n) := by
  unfold findR
  cases h : l.find? (fun x => x.f0 == n) with
  | none =>
    symm
    rw [List.any_eq_false]
    exact fun x hx => by simpa using List.find?_eq_none.1 h x hx
  | some x =>
    symm
    rw [List.any_eq_true]
    exact ⟨x, List.mem_of_find?_eq_some h, (by have := List.find?_some h; exact this)⟩

/-! ### Nodes -/
def cands (i d : Nat) : List Int := (List.range' i d).map Int.ofNat
theorem cands_succ (i d : Nat) : cands i (d + 1) = (i : Int) :: cands (i + 1) d := by simp [cands, List.range'_succ]
theorem mem_cands {i d : Nat} {x : Int} : x ∈ cands i d ↔ (i : Int) ≤ x ∧ x < (i + d : Nat) := by
  unfold cands
  rw [List.mem_map]
  constructor
  · rintro ⟨j, hj, rfl⟩
    have := List.mem_range'.1 hj
    obtain ⟨q, hq, rfl⟩ := this
    show (i : Int) ≤ ((i + 1 * q : Nat) : Int) ∧ ((i + 1 * q : Nat) : Int) < _
    omega
  · rintro ⟨h1, h2⟩
    refine ⟨x.toNat, List.mem_range'.2 ⟨x.toNat - i, by omega, by omega⟩, ?_⟩
    show ((x.toNat : Nat) : Int) = x
    omega
theorem rise_cands : ∀ (d i : Nat), Rise (cands i d)
  | 0, i => by simp [cands, Rise]
  | d + 1, i => by
    rw [cands_succ]
    refine List.pairwise_cons.2 ⟨fun a ha => ?_, rise_cands d (i + 1)⟩
    have := mem_cands.1 ha
    omega
theorem cands_len (i d : Nat) : (cands i d).length = d := by simp [cands]
def nodesR (l : List S55) : List Int := (cands 0 1024).filter fun n => l.any (fun x => x.f0 == n)
theorem nodes_at (l : List S55) (hl : l.length ≤ 1000000000) : ∀ (d i : Nat) (acc : List Int), i + d = 1024 → acc.length ≤ i → Ev (fun k => gridironref12_Nodes.l0 k l acc (i : Int)) (acc ++ (cands i d).filter fun n => l.any (fun x => x.f0 == n))
  | 0, i, acc, h, ha => ⟨1, fun k hk => by
    obtain ⟨k, rfl⟩ : ∃ m, k = m + 1 := ⟨k - 1, by omega⟩
    simp only [gridironref12_Nodes.l0]
    rw [if_neg (by omega)]
    simp [cands]⟩
  | d + 1, i, acc, h, ha => by
    refine Ev.step (f := fun k => (gridironref12_find.f k l (i : Int)).bind fun bt298 => (if bt298.2.2 = true then (if acc.length < 17592186044416 then (gridironref12_Nodes.l0 k l (acc ++ [(i : Int)]) ((i + 1 : Nat) : Int)) else (none)) else (gridironref12_Nodes.l0 k l acc ((i + 1 : Nat) : Int)))) (fun k => ?_) ?_
    · simp only [gridironref12_Nodes.l0]
      rw [if_pos (by omega), w1 (n := 2000) (by omega) (by omega)]
    · refine Ev.bind (find_ev l _ hl) ?_
      rw [findR_is, cands_succ, List.filter_cons]
      by_cases e : (l.any fun x => x.f0 == (i : Int)) = true
      · simp only [if_pos e, if_pos (show acc.length < 17592186044416 by omega)]
        have := nodes_at l hl d (i + 1) (acc ++ [(i : Int)]) (by omega) (by simp; omega)
        rw [List.append_assoc] at this
        exact this
      · simp only [if_neg e]
        exact nodes_at l hl d (i + 1) acc (by omega) (by omega)
theorem nodes_ev (l : List S55) (hl : l.length ≤ 1000000000) : Ev (fun k => gridironref12_Nodes.f k l) (nodesR l) := nodes_at l hl 1024 0 [] (by omega) (by simp)
theorem rise_nodes (l : List S55) : Rise (nodesR l) := (rise_cands 1024 0).sublist List.filter_sublist
theorem nodes_len (l : List S55) : (nodesR l).length ≤ 1024 := Nat.le_trans (List.length_filter_le _ _) (by rw [cands_len]; exact Nat.le_refl _)

/-! ### reads -/
theorem reads_at (a : Int) (R on : List Int) (hR : R.length ≤ 1000000000) (ho : on.length ≤ 1000000000) : ∀ d i : Nat, i + d = R.length → Ev (fun k => gridironref12_reads.l0 k on (i : Int) a R) ((R.drop i).any fun r => on.contains r)
  | 0, i, h => ⟨1, fun k hk => by
    obtain ⟨k, rfl⟩ : ∃ m, k = m + 1 := ⟨k - 1, by omega⟩
    simp only [gridironref12_reads.l0]
    rw [if_neg (by omega), List.drop_eq_nil_of_le (by omega)]
    rfl⟩
  | d + 1, i, h => by
    have hi : i < R.length := by omega
    refine Ev.step (f := fun k => (gridironref12_has.f k on R[i]).bind fun t => if t = true then some true else gridironref12_reads.l0 k on ((i + 1 : Nat) : Int) a R) (fun k => ?_) ?_
    · simp only [gridironref12_reads.l0]
      rw [if_pos (by omega), if_pos (by omega), w1 hi hR, rd_at hi]
    · refine Ev.bind (has_ev on _ ho) ?_
      rw [List.drop_eq_getElem_cons hi, List.any_cons]
      by_cases e : on.contains R[i] = true
      · simp only [e, if_true, Bool.true_or]
        exact Ev.now _
      · have e2 : on.contains R[i] = false := by simpa using e
        simp only [e2, Bool.false_eq_true, if_false, Bool.false_or]
        exact reads_at a R on hR ho d (i + 1) (by omega)
theorem reads_ev (a : Int) (R on : List Int) (hR : R.length ≤ 1000000000) (ho : on.length ≤ 1000000000) : Ev (fun k => gridironref12_reads.f k a R on) (R.any fun r => on.contains r) := by
  have := reads_at a R on hR ho R.length 0 (by omega)
  simpa [gridironref12_reads.f] using this

end Go.Proofs.Ytdloopgdohjedaa
