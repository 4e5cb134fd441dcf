/-
  Graph: what the document's Hang, Cyclic come to: no program in sight.
-/
import Derived.Test.YtdloopgdohjedaaGrA
set_option linter.unusedVariables false
set_option linter.unusedSimpArgs false
namespace Go.Proofs.Ytdloopgdohjedaa
open Go.RowKit Go.Maps Go.Shelf Go.Proofs.YtdloopgdohjedaaW.PrintWords PGraphTells

/-- x hangs on one of the numbers, as the document says. -/
inductive HangR (l : List S55) (on : List Int) : Int → Prop
  | one {x : S55} {r : Int} : x ∈ l → r ∈ x.f1 → r ∈ on → HangR l on x.f0
  | more {x : S55} {r : Int} : x ∈ l → r ∈ x.f1 → HangR l on r → HangR l on x.f0

def hcond (on found : List Int) (x : S55) : Bool := (x.f1.any (fun r => on.contains r) || x.f1.any (fun r => found.contains r)) && !found.contains x.f0
def hstep (on : List Int) (st : List Int × Bool) (x : S55) : List Int × Bool := if hcond on st.1 x then (st.1 ++ [x.f0], true) else st
structure FI (l : List S55) (on found : List Int) : Prop where
  nd : found.Nodup
  sub : ∀ y ∈ found, ∃ x ∈ l, x.f0 = y
  snd : ∀ y ∈ found, HangR l on y
theorem FI.len {l : List S55} {on found : List Int} (h : FI l on found) : found.length ≤ l.length := by
  have := nd_le (b := l.map (·.f0)) h.nd (fun y hy => by obtain ⟨x, hx, e⟩ := h.sub y hy; exact List.mem_map.2 ⟨x, hx, e⟩)
  simpa using this
theorem hstep_fi {l : List S55} {on : List Int} {st : List Int × Bool} {x : S55} (h : FI l on st.1) (hx : x ∈ l) : FI l on (hstep on st x).1 := by
  unfold hstep
  split
  · rename_i hc
    unfold hcond at hc
    simp only [Bool.and_eq_true, Bool.or_eq_true, List.any_eq_true, Bool.not_eq_true'] at hc
    obtain ⟨h1, h2⟩ := hc
    have hn : ¬ x.f0 ∈ st.1 := by simpa using h2
    have hh : HangR l on x.f0 := by
      rcases h1 with ⟨r, hr, ho⟩ | ⟨r, hr, ho⟩
      · exact .one hx hr (by simpa using ho)
      · exact .more hx hr (h.snd r (by simpa using ho))
    refine ⟨List.nodup_append.2 ⟨h.nd, by simp, fun a ha b hb => ?_⟩, fun y hy => ?_, fun y hy => ?_⟩
    · obtain rfl : b = x.f0 := by simpa using hb
      exact fun e => hn (e ▸ ha)
    · rcases List.mem_append.1 hy with hy | hy
      · exact h.sub y hy
      · obtain rfl : y = x.f0 := by simpa using hy
        exact ⟨x, hx, rfl⟩
    · rcases List.mem_append.1 hy with hy | hy
      · exact h.snd y hy
      · obtain rfl : y = x.f0 := by simpa using hy
        exact hh
  · exact h
theorem hfold_fi {l : List S55} {on : List Int} : ∀ (xs : List S55) {st : List Int × Bool}, FI l on st.1 → (∀ x ∈ xs, x ∈ l) → FI l on (xs.foldl (hstep on) st).1
  | [], st, h, _ => h
  | x :: xs, st, h, hx => hfold_fi xs (hstep_fi h (hx x (by simp))) (fun y hy => hx y (by simp [hy]))
theorem hfold_is {on : List Int} : ∀ (xs : List S55) (st : List Int × Bool), st.1.length ≤ (xs.foldl (hstep on) st).1.length ∧ (st.2 = true → (xs.foldl (hstep on) st).2 = true) ∧
    ((xs.foldl (hstep on) st).2 = false → (xs.foldl (hstep on) st).1 = st.1 ∧ ∀ x ∈ xs, hcond on st.1 x = false) ∧ (st.2 = false → (xs.foldl (hstep on) st).2 = true → st.1.length < (xs.foldl (hstep on) st).1.length)
  | [], st => ⟨Nat.le_refl _, id, fun _ => ⟨rfl, by simp⟩, fun h1 h2 => absurd (h1.symm.trans h2) (by simp)⟩
  | x :: xs, st => by
    obtain ⟨h1, h2, h3, h4⟩ := hfold_is (on := on) xs (hstep on st x)
    simp only [List.foldl_cons]
    by_cases hc : hcond on st.1 x = true
    · have e : hstep on st x = (st.1 ++ [x.f0], true) := by unfold hstep; rw [if_pos hc]
      rw [e] at h1 h2 h3 h4 ⊢
      have hl : st.1.length < (xs.foldl (hstep on) (st.1 ++ [x.f0], true)).1.length := by
        have : (st.1 ++ [x.f0]).length ≤ _ := h1
        rw [List.length_append, List.length_singleton] at this
        omega
      refine ⟨by omega, fun _ => h2 rfl, fun h => ?_, fun _ _ => hl⟩
      rw [h2 rfl] at h
      cases h
    · have e : hstep on st x = st := by unfold hstep; rw [if_neg hc]
      rw [e] at h1 h2 h3 h4 ⊢
      refine ⟨h1, h2, fun h => ⟨(h3 h).1, fun y hy => ?_⟩, h4⟩
      rcases List.mem_cons.1 hy with rfl | hy
      · simpa using hc
      · exact (h3 h).2 y hy

theorem pass_at (l : List S55) (on : List Int) (hl : l.length ≤ 100000) (ho : on.length ≤ 100000) (hr : ∀ x ∈ l, x.f1.length ≤ 100000) (r : List Int) :
    ∀ (d i : Nat) (st : List Int × Bool), i + d = l.length → FI l on st.1 → Ev (fun k => gridironref12_Hang.l0 k l on ((l.drop i).foldl (hstep on) st).1 ((l.drop i).foldl (hstep on) st).2) r → Ev (fun k => gridironref12_Hang.l1 k l on st.1 st.2 (i : Int)) r
  | 0, i, st, h, hf, hE => by
    refine Ev.step (f := fun k => gridironref12_Hang.l0 k l on st.1 st.2) (fun k => ?_) ?_
    · simp only [gridironref12_Hang.l1]
      rw [if_neg (by omega)]
    · rw [List.drop_eq_nil_of_le (by omega)] at hE
      exact hE
  | d + 1, i, st, h, hf, hE => by
    have hi : i < l.length := by omega
    have hm : l[i] ∈ l := List.getElem_mem hi
    have hfl := hf.len
    refine Ev.step (f := fun k => (gridironref12_reads.f k l[i].f0 l[i].f1 on).bind fun t312 => ((gridironref12_reads.f k l[i].f0 l[i].f1 st.1).bind fun t314 => ((gridironref12_has.f k st.1 l[i].f0).bind fun t316 => (if t312 = true then (if t316 = true then (gridironref12_Hang.l1 k l on st.1 st.2 ((i + 1 : Nat) : Int)) else (if st.1.length < 17592186044416 then (gridironref12_Hang.l1 k l on (st.1 ++ [l[i].f0]) true ((i + 1 : Nat) : Int)) else (none))) else (if t314 = true then (if t316 = true then (gridironref12_Hang.l1 k l on st.1 st.2 ((i + 1 : Nat) : Int)) else (if st.1.length < 17592186044416 then (gridironref12_Hang.l1 k l on (st.1 ++ [l[i].f0]) true ((i + 1 : Nat) : Int)) else (none))) else (gridironref12_Hang.l1 k l on st.1 st.2 ((i + 1 : Nat) : Int))))))) (fun k => ?_) ?_
    · simp only [gridironref12_Hang.l1]
      rw [if_pos (by omega), if_pos (by omega), w1 hi (by omega), rd55_at hi]
    · refine Ev.bind (reads_ev _ _ _ (Nat.le_trans (hr _ hm) (by omega)) (by omega)) (Ev.bind (reads_ev _ _ _ (Nat.le_trans (hr _ hm) (by omega)) (by omega)) (Ev.bind (has_ev _ _ (by omega)) ?_))
      rw [List.drop_eq_getElem_cons hi, List.foldl_cons] at hE
      have hs := hstep_fi (st := st) hf hm
      have key := pass_at l on hl ho hr r d (i + 1) (hstep on st l[i]) (by omega) hs hE
      unfold hstep hcond at key
      cases h1 : l[i].f1.any (fun r => on.contains r) <;> cases h2 : l[i].f1.any (fun r => st.1.contains r) <;> cases h3 : st.1.contains l[i].f0 <;>
        simp only [h1, h2, h3, Bool.or_true, Bool.or_false, Bool.not_true, Bool.not_false, Bool.and_true, Bool.and_false, if_true, if_false, Bool.false_eq_true, if_pos (show st.1.length < 17592186044416 by omega)] at key ⊢ <;> exact key
theorem l2_at (f : List Int) (hf : f.length ≤ 100000) : ∀ (d i : Nat) (acc : List Int), i + d = 1024 → acc.length ≤ i → Ev (fun k => gridironref12_Hang.l2 k f acc (i : Int)) (acc ++ (cands i d).filter fun n => f.contains n)
  | 0, i, acc, h, ha => ⟨1, fun k hk => by
    obtain ⟨k, rfl⟩ : ∃ m, k = m + 1 := ⟨k - 1, by omega⟩
    simp only [gridironref12_Hang.l2]
    rw [if_neg (by omega)]
    simp [cands]⟩
  | d + 1, i, acc, h, ha => by
    refine Ev.step (f := fun k => (gridironref12_has.f k f (i : Int)).bind fun t => (if t = true then (if acc.length < 17592186044416 then (gridironref12_Hang.l2 k f (acc ++ [(i : Int)]) ((i + 1 : Nat) : Int)) else (none)) else (gridironref12_Hang.l2 k f acc ((i + 1 : Nat) : Int)))) (fun k => ?_) ?_
    · simp only [gridironref12_Hang.l2]
      rw [if_pos (by omega), w1 (n := 2000) (by omega) (by omega)]
    · refine Ev.bind (has_ev f _ (by omega)) ?_
      rw [cands_succ, List.filter_cons]
      by_cases e : f.contains (i : Int) = true
      · simp only [if_pos e, if_pos (show acc.length < 17592186044416 by omega)]
        have := l2_at f hf d (i + 1) (acc ++ [(i : Int)]) (by omega) (by simp; omega)
        rw [List.append_assoc] at this
        exact this
      · simp only [if_neg e]
        exact l2_at f hf d (i + 1) acc (by omega) (by omega)
theorem hang_found (l : List S55) (on : List Int) (hl : l.length ≤ 100000) (ho : on.length ≤ 100000) (hr : ∀ x ∈ l, x.f1.length ≤ 100000) :
    ∀ (m : Nat) (f : List Int), FI l on f → l.length - f.length ≤ m → ∃ f', FI l on f' ∧ (∀ x ∈ l, hcond on f' x = false) ∧ ∀ r, Ev (fun k => gridironref12_Hang.l0 k l on f' false) r → Ev (fun k => gridironref12_Hang.l0 k l on f true) r := by
  intro m
  induction m with
  | zero =>
    intro f hf hm
    have h0 := hf.len
    have h1 := hfold_fi l (st := (f, false)) hf (fun x hx => hx)
    obtain ⟨q1, q2, q3, q4⟩ := hfold_is (on := on) l (f, false)
    have h2 := h1.len
    cases hq : (l.foldl (hstep on) (f, false)).2 with
    | true => have : f.length < _ := q4 rfl hq; omega
    | false =>
      obtain ⟨e, hc⟩ := q3 hq
      refine ⟨f, hf, hc, fun r hE => Ev.step (f := fun k => gridironref12_Hang.l1 k l on f false 0) (fun k => by simp only [gridironref12_Hang.l0, if_true]) ?_⟩
      refine pass_at l on hl ho hr r l.length 0 (f, false) (by omega) hf ?_
      rw [List.drop_zero, hq, e]
      exact hE
  | succ m ih =>
    intro f hf hm
    have h1 := hfold_fi l (st := (f, false)) hf (fun x hx => hx)
    obtain ⟨q1, q2, q3, q4⟩ := hfold_is (on := on) l (f, false)
    cases hq : (l.foldl (hstep on) (f, false)).2 with
    | true =>
      have hlt : f.length < (l.foldl (hstep on) (f, false)).1.length := q4 rfl hq
      have h2 := h1.len
      obtain ⟨f', hf', hc, hE'⟩ := ih _ h1 (by omega)
      refine ⟨f', hf', hc, fun r hE => Ev.step (f := fun k => gridironref12_Hang.l1 k l on f false 0) (fun k => by simp only [gridironref12_Hang.l0, if_true]) ?_⟩
      refine pass_at l on hl ho hr r l.length 0 (f, false) (by omega) hf ?_
      rw [List.drop_zero, hq]
      exact hE' r hE
    | false =>
      obtain ⟨e, hc⟩ := q3 hq
      refine ⟨f, hf, hc, fun r hE => Ev.step (f := fun k => gridironref12_Hang.l1 k l on f false 0) (fun k => by simp only [gridironref12_Hang.l0, if_true]) ?_⟩
      refine pass_at l on hl ho hr r l.length 0 (f, false) (by omega) hf ?_
      rw [List.drop_zero, hq, e]
      exact hE
theorem hang_ev (l : List S55) (on : List Int) (hl : l.length ≤ 100000) (ho : on.length ≤ 100000) (hr : ∀ x ∈ l, x.f1.length ≤ 100000) (p : Int → Bool) (hp : ∀ n, p n = true ↔ HangR l on n) :
    Ev (fun k => gridironref12_Hang.f k l on) ((cands 0 1024).filter p) := by
  obtain ⟨f, hf, hc, hE⟩ := hang_found l on hl ho hr l.length [] ⟨by simp, by simp, by simp⟩ (by simp)
  have hl2 := hf.len
  have hm : ∀ n, f.contains n = p n := by
    intro n
    rw [Bool.eq_iff_iff, hp]
    constructor
    · intro h; exact hf.snd n (by simpa using h)
    · intro h
      have key : ∀ x ∈ l, (∃ r ∈ x.f1, r ∈ on ∨ r ∈ f) → x.f0 ∈ f := by
        intro x hx ⟨r, hr, ho⟩
        have := hc x hx
        unfold hcond at this
        rw [Bool.and_eq_false_iff] at this
        rcases this with h | h
        · rw [Bool.or_eq_false_iff, List.any_eq_false, List.any_eq_false] at h
          rcases ho with ho | ho
          · exact absurd (by simpa using ho) (h.1 r hr)
          · exact absurd (by simpa using ho) (h.2 r hr)
        · simpa using h
      have : n ∈ f := by
        induction h with
        | one hx hr ho => exact key _ hx ⟨_, hr, .inl ho⟩
        | more hx hr _ ih => exact key _ hx ⟨_, hr, .inr ih⟩
      simpa using this
  have h2 := l2_at f (by omega) 1024 0 [] (by omega) (by simp)
  rw [List.nil_append] at h2
  have e : (fun n => f.contains n) = p := funext hm
  rw [e] at h2
  refine hE _ ?_
  exact Ev.step (f := fun k => gridironref12_Hang.l2 k f [] 0) (fun k => by simp only [gridironref12_Hang.l0, Bool.false_eq_true, if_false]) h2

/-! ### Cyclic -/
theorem cyc_at (l : List S55) (hl : l.length ≤ 100000) (hr : ∀ x ∈ l, x.f1.length ≤ 100000) (ns : List Int) (hn : ns.length ≤ 1024) (hc : ∀ n ∈ ns, 0 ≤ n ∧ n < 1024) (p : Int → Bool) (hp : ∀ n, p n = true ↔ HangR l [n] n) :
    ∀ (d i : Nat) (acc : List Int), i + d = ns.length → acc.length ≤ i → Ev (fun k => gridironref12_Cyclic.l0 k l ns acc (i : Int)) (acc ++ (ns.drop i).filter p)
  | 0, i, acc, h, ha => ⟨1, fun k hk => by
    obtain ⟨k, rfl⟩ : ∃ m, k = m + 1 := ⟨k - 1, by omega⟩
    simp only [gridironref12_Cyclic.l0]
    rw [if_neg (by omega), List.drop_eq_nil_of_le (by omega)]
    simp⟩
  | d + 1, i, acc, h, ha => by
    have hi : i < ns.length := by omega
    obtain ⟨q, hq⟩ : ∃ q : Int → Bool, ∀ n, q n = true ↔ HangR l [ns[i]] n := ⟨fun n => @decide _ (Classical.propDecidable (HangR l [ns[i]] n)), fun n => by simp⟩
    have hsl : (ns.take ((i + 1 : Nat) : Int).toNat).drop ((i : Int)).toNat = [ns[i]] := by
      rw [Int.toNat_natCast, Int.toNat_natCast, List.take_succ_eq_append_getElem hi, List.drop_append_of_le_length (by rw [List.length_take]; omega), List.drop_eq_nil_of_le (by rw [List.length_take]; omega), List.nil_append]
    refine Ev.step (f := fun k => (gridironref12_Hang.f k l [ns[i]]).bind fun t336 => ((gridironref12_has.f k t336 ns[i]).bind fun t340 => (if t340 = true then (if acc.length < 17592186044416 then (gridironref12_Cyclic.l0 k l ns (acc ++ [ns[i]]) ((i + 1 : Nat) : Int)) else (none)) else (gridironref12_Cyclic.l0 k l ns acc ((i + 1 : Nat) : Int))))) (fun k => ?_) ?_
    · simp only [gridironref12_Cyclic.l0]
      rw [if_pos (by omega), if_pos (by omega), w1 hi (by omega), if_pos (by omega), if_pos (by omega), hsl, rd_at hi]
    · refine Ev.bind (hang_ev l [ns[i]] hl (by simp) hr q hq) (Ev.bind (has_ev _ _ (Nat.le_trans (List.length_filter_le _ _) (by rw [cands_len]; omega))) ?_)
      have hc' := hc _ (List.getElem_mem hi)
      have e : ((cands 0 1024).filter q).contains ns[i] = p ns[i] := by
        rw [Bool.eq_iff_iff, hp, ← hq]
        simp only [List.contains_iff_mem, List.mem_filter, mem_cands]
        constructor
        · exact fun h => h.2
        · exact fun h => ⟨⟨by omega, by omega⟩, h⟩
      rw [e, List.drop_eq_getElem_cons hi, List.filter_cons]
      by_cases e : p ns[i] = true
      · simp only [if_pos e, if_pos (show acc.length < 17592186044416 by omega)]
        have := cyc_at l hl hr ns hn hc p hp d (i + 1) (acc ++ [ns[i]]) (by omega) (by simp; omega)
        rw [List.append_assoc] at this
        exact this
      · simp only [if_neg e]
        exact cyc_at l hl hr ns hn hc p hp d (i + 1) acc (by omega) (by omega)
theorem nodes_fit (l : List S55) : ∀ n ∈ nodesR l, 0 ≤ n ∧ n < 1024 := by
  intro n hn
  have := mem_cands.1 (List.mem_filter.1 hn).1
  omega
theorem cyclic_ev (l : List S55) (hl : l.length ≤ 100000) (hr : ∀ x ∈ l, x.f1.length ≤ 100000) (p : Int → Bool) (hp : ∀ n, p n = true ↔ HangR l [n] n) :
    Ev (fun k => gridironref12_Cyclic.f k l) ((nodesR l).filter p) :=
  Ev.bind (nodes_ev l (by omega)) (by
    have := cyc_at l hl hr (nodesR l) (nodes_len l) (nodes_fit l) p hp (nodesR l).length 0 [] (by omega) (by simp)
    simpa using this)

end Go.Proofs.Ytdloopgdohjedaa
