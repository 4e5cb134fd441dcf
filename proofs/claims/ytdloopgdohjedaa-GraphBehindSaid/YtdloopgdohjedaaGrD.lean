/-
  Graph: what the document's May, ready, Order come to, and the law's small functions: no program in sight.
-/
import Derived.Test.YtdloopgdohjedaaGrB
import Derived.Test.YtdloopgdohjedaaPGraphTellsx8
import Derived.Test.YtdloopgdohjedaaPGraphTellsx9
set_option linter.unusedVariables false
set_option linter.unusedSimpArgs false
namespace Go.Proofs.Ytdloopgdohjedaa
open Go.RowKit Go.Maps Go.Shelf Go.Proofs.YtdloopgdohjedaaW.PrintWords PGraphTells

/-! ### ready, Order -/
def readyB (l : List S55) (cyc out R : List Int) : Bool := R.all fun r => !(l.any (fun x => x.f0 == r)) || cyc.contains r || out.contains r
theorem ready_at (l : List S55) (a : Int) (R cyc out : List Int) (hl : l.length ≤ 100000) (hR : R.length ≤ 100000) (hc : cyc.length ≤ 100000) (ho : out.length ≤ 100000) :
    ∀ d i : Nat, i + d = R.length → Ev (fun k => gridironref12_ready.l0 k l cyc out (i : Int) a R) (readyB l cyc out (R.drop i))
  | 0, i, h => ⟨1, fun k hk => by
    obtain ⟨k, rfl⟩ : ∃ m, k = m + 1 := ⟨k - 1, by omega⟩
    simp only [gridironref12_ready.l0]
    rw [if_neg (by omega), List.drop_eq_nil_of_le (by omega)]
    rfl⟩
  | d + 1, i, h => by
    have hi : i < R.length := by omega
    refine Ev.step (f := fun k => (gridironref12_find.f k l R[i]).bind fun bt347 => ((gridironref12_has.f k cyc R[i]).bind fun t354 => ((gridironref12_has.f k out R[i]).bind fun t356 => (if bt347.2.2 = true then (if t354 = true then (gridironref12_ready.l0 k l cyc out ((i + 1 : Nat) : Int) a R) else (if t356 = true then (gridironref12_ready.l0 k l cyc out ((i + 1 : Nat) : Int) a R) else (some false))) else (gridironref12_ready.l0 k l cyc out ((i + 1 : Nat) : Int) a R))))) (fun k => ?_) ?_
    · simp only [gridironref12_ready.l0]
      rw [if_pos (by omega), if_pos (by omega), w1 hi (by omega), rd_at hi]
    · refine Ev.bind (find_ev l _ (by omega)) (Ev.bind (has_ev _ _ (by omega)) (Ev.bind (has_ev _ _ (by omega)) ?_))
      have key := ready_at l a R cyc out hl hR hc ho d (i + 1) (by omega)
      rw [findR_is, List.drop_eq_getElem_cons hi]
      unfold readyB at key ⊢
      rw [List.all_cons]
      cases h1 : l.any (fun x => x.f0 == R[i]) <;> cases h2 : cyc.contains R[i] <;> cases h3 : out.contains R[i] <;>
        simp only [Bool.not_true, Bool.not_false, Bool.true_or, Bool.or_true, Bool.false_or, Bool.true_and, Bool.false_and, if_true, if_false, Bool.false_eq_true] <;> first | exact key | exact Ev.now _
theorem ready_ev (l : List S55) (a : Int) (R cyc out : List Int) (hl : l.length ≤ 100000) (hR : R.length ≤ 100000) (hc : cyc.length ≤ 100000) (ho : out.length ≤ 100000) :
    Ev (fun k => gridironref12_ready.f k l a R cyc out) (readyB l cyc out R) := by
  have := ready_at l a R cyc out hl hR hc ho R.length 0 (by omega)
  simpa [gridironref12_ready.f] using this

def okO (l : List S55) (cyc out : List Int) (n : Int) : Bool := !cyc.contains n && !out.contains n && readyB l cyc out (findR l n).2.1
/-- A sequence, each one the next. -/
inductive Steps (nxt : List Int → Option Int) : List Int → Prop
  | nil : Steps nxt []
  | snoc {out : List Int} {t : Int} : Steps nxt out → nxt out = some t → Steps nxt (out ++ [t])
theorem steps_at {nxt : List Int → Option Int} {out : List Int} (h : Steps nxt out) : ∀ i (hi : i < out.length), nxt (out.take i) = some out[i] := by
  induction h with
  | nil => intro i hi; simp at hi
  | @snoc out t _ hn ih =>
    intro i hi
    rw [List.length_append, List.length_singleton] at hi
    by_cases e : i < out.length
    · rw [List.take_append_of_le_length (by omega), List.getElem_append_left e]
      exact ih i e
    · obtain rfl : i = out.length := by omega
      rw [List.take_left']
      · rw [List.getElem_append_right (Nat.le_refl _)]
        simpa using hn
      · rfl
theorem findR_len (l : List S55) (hr : ∀ x ∈ l, x.f1.length ≤ 100000) (n : Int) : (findR l n).2.1.length ≤ 100000 := by
  unfold findR
  cases h : l.find? (fun x => x.f0 == n) with
  | none => simp
  | some x => exact hr x (List.mem_of_find?_eq_some h)
theorem ord_back (l : List S55) (ns cyc : List Int) (out : List Int) (b : Bool) (i : Nat) (hi : i ≤ ns.length) (r : List Int) (h : Ev (fun k => gridironref12_Order.l0 k l ns cyc out true) r) : Ev (fun k => gridironref12_Order.l1 k l ns cyc out true (i : Int)) r := by
  have h2 : Ev (fun k => gridironref12_Order.j2 k l ns cyc out true (i : Int) false) r := Ev.step (f := fun k => gridironref12_Order.l0 k l ns cyc out true) (fun k => by simp only [gridironref12_Order.j2, Bool.false_eq_true, if_false]) h
  refine Ev.step (f := fun k => gridironref12_Order.j2 k l ns cyc out true (i : Int) false) (fun k => ?_) h2
  simp only [gridironref12_Order.l1, Bool.not_true, ite_self]
section
variable (l : List S55) (ns cyc : List Int) (hl : l.length ≤ 100000) (hr : ∀ x ∈ l, x.f1.length ≤ 100000) (hn : ns.length ≤ 1024) (hc : cyc.length ≤ 100000)
include hl hr hn hc
theorem ord_pass (out : List Int) (ho : out.length ≤ 2000) (r : List Int) (hs : ∀ t, ns.find? (okO l cyc out) = some t → Ev (fun k => gridironref12_Order.l0 k l ns cyc (out ++ [t]) true) r) (hz : ns.find? (okO l cyc out) = none → Ev (fun k => gridironref12_Order.l0 k l ns cyc out false) r) :
    ∀ d i : Nat, i + d = ns.length → (ns.drop i).find? (okO l cyc out) = ns.find? (okO l cyc out) → Ev (fun k => gridironref12_Order.l1 k l ns cyc out false (i : Int)) r
  | 0, i, h, hd => by
    rw [List.drop_eq_nil_of_le (by omega)] at hd
    have h2 : Ev (fun k => gridironref12_Order.j2 k l ns cyc out false (i : Int) false) r := Ev.step (f := fun k => gridironref12_Order.l0 k l ns cyc out false) (fun k => by simp only [gridironref12_Order.j2, Bool.false_eq_true, if_false]) (hz hd.symm)
    refine Ev.step (f := fun k => gridironref12_Order.j2 k l ns cyc out false (i : Int) false) (fun k => ?_) h2
    simp only [gridironref12_Order.l1]
    rw [if_neg (by omega)]
  | d + 1, i, h, hd => by
    have hi : i < ns.length := by omega
    rw [List.drop_eq_getElem_cons hi, List.find?_cons] at hd
    refine Ev.step (f := fun k => gridironref12_Order.j2 k l ns cyc out false (i : Int) true) (fun k => ?_) (Ev.step (f := fun k => (gridironref12_find.f k l ns[i]).bind fun bt364 => ((gridironref12_has.f k cyc ns[i]).bind fun t371 => ((gridironref12_has.f k out ns[i]).bind fun t373 => ((gridironref12_ready.f k l bt364.1 bt364.2.1 cyc out).bind fun t374 => (if t371 = true then (gridironref12_Order.l1 k l ns cyc out false ((i + 1 : Nat) : Int)) else (if t373 = true then (gridironref12_Order.l1 k l ns cyc out false ((i + 1 : Nat) : Int)) else (if t374 = true then (if out.length < 17592186044416 then (gridironref12_Order.l1 k l ns cyc (out ++ [ns[i]]) true ((i + 1 : Nat) : Int)) else (none)) else (gridironref12_Order.l1 k l ns cyc out false ((i + 1 : Nat) : Int))))))))) (fun k => ?_) ?_)
    · simp only [gridironref12_Order.l1, Bool.not_false]
      rw [if_pos (by omega)]
    · simp only [gridironref12_Order.j2, if_true]
      rw [if_pos (by omega), if_pos (by omega), w1 hi (by omega), rd_at hi]
    · refine Ev.bind (find_ev l _ (by omega)) (Ev.bind (has_ev _ _ (by omega)) (Ev.bind (has_ev _ _ (by omega)) (Ev.bind (ready_ev l _ _ _ _ hl (findR_len l hr _) hc (by omega)) ?_)))
      have hokO : okO l cyc out ns[i] = (!cyc.contains ns[i] && !out.contains ns[i] && readyB l cyc out (findR l ns[i]).2.1) := rfl
      by_cases hb : okO l cyc out ns[i] = true
      · simp only [hb] at hd
        have := hs _ hd.symm
        rw [hokO] at hb
        simp only [Bool.and_eq_true, Bool.not_eq_true'] at hb
        obtain ⟨⟨b1, b2⟩, b3⟩ := hb
        simp only [b1, b2, b3, Bool.false_eq_true, if_false, if_true, if_pos (show out.length < 17592186044416 by omega)]
        exact ord_back l ns cyc _ true (i + 1) (by omega) r this
      · have hb' : okO l cyc out ns[i] = false := by simpa using hb
        simp only [hb'] at hd
        have key := ord_pass out ho r hs hz d (i + 1) (by omega) hd
        rw [hokO] at hb'
        cases h1 : cyc.contains ns[i] <;> cases h2 : out.contains ns[i] <;> cases h3 : readyB l cyc out (findR l ns[i]).2.1 <;>
          simp only [h1, h2, h3, Bool.not_true, Bool.not_false, Bool.and_true, Bool.and_false, if_true, if_false, Bool.false_eq_true, Bool.true_eq_false] at hb' ⊢ <;> exact key
theorem ord_all (out : List Int) (ho : out.length ≤ 2000) (hs : Steps (fun o => ns.find? (okO l cyc o)) out) (hz : ns.find? (okO l cyc out) = none) : ∀ d i : Nat, i + d = out.length → Ev (fun k => gridironref12_Order.l0 k l ns cyc (out.take i) true) out
  | 0, i, h => by
    have e : out.take i = out := List.take_of_length_le (by omega)
    rw [e]
    refine Ev.step (f := fun k => gridironref12_Order.l1 k l ns cyc out false 0) (fun k => by simp only [gridironref12_Order.l0, if_true]) ?_
    refine ord_pass l ns cyc hl hr hn hc out ho out (fun t h => by rw [hz] at h; cases h) (fun _ => ?_) ns.length 0 (by omega) rfl
    exact ⟨1, fun k hk => by
      obtain ⟨k, rfl⟩ : ∃ m, k = m + 1 := ⟨k - 1, by omega⟩
      simp only [gridironref12_Order.l0, Bool.false_eq_true, if_false]⟩
  | d + 1, i, h => by
    have hi : i < out.length := by omega
    have key := ord_all out ho hs hz d (i + 1) (by omega)
    have hst := steps_at hs i hi
    refine Ev.step (f := fun k => gridironref12_Order.l1 k l ns cyc (out.take i) false 0) (fun k => by simp only [gridironref12_Order.l0, if_true]) ?_
    refine ord_pass l ns cyc hl hr hn hc (out.take i) (by rw [List.length_take]; omega) out (fun t h => ?_) (fun h => ?_) ns.length 0 (by omega) rfl
    · have : t = out[i] := by
        have := h.symm.trans hst
        simpa using this
      rw [this, ← List.take_succ_eq_append_getElem hi]
      exact key
    · have := h.symm.trans hst
      cases this
end
theorem order_ev (l : List S55) (hl : l.length ≤ 100000) (hr : ∀ x ∈ l, x.f1.length ≤ 100000) (p : Int → Bool) (hp : ∀ n, p n = true ↔ HangR l [n] n) (out : List Int) (ho : out.length ≤ 2000)
    (hs : Steps (fun o => (nodesR l).find? (okO l ((nodesR l).filter p) o)) out) (hz : (nodesR l).find? (okO l ((nodesR l).filter p) out) = none) : Ev (fun k => gridironref12_Order.f k l) out :=
  Ev.bind (nodes_ev l (by omega)) (Ev.bind (cyclic_ev l hl hr p hp) (by
    have := ord_all l (nodesR l) ((nodesR l).filter p) hl hr (nodes_len l) (Nat.le_trans (List.length_filter_le _ _) (Nat.le_trans (nodes_len l) (by omega))) out ho hs hz out.length 0 (by omega)
    simpa using this))

/-! ### May -/
def okR (x : S55) : Bool := fitB x.f0 && !(x.f1.any fun n => !fitB n)
def dupB (l : List S55) (i : Nat) : Bool := (l.take i).any fun x => x.f0 == (rd_T55 l (i : Int)).f0
theorem may3 (l : List S55) (hl : l.length ≤ 100000) (i : Nat) (hi : i < l.length) (r : Int) (h : Ev (fun k => gridironref12_May.l2 k l ((i + 1 : Nat) : Int)) r) : ∀ d j : Nat, j + d = i → Ev (fun k => gridironref12_May.l3 k l (i : Int) (j : Int)) (if ((l.take i).drop j).any (fun x => x.f0 == (rd_T55 l (i : Int)).f0) then 5 else r)
  | 0, j, hj => by
    rw [List.drop_eq_nil_of_le (by rw [List.length_take]; omega)]
    refine Ev.step (f := fun k => gridironref12_May.l2 k l ((i + 1 : Nat) : Int)) (fun k => ?_) h
    simp only [gridironref12_May.l3]
    rw [if_neg (by omega), w1 hi (by omega)]
  | d + 1, j, hj => by
    have hjl : j < l.length := by omega
    have hjt : j < (l.take i).length := by rw [List.length_take]; omega
    refine Ev.step (f := fun k => if l[j].f0 = (rd_T55 l (i : Int)).f0 then some 5 else gridironref12_May.l3 k l (i : Int) ((j + 1 : Nat) : Int)) (fun k => ?_) ?_
    · simp only [gridironref12_May.l3]
      rw [if_pos (by omega), if_pos (by omega), if_pos (by omega), if_pos (by omega), if_pos (by omega), rd55_at hjl, w1 hjl (by omega)]
    · rw [List.drop_eq_getElem_cons hjt, List.any_cons, List.getElem_take]
      by_cases e : l[j].f0 = (rd_T55 l (i : Int)).f0
      · have e2 : (l[j].f0 == (rd_T55 l (i : Int)).f0) = true := beq_iff_eq.2 e
        simp only [if_pos e, e2, Bool.true_or, if_true]
        exact Ev.now _
      · have e2 : (l[j].f0 == (rd_T55 l (i : Int)).f0) = false := beq_eq_false_iff_ne.2 e
        simp only [if_neg e, e2, Bool.false_or]
        exact may3 l hl i hi r h d (j + 1) (by omega)
theorem may2 (l : List S55) (hl : l.length ≤ 100000) : ∀ d i : Nat, i + d = l.length → Ev (fun k => gridironref12_May.l2 k l (i : Int)) (if (List.range' i d).any (dupB l) then 5 else 0)
  | 0, i, hi => ⟨1, fun k hk => by
    obtain ⟨k, rfl⟩ : ∃ m, k = m + 1 := ⟨k - 1, by omega⟩
    simp only [gridironref12_May.l2]
    rw [if_neg (by omega)]
    rfl⟩
  | d + 1, i, hd => by
    have hi : i < l.length := by omega
    have key := may3 l hl i hi _ (may2 l hl d (i + 1) (by omega)) i 0 (by omega)
    rw [List.drop_zero] at key
    refine Ev.step (f := fun k => gridironref12_May.l3 k l (i : Int) 0) (fun k => ?_) ?_
    · simp only [gridironref12_May.l2]
      rw [if_pos (by omega)]
    · rw [List.range'_succ, List.any_cons]
      change Ev _ (if dupB l i then _ else _) at key
      cases e : dupB l i <;> rw [e] at key <;> simp only [Bool.false_or, Bool.true_or, Bool.false_eq_true, if_false, if_true] at key ⊢ <;> exact key
section
variable (l : List S55) (hl : l.length ≤ 100000) (hr : ∀ x ∈ l, x.f1.length ≤ 100000)
include hl hr
theorem may1 (i : Nat) (hi : i < l.length) (r : Int) (h : Ev (fun k => gridironref12_May.l0 k l ((i + 1 : Nat) : Int)) r) : ∀ d j : Nat, j + d = l[i].f1.length → Ev (fun k => gridironref12_May.l1 k l (i : Int) (j : Int)) (if (l[i].f1.drop j).any (fun n => !fitB n) then 1 else r)
  | 0, j, hj => by
    rw [List.drop_eq_nil_of_le (by omega)]
    refine Ev.step (f := fun k => gridironref12_May.l0 k l ((i + 1 : Nat) : Int)) (fun k => ?_) h
    simp only [gridironref12_May.l1]
    rw [rd55_at hi, if_pos (by omega), if_pos (by omega), if_neg (by omega), w1 hi (by omega)]
  | d + 1, j, hj => by
    have hjl : j < l[i].f1.length := by omega
    have hm := hr _ (List.getElem_mem hi)
    refine Ev.step (f := fun k => if l[i].f1[j] < 0 then some 1 else if l[i].f1[j] > 1023 then some 1 else gridironref12_May.l1 k l (i : Int) ((j + 1 : Nat) : Int)) (fun k => ?_) ?_
    · simp only [gridironref12_May.l1]
      rw [rd55_at hi, if_pos (by omega), if_pos (by omega), if_pos (by omega), if_pos (by omega), rd_at hjl, w1 hjl (by omega)]
    · rw [List.drop_eq_getElem_cons hjl, List.any_cons]
      by_cases e1 : l[i].f1[j] < 0
      · have e : fitB l[i].f1[j] = false := by simp [fitB]; omega
        simp only [if_pos e1, e, Bool.not_false, Bool.true_or, if_true]
        exact Ev.now _
      · by_cases e2 : l[i].f1[j] > 1023
        · have e : fitB l[i].f1[j] = false := by simp [fitB]; omega
          simp only [if_neg e1, if_pos e2, e, Bool.not_false, Bool.true_or, if_true]
          exact Ev.now _
        · have e : fitB l[i].f1[j] = true := by simp [fitB]; omega
          simp only [if_neg e1, if_neg e2, e, Bool.not_true, Bool.false_or]
          exact may1 i hi r h d (j + 1) (by omega)
theorem may0 (r : Int) (h : Ev (fun k => gridironref12_May.l2 k l 0) r) : ∀ d i : Nat, i + d = l.length → Ev (fun k => gridironref12_May.l0 k l (i : Int)) (if (l.drop i).all okR then r else 1)
  | 0, i, hi => by
    rw [List.drop_eq_nil_of_le (by omega)]
    refine Ev.step (f := fun k => gridironref12_May.l2 k l 0) (fun k => ?_) h
    simp only [gridironref12_May.l0]
    rw [if_neg (by omega)]
  | d + 1, i, hd => by
    have hi : i < l.length := by omega
    have hm := hr _ (List.getElem_mem hi)
    refine Ev.step (f := fun k => if l[i].f0 < 0 then gridironref12_May.j1 k l (i : Int) true else gridironref12_May.j1 k l (i : Int) (decide (l[i].f0 > 1023))) (fun k => ?_) ?_
    · simp only [gridironref12_May.l0]
      rw [rd55_at hi, if_pos (by omega), if_pos (by omega)]
    · have hj1 : Ev (fun k => gridironref12_May.j1 k l (i : Int) true) 1 := ⟨1, fun k hk => by
        obtain ⟨k, rfl⟩ : ∃ m, k = m + 1 := ⟨k - 1, by omega⟩
        simp only [gridironref12_May.j1, if_true]⟩
      rw [List.drop_eq_getElem_cons hi, List.all_cons]
      by_cases e1 : l[i].f0 < 0
      · have e : okR l[i] = false := by simp [okR, fitB]; omega
        simp only [if_pos e1, e, Bool.false_and, Bool.false_eq_true, if_false]
        exact hj1
      · by_cases e2 : l[i].f0 > 1023
        · have e : okR l[i] = false := by simp [okR, fitB]; omega
          simp only [if_neg e1, e, Bool.false_and, Bool.false_eq_true, if_false, decide_eq_true e2]
          exact hj1
        · have key := may1 l hl hr i hi _ (may0 r h d (i + 1) (by omega)) l[i].f1.length 0 (by omega)
          have ef : fitB l[i].f0 = true := by simp [fitB]; omega
          rw [List.drop_zero] at key
          simp only [if_neg e1, decide_eq_false e2]
          refine Ev.step (f := fun k => gridironref12_May.l1 k l (i : Int) 0) (fun k => by simp only [gridironref12_May.j1, Bool.false_eq_true, if_false]) ?_
          have eo : okR l[i] = !(l[i].f1.any fun n => !fitB n) := by unfold okR; rw [ef, Bool.true_and]
          rw [eo]
          cases e3 : l[i].f1.any (fun n => !fitB n)
          · rw [e3] at key
            simpa using key
          · rw [e3] at key
            simpa using key
theorem may_ev : Ev (fun k => gridironref12_May.f k l) (if l.all okR then (if (List.range l.length).any (dupB l) then 5 else 0) else 1) := by
  have h2 := may2 l hl l.length 0 (by omega)
  have := may0 l hl hr _ h2 l.length 0 (by omega)
  rw [List.drop_zero] at this
  rw [List.range_eq_range']
  exact this
end

/-! ### The law's own -/
def conv (x : S41) : S55 := ⟨x.f0, x.f1⟩
theorem of_at (l : List S41) (hl : l.length ≤ 100000) : ∀ (d i : Nat) (acc : List S55), i + d = l.length → acc.length ≤ i → Ev (fun k => gridironlaw12_of.l0 k l acc (i : Int)) (acc ++ (l.drop i).map conv)
  | 0, i, acc, h, ha => ⟨1, fun k hk => by
    obtain ⟨k, rfl⟩ : ∃ m, k = m + 1 := ⟨k - 1, by omega⟩
    simp only [gridironlaw12_of.l0]
    rw [if_neg (by omega), List.drop_eq_nil_of_le (by omega)]
    simp⟩
  | d + 1, i, acc, h, ha => by
    have hi : i < l.length := by omega
    refine Ev.step (f := fun k => gridironlaw12_of.l0 k l (acc ++ [conv l[i]]) ((i + 1 : Nat) : Int)) (fun k => ?_) ?_
    · simp only [gridironlaw12_of.l0]
      rw [if_pos (by omega), if_pos (by omega), if_pos (by omega), w1 hi (by omega), rd41_at hi]
      rfl
    · have := of_at l hl d (i + 1) (acc ++ [conv l[i]]) (by omega) (by simp; omega)
      rw [List.append_assoc] at this
      rw [List.drop_eq_getElem_cons hi]
      exact this
theorem of_ev (l : List S41) (hl : l.length ≤ 100000) : Ev (fun k => gridironlaw12_of.f k l) (l.map conv) := by
  have := of_at l hl l.length 0 [] (by omega) (by simp)
  simpa [gridironlaw12_of.f] using this
theorem fits_at (l : List S41) (hl : l.length ≤ 100000) : ∀ (d i : Nat), i + d = l.length → Ev (fun k => gridironlaw12_fits.l0 k l (i : Int)) ((l.drop i).all fun x => decide (x.f1.length ≤ 60))
  | 0, i, h => ⟨1, fun k hk => by
    obtain ⟨k, rfl⟩ : ∃ m, k = m + 1 := ⟨k - 1, by omega⟩
    simp only [gridironlaw12_fits.l0]
    rw [if_neg (by omega), List.drop_eq_nil_of_le (by omega)]
    rfl⟩
  | d + 1, i, h => by
    have hi : i < l.length := by omega
    refine Ev.step (f := fun k => if (l[i].f1.length : Int) > 60 then some false else gridironlaw12_fits.l0 k l ((i + 1 : Nat) : Int)) (fun k => ?_) ?_
    · simp only [gridironlaw12_fits.l0]
      rw [if_pos (by omega), if_pos (by omega), w1 hi (by omega), rd41_at hi]
    · rw [List.drop_eq_getElem_cons hi, List.all_cons]
      by_cases e : (l[i].f1.length : Int) > 60
      · have e2 : decide (l[i].f1.length ≤ 60) = false := by simp; omega
        simp only [if_pos e, e2, Bool.false_and]
        exact Ev.now _
      · have e2 : decide (l[i].f1.length ≤ 60) = true := by simp; omega
        simp only [if_neg e, e2, Bool.true_and]
        exact fits_at l hl d (i + 1) (by omega)
def fitsB (l : List S41) : Bool := decide (l.length ≤ 60) && l.all fun x => decide (x.f1.length ≤ 60)
theorem fits_ev (l : List S41) : Ev (fun k => gridironlaw12_fits.f k l) (fitsB l) := by
  unfold fitsB
  by_cases h : l.length ≤ 60
  · have := fits_at l (by omega) l.length 0 (by omega)
    simp only [gridironlaw12_fits.f, if_neg (show ¬ (l.length : Int) > 60 by omega), decide_eq_true h, Bool.true_and]
    simpa using this
  · simp only [gridironlaw12_fits.f, if_pos (show (l.length : Int) > 60 by omega), decide_eq_false h, Bool.false_and]
    exact Ev.now _
theorem ints_at (l : List Int) (hl : l.length ≤ 100000) : ∀ (d i : Nat), i + d = l.length → Ev (fun k => gridironref09_Ints.l0 k l l (i : Int)) true
  | 0, i, h => ⟨1, fun k hk => by
    obtain ⟨k, rfl⟩ : ∃ m, k = m + 1 := ⟨k - 1, by omega⟩
    simp only [gridironref09_Ints.l0]
    rw [if_neg (by omega)]⟩
  | d + 1, i, h => by
    have hi : i < l.length := by omega
    refine Ev.step (f := fun k => gridironref09_Ints.l0 k l l ((i + 1 : Nat) : Int)) (fun k => ?_) (ints_at l hl d (i + 1) (by omega))
    simp only [gridironref09_Ints.l0, if_true]
    rw [if_pos (by omega), if_pos (by omega), if_pos (by omega), w1 hi (by omega)]
theorem ints_ev (l : List Int) (hl : l.length ≤ 100000) : Ev (fun k => gridironref09_Ints.f k l l) true := by
  have := ints_at l hl l.length 0 (by omega)
  simpa [gridironref09_Ints.f] using this

end Go.Proofs.Ytdloopgdohjedaa
