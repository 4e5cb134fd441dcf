/-
  Graph: the graph that New makes against the document's words: no program in sight.
-/
import Derived.Test.YtdloopgdohjedaaGrD
set_option linter.unusedVariables false
set_option linter.unusedSimpArgs false
namespace Go.Proofs.Ytdloopgdohjedaa
open Go.RowKit Go.Maps Go.Shelf Go.Proofs.YtdloopgdohjedaaW.PrintWords PGraphTells

theorem G1_snoc (l : List S41) (a : S41) : G1 (l ++ [a]) = putM (G1 l) a.f0 (rising a.f1) := by unfold G1; rw [List.foldl_append]; rfl
theorem G2_snoc (l : List S41) (a : S41) : G2 (l ++ [a]) = addR (G2 l) a.f0 (rising a.f1) := by unfold G2; rw [List.foldl_append]; rfl
theorem rise_nodup {l : List Int} (h : Rise l) : l.Nodup := h.imp (fun h => by omega)
theorem G1_keys (l : List S41) (x : Int) : x ∈ keysM (G1 l) ↔ ∃ y ∈ l, y.f0 = x := by
  refine snoc_ind (P := fun l => x ∈ keysM (G1 l) ↔ ∃ y ∈ l, y.f0 = x) (by simp [G1, keysM]) (fun l a ih => ?_) l
  rw [G1_snoc, mem_keys_put, ih]
  constructor
  · rintro (rfl | ⟨y, hy, e⟩)
    · exact ⟨a, by simp, rfl⟩
    · exact ⟨y, by simp [hy], e⟩
  · rintro ⟨y, hy, e⟩
    rcases List.mem_append.1 hy with hy | hy
    · exact .inr ⟨y, hy, e⟩
    · obtain rfl : y = a := by simpa using hy
      exact .inl e.symm
theorem G1_rise (l : List S41) : Rise (keysM (G1 l)) :=
  snoc_ind (P := fun l => Rise (keysM (G1 l))) (by simp [G1, keysM, Rise]) (fun l a ih => by rw [G1_snoc]; exact rise_put ih _ _) l
theorem G1_len (l : List S41) : (G1 l).length ≤ l.length :=
  snoc_ind (P := fun l => (G1 l).length ≤ l.length) (by simp [G1]) (fun l a ih => by rw [G1_snoc]; have := len_put_le (G1 l) a.f0 (rising a.f1); simp; omega) l
theorem nodup_of_dup {l : List S41} (h : ∀ i, i < l.length → dup l i = false) : (l.map (·.f0)).Nodup := by
  revert h
  refine snoc_ind (P := fun l : List S41 => (∀ i, i < l.length → dup l i = false) → (l.map (·.f0)).Nodup) (fun _ => by simp) (fun l a ih h => ?_) l
  rw [List.map_append]
  refine List.nodup_append.2 ⟨ih (fun i hi => ?_), by simp, fun x hx y hy => ?_⟩
  · have := h i (by rw [List.length_append]; omega)
    unfold dup at this ⊢
    rw [List.take_append_of_le_length (by omega)] at this
    have e : rd_T41 (l ++ [a]) (i : Int) = rd_T41 l (i : Int) := by rw [rd41_at hi, rd41_at (by rw [List.length_append]; omega), List.getElem_append_left hi]
    rw [e] at this
    exact this
  · obtain rfl : y = a.f0 := by simpa using hy
    have := h l.length (by simp)
    unfold dup at this
    have e : rd_T41 (l ++ [a]) (l.length : Int) = a := by rw [rd41_at (by simp)]; simp
    rw [e, List.take_left' rfl] at this
    intro e2
    obtain ⟨z, hz, e3⟩ := List.mem_map.1 hx
    have := mem_keys.1 ((G1_keys l a.f0).2 ⟨z, hz, e3.trans e2⟩)
    simp_all
theorem getM_G1 {l : List S41} (h : (l.map (·.f0)).Nodup) (n : Int) : getM (G1 l) n = (l.find? (fun x => x.f0 == n)).map fun x => rising x.f1 := by
  revert h
  refine snoc_ind (P := fun l : List S41 => (l.map (·.f0)).Nodup → getM (G1 l) n = (l.find? (fun x => x.f0 == n)).map fun x => rising x.f1) (fun _ => by simp [G1, getM]) (fun l a ih h => ?_) l
  rw [List.map_append] at h
  obtain ⟨h1, _, h3⟩ := List.nodup_append.1 h
  rw [G1_snoc, getM_put, ih h1, List.find?_append]
  by_cases e : n = a.f0
  · have : l.find? (fun x => x.f0 == n) = none := by
      rw [List.find?_eq_none]
      intro x hx hn
      exact h3 x.f0 (List.mem_map.2 ⟨x, hx, rfl⟩) a.f0 (by simp) ((show x.f0 = n by simpa using hn).trans e)
    rw [if_pos e, this, Option.none_or]
    simp [e]
  · rw [if_neg e]
    have : [a].find? (fun x => x.f0 == n) = none := by
      simp
      exact fun h => e h.symm
    rw [this, Option.or_none]
theorem rd1_G1 {l : List S41} (h : (l.map (·.f0)).Nodup) (n y : Int) : y ∈ rd1 (G1 l) n ↔ ∃ x ∈ l, x.f0 = n ∧ y ∈ x.f1 := by
  unfold rd1
  rw [getM_G1 h]
  cases e : l.find? (fun x => x.f0 == n) with
  | none =>
    simp
    intro x hx hn
    have := List.find?_eq_none.1 e x hx
    exact absurd hn (by simpa using this)
  | some x =>
    have hx := List.mem_of_find?_eq_some e
    have hn : x.f0 = n := by have := List.find?_some e; simpa using this
    simp only [Option.map_some, Option.getD_some, (rising_spec x.f1).2]
    constructor
    · intro hy; exact ⟨x, hx, hn, hy⟩
    · rintro ⟨z, hz, e1, hy⟩
      have : z = x := by
        obtain ⟨i, hi, rfl⟩ := List.mem_iff_getElem.1 hz
        obtain ⟨j, hj, rfl⟩ := List.mem_iff_getElem.1 hx
        have : i = j := by
          refine (List.getElem_inj (xs := l.map (·.f0)) (h₀ := by simpa using hi) (h₁ := by simpa using hj) h).1 ?_
          simp [e1, hn]
        subst this
        rfl
      rw [← this]
      exact hy
theorem rd1_rise {l : List S41} (h : (l.map (·.f0)).Nodup) (n : Int) : Rise (rd1 (G1 l) n) := by
  unfold rd1
  rw [getM_G1 h]
  cases e : l.find? (fun x => x.f0 == n) with
  | none => simp [Rise]
  | some x => exact (rising_spec x.f1).1
theorem rd1_len {l : List S41} (h : (l.map (·.f0)).Nodup) (hr : ∀ x ∈ l, x.f1.length ≤ 60) (n : Int) : (rd1 (G1 l) n).length ≤ 2000 := by
  unfold rd1
  rw [getM_G1 h]
  cases e : l.find? (fun x => x.f0 == n) with
  | none => simp
  | some x =>
    have := hr x (List.mem_of_find?_eq_some e)
    have := rising_len x.f1
    simp
    omega
theorem getM_addR (a n : Int) : ∀ (R : List Int) (m : GM), R.Nodup → (getM (addR m a R) n).getD [] = if n ∈ R then (getM m n).getD [] ++ [a] else (getM m n).getD []
  | [], m, _ => by simp [addR]
  | r :: R, m, h => by
    have h1 := List.nodup_cons.1 h
    have ih := getM_addR a n R (putM m r (((getM m r).getD []) ++ [a])) h1.2
    show (getM (addR (putM m r (((getM m r).getD []) ++ [a])) a R) n).getD [] = _
    rw [ih, getM_put]
    by_cases e : n = r
    · subst e
      simp [h1.1]
    · simp [e]
theorem succs_snoc (l : List S41) (a : S41) (n : Int) : succs (G2 (l ++ [a])) n = if n ∈ a.f1 then succs (G2 l) n ++ [a.f0] else succs (G2 l) n := by
  unfold succs
  rw [G2_snoc, getM_addR _ _ _ _ (rise_nodup (rising_spec a.f1).1)]
  simp only [(rising_spec a.f1).2]
theorem succs_G2 (l : List S41) (n x : Int) : x ∈ succs (G2 l) n ↔ ∃ y ∈ l, y.f0 = x ∧ n ∈ y.f1 := by
  refine snoc_ind (P := fun l => x ∈ succs (G2 l) n ↔ ∃ y ∈ l, y.f0 = x ∧ n ∈ y.f1) (by simp [G2, succs, getM]) (fun l a ih => ?_) l
  rw [succs_snoc]
  have key : (∃ y ∈ l ++ [a], y.f0 = x ∧ n ∈ y.f1) ↔ (∃ y ∈ l, y.f0 = x ∧ n ∈ y.f1) ∨ (a.f0 = x ∧ n ∈ a.f1) := by
    constructor
    · rintro ⟨y, hy, h⟩
      rcases List.mem_append.1 hy with hy | hy
      · exact .inl ⟨y, hy, h⟩
      · obtain rfl : y = a := by simpa using hy
        exact .inr h
    · rintro (⟨y, hy, h⟩ | h)
      · exact ⟨y, by simp [hy], h⟩
      · exact ⟨a, by simp, h⟩
  rw [key]
  by_cases e : n ∈ a.f1
  · rw [if_pos e, List.mem_append, ih, List.mem_singleton]
    constructor
    · rintro (h | h)
      · exact .inl h
      · exact .inr ⟨h.symm, e⟩
    · rintro (h | h)
      · exact .inl h
      · exact .inr h.1.symm
  · rw [if_neg e, ih]
    constructor
    · exact .inl
    · rintro (h | h)
      · exact h
      · exact absurd h.2 e
theorem succs_nodup {l : List S41} (h : (l.map (·.f0)).Nodup) (n : Int) : (succs (G2 l) n).Nodup := by
  revert h
  refine snoc_ind (P := fun l : List S41 => (l.map (·.f0)).Nodup → (succs (G2 l) n).Nodup) (fun _ => by simp [G2, succs, getM]) (fun l a ih h => ?_) l
  rw [List.map_append] at h
  obtain ⟨h1, _, h3⟩ := List.nodup_append.1 h
  rw [succs_snoc]
  split
  · refine List.nodup_append.2 ⟨ih h1, by simp, fun x hx y hy => ?_⟩
    obtain rfl : y = a.f0 := by simpa using hy
    obtain ⟨z, hz, e, _⟩ := (succs_G2 l n x).1 hx
    exact h3 x (List.mem_map.2 ⟨z, hz, e⟩) a.f0 (by simp)
  · exact ih h1

section
variable {l : List S41} (hok : l.all okL = true) (hnd : (l.map (·.f0)).Nodup)
theorem okL_mem {l : List S41} (hok : l.all okL = true) {x : S41} (hx : x ∈ l) : fitB x.f0 = true ∧ ∀ y ∈ x.f1, fitB y = true := by
  have := List.all_eq_true.1 hok x hx
  unfold okL at this
  simp only [Bool.and_eq_true, Bool.not_eq_true', List.any_eq_false] at this
  exact ⟨this.1, fun y hy => by simpa using this.2 y hy⟩
theorem good_G {l : List S41} (hok : l.all okL = true) (hl : l.length ≤ 60) : Good (G1 l) (G2 l) := by
  refine ⟨G1_rise l, by have := G1_len l; omega, fun n hn => ?_, fun n x hx => ?_⟩
  · obtain ⟨y, hy, rfl⟩ := (G1_keys l n).1 hn
    exact (okL_mem hok hy).1
  · obtain ⟨y, hy, rfl, _⟩ := (succs_G2 l n x).1 hx
    exact (okL_mem hok hy).1
theorem inv_G {l : List S41} (hnd : (l.map (·.f0)).Nodup) : Inv (G1 l) (G2 l) :=
  ⟨fun n x => by rw [succs_G2, rd1_G1 hnd], succs_nodup hnd, fun x => rise_nodup (rd1_rise hnd x)⟩
theorem hang_same (l : List S41) (on : List Int) (x : Int) : HangP (G2 l) on x ↔ HangR (l.map conv) on x := by
  constructor
  · intro h
    induction h with
    | one hn hx =>
      obtain ⟨y, hy, rfl, hr⟩ := (succs_G2 l _ _).1 hx
      exact .one (x := conv y) (List.mem_map.2 ⟨y, hy, rfl⟩) hr hn
    | more _ hx ih =>
      obtain ⟨y, hy, rfl, hr⟩ := (succs_G2 l _ _).1 hx
      exact .more (x := conv y) (List.mem_map.2 ⟨y, hy, rfl⟩) hr ih
  · intro h
    induction h with
    | one hx hr ho =>
      obtain ⟨y, hy, rfl⟩ := List.mem_map.1 hx
      exact .one ho ((succs_G2 l _ _).2 ⟨y, hy, rfl, hr⟩)
    | more hx hr _ ih =>
      obtain ⟨y, hy, rfl⟩ := List.mem_map.1 hx
      exact .more ih ((succs_G2 l _ _).2 ⟨y, hy, rfl, hr⟩)
theorem any_conv (l : List S41) (n : Int) : ((l.map conv).any fun x => x.f0 == n) = true ↔ ∃ y ∈ l, y.f0 = n := by
  rw [List.any_map, List.any_eq_true]
  constructor
  · rintro ⟨y, hy, e⟩; exact ⟨y, hy, by simpa [conv] using e⟩
  · rintro ⟨y, hy, e⟩; exact ⟨y, hy, by simpa [conv] using e⟩
theorem keys_nodes {l : List S41} (hok : l.all okL = true) : keysM (G1 l) = nodesR (l.map conv) := by
  refine rise_ext (G1_rise l) (rise_nodes _) (fun x => ?_)
  unfold nodesR
  rw [G1_keys, List.mem_filter, any_conv]
  constructor
  · rintro ⟨y, hy, e⟩
    have := (okL_mem hok hy).1
    refine ⟨mem_cands.2 ?_, y, hy, e⟩
    simp [fitB] at this
    omega
  · exact fun h => h.2
theorem findR_conv (l : List S41) (n : Int) : (findR (l.map conv) n).2.1 = ((l.find? (fun x => x.f0 == n)).map (·.f1)).getD [] := by
  unfold findR
  rw [List.find?_map]
  have e : ((fun x : S55 => x.f0 == n) ∘ conv) = fun x : S41 => x.f0 == n := rfl
  rw [e]
  cases l.find? (fun x => x.f0 == n) <;> rfl
theorem rd1_conv {l : List S41} (hnd : (l.map (·.f0)).Nodup) (n y : Int) : y ∈ rd1 (G1 l) n ↔ y ∈ (findR (l.map conv) n).2.1 := by
  unfold rd1
  rw [findR_conv, getM_G1 hnd]
  cases l.find? (fun x => x.f0 == n) with
  | none => simp
  | some x => simp [(rising_spec x.f1).2]
end
theorem find_congr {α : Type} {f g : α → Bool} : ∀ {xs : List α}, (∀ x ∈ xs, f x = g x) → xs.find? f = xs.find? g
  | [], _ => rfl
  | x :: xs, h => by
    rw [List.find?_cons, List.find?_cons, h x (by simp), find_congr (fun y hy => h y (by simp [hy]))]
/-- The least one. -/
theorem find_least {t : Int} {q : Int → Bool} : ∀ {xs : List Int}, Rise xs → t ∈ xs → q t = true → (∀ y ∈ xs, q y = true → t ≤ y) → xs.find? q = some t
  | [], _, h, _, _ => by simp at h
  | x :: xs, hr, h, hq, hm => by
    have h1 := List.pairwise_cons.1 hr
    rw [List.find?_cons]
    by_cases e : x = t
    · subst e; rw [hq]
    · have ht : t ∈ xs := by
        rcases List.mem_cons.1 h with h | h
        · exact absurd h.symm e
        · exact h
      have : q x = false := by
        cases hx : q x
        · rfl
        · have := hm x (by simp) hx
          have := h1.1 t ht
          omega
      rw [this]
      exact find_least h1.2 ht hq (fun y hy => hm y (by simp [hy]))
theorem okO_is {l : List S41} (hok : l.all okL = true) (hnd : (l.map (·.f0)).Nodup) (p : Int → Bool) (out : List Int) {n : Int} (hn : n ∈ (keysM (G1 l)).filter fun n => !p n) :
    okO (l.map conv) ((nodesR (l.map conv)).filter p) out n = true ↔ ¬ n ∈ out ∧ left_ ((keysM (G1 l)).filter fun n => !p n) (G1 l) out n = 0 := by
  rw [left_zero]
  rw [List.mem_filter] at hn
  unfold okO
  simp only [Bool.and_eq_true, Bool.not_eq_true', List.contains_eq_mem, decide_eq_false_iff_not, List.mem_filter, ← keys_nodes hok]
  have hp : p n = false := by simpa using hn.2
  have e1 : (¬ (n ∈ keysM (G1 l) ∧ p n = true)) := by simp [hp]
  constructor
  · rintro ⟨⟨_, h2⟩, h3⟩
    refine ⟨h2, fun y hy hyp => ?_⟩
    unfold readyB at h3
    have := List.all_eq_true.1 h3 y ((rd1_conv hnd n y).1 hy)
    obtain ⟨hy1, hyp'⟩ := hyp
    have ha := (any_conv l y).2 ((G1_keys l y).1 hy1)
    rw [ha] at this
    simpa [hyp'] using this
  · rintro ⟨h2, h3⟩
    refine ⟨⟨e1, h2⟩, ?_⟩
    unfold readyB
    rw [List.all_eq_true]
    intro y hy
    have hy' := (rd1_conv hnd n y).2 hy
    by_cases ha : ((l.map conv).any fun x => x.f0 == y) = true
    · have hk := (G1_keys l y).2 ((any_conv l y).1 ha)
      cases hp2 : p y
      · have := h3 y hy' ⟨hk, hp2⟩
        simp [this]
      · simp [hp2, ← keys_nodes hok, hk]
    · have ha' : ((l.map conv).any fun x => x.f0 == y) = false := by simpa using ha
      rw [ha']
      rfl
theorem nxt_is {l : List S41} (hok : l.all okL = true) (hnd : (l.map (·.f0)).Nodup) (p : Int → Bool) (out : List Int) :
    (nodesR (l.map conv)).find? (okO (l.map conv) ((nodesR (l.map conv)).filter p) out) = ((keysM (G1 l)).filter fun n => !p n).find? (okO (l.map conv) ((nodesR (l.map conv)).filter p) out) := by
  rw [List.find?_filter, ← keys_nodes hok]
  refine find_congr (fun x hx => ?_)
  cases hp : p x
  · simp
  · simp [okO, hx, hp]
theorem oruns_steps {l : List S41} (hok : l.all okL = true) (hnd : (l.map (·.f0)).Nodup) (hr : ∀ x ∈ l, x.f1.length ≤ 60) (p : Int → Bool) {wt : SM} {rs out : List Int} (h : ORuns ((keysM (G1 l)).filter fun n => !p n) (G1 l) (G2 l) wt rs out) :
    Steps (fun o => (nodesR (l.map conv)).find? (okO (l.map conv) ((nodesR (l.map conv)).filter p) o)) out ∧ (rs = [] → (nodesR (l.map conv)).find? (okO (l.map conv) ((nodesR (l.map conv)).filter p) out) = none) ∧ out.Nodup ∧ ∀ x ∈ out, x ∈ (keysM (G1 l)).filter fun n => !p n := by
  have hpn : ((keysM (G1 l)).filter fun n => !p n).Nodup := (rise_nodup (G1_rise l)).sublist List.filter_sublist
  have hpr : Rise ((keysM (G1 l)).filter fun n => !p n) := (G1_rise l).sublist List.filter_sublist
  have inv : ∀ {wt : SM} {rs out : List Int}, ORuns ((keysM (G1 l)).filter fun n => !p n) (G1 l) (G2 l) wt rs out → OInv ((keysM (G1 l)).filter fun n => !p n) (G1 l) wt rs out := fun h => oruns_inv (inv_G hnd) hpn (fun x => Nat.le_trans (rd1_len hnd hr x) (by omega)) h
  refine ⟨?_, fun hrs => ?_, (inv h).ond, (inv h).sub⟩
  · induction h with
    | start => exact .nil
    | @step w t rs out h ih =>
      have hi := inv h
      refine .snoc ih ?_
      show (nodesR (l.map conv)).find? _ = some t
      rw [nxt_is hok hnd]
      obtain ⟨h1, h2, h3⟩ := (hi.mem t).1 (by simp)
      refine find_least hpr h1 ((okO_is hok hnd p out h1).2 ⟨h2, by have := hi.wt t h1; omega⟩) (fun y hy hq => ?_)
      obtain ⟨q1, q2⟩ := (okO_is hok hnd p out hy).1 hq
      have : y ∈ t :: rs := (hi.mem y).2 ⟨hy, q1, by have := hi.wt y hy; omega⟩
      rcases List.mem_cons.1 this with rfl | this
      · omega
      · exact (List.pairwise_cons.1 hi.srtd).1 y this
  · subst hrs
    have hi := inv h
    rw [nxt_is hok hnd, List.find?_eq_none]
    intro y hy hq
    obtain ⟨q1, q2⟩ := (okO_is hok hnd p out hy).1 hq
    have : y ∈ ([] : List Int) := (hi.mem y).2 ⟨hy, q1, by have := hi.wt y hy; omega⟩
    cases this
/-- New's error is May's. -/
def mayR (l : List S41) : Int := if (l.map conv).all okR then (if (List.range (l.map conv).length).any (dupB (l.map conv)) then 5 else 0) else 1
theorem all_okR (l : List S41) : (l.map conv).all okR = l.all okL := by rw [List.all_map]; rfl
theorem dup_is {l : List S41} {i : Nat} (hi : i < l.length) : dupB (l.map conv) i = dup l i := by
  unfold dupB dup
  rw [rd55_at (by simpa using hi), rd41_at hi, Bool.eq_iff_iff, ← mem_keys, G1_keys, ← List.map_take, any_conv]
  simp [conv]
theorem mayR_bad {l : List S41} (h : l.all okL = false) : mayR l = 1 := by unfold mayR; rw [all_okR, h]; rfl
theorem mayR_dup {l : List S41} (h : l.all okL = true) (hd : ∃ i, i < l.length ∧ dup l i = true) : mayR l = 5 := by
  unfold mayR
  rw [all_okR, h, if_pos rfl, if_pos]
  obtain ⟨i, hi, hd⟩ := hd
  rw [List.any_eq_true]
  exact ⟨i, by simpa using hi, by rw [dup_is hi]; exact hd⟩
theorem mayR_ok {l : List S41} (h : l.all okL = true) (hd : ∀ i, i < l.length → dup l i = false) : mayR l = 0 := by
  unfold mayR
  rw [all_okR, h, if_pos rfl, if_neg]
  rw [List.any_eq_true]
  rintro ⟨i, hi, hd'⟩
  have hi' : i < l.length := by simpa using hi
  rw [dup_is hi', hd i hi'] at hd'
  cases hd'

end Go.Proofs.Ytdloopgdohjedaa
