/-
  Graph: what stands behind: the order is whole, and behind what it reads: no program in sight.
-/
import Derived.Test.YtdloopgdohjedaaGrI
set_option linter.unusedVariables false
set_option linter.unusedSimpArgs false
namespace Go.Proofs.Ytdloopgdohjedaa
open Go.RowKit Go.Maps Go.Shelf Go.Proofs.YtdloopgdohjedaaW.PrintWords PGraphTells

/-- The place of a number in some; -1: it is none. -/
def idx (xs : List Int) (n : Int) : Int := fidx (fun y => y == n) xs
theorem idx_mem {xs : List Int} {n : Int} : 0 ≤ idx xs n ↔ n ∈ xs := by
  unfold idx
  have := fidx_any (fun y => y == n) xs
  rw [Bool.eq_iff_iff] at this
  simp only [decide_eq_true_eq, List.any_eq_true, beq_iff_eq] at this
  constructor
  · intro h
    obtain ⟨x, hx, rfl⟩ := this.1 h
    exact hx
  · intro h
    exact this.2 ⟨n, h, rfl⟩
theorem idx_lo (xs : List Int) (n : Int) : -1 ≤ idx xs n ∧ idx xs n ≤ xs.length := by
  unfold idx
  rcases fidx_cases (fun y => y == n) xs with ⟨h, _⟩ | ⟨k, hk, h, _⟩ <;> omega
theorem idx_none {xs : List Int} {n : Int} (h : ¬ n ∈ xs) : idx xs n = -1 := by
  have h1 := (idx_lo xs n).1
  have h2 : ¬ 0 ≤ idx xs n := fun h' => h (idx_mem.1 h')
  omega
theorem idx_take {xs : List Int} {n : Int} {k : Nat} (h : n ∈ xs.take k) : idx xs n < k := by
  unfold idx
  rcases fidx_cases (fun y => y == n) xs with ⟨h1, _⟩ | ⟨j, hj, h1, _, hall⟩
  · omega
  · rcases Nat.lt_or_ge j k with hlt | hge
    · omega
    · have : n ∈ xs.take j := by
        have e : xs.take k = (xs.take j).take k := by rw [List.take_take, Nat.min_eq_left hge]
        rw [e] at h
        exact List.mem_of_mem_take h
      have := hall n this
      simp at this
theorem idx_split {xs : List Int} {n : Int} (h : n ∈ xs) : ∃ k : Nat, idx xs n = k ∧ xs = xs.take k ++ n :: xs.drop (k + 1) := by
  have h0 := idx_mem.2 h
  unfold idx at h0 ⊢
  rcases fidx_cases (fun y => y == n) xs with ⟨h1, _⟩ | ⟨j, hj, h1, hp, _⟩
  · omega
  · refine ⟨j, h1, ?_⟩
    have : xs[j] = n := by rw [rd_at hj] at hp; simpa using hp
    rw [← this, ← List.drop_eq_getElem_cons hj, List.take_append_drop]

theorem hang_trans {m2 : GM} {on : List Int} {y x : Int} (hy : HangP m2 on y) (h : HangP m2 [y] x) : HangP m2 on x := by
  induction h with
  | one hn hx =>
    obtain rfl := List.mem_singleton.1 hn
    exact .more hy hx
  | more _ hx ih => exact .more ih hx
theorem hangF2 {m1 m2 : GM} (hG : Good m1 m2) {on : List Int} {x : Int} (h : HangP m2 on x) : fitB x = true := by
  cases h with
  | one _ hx => exact hG.fit _ _ hx
  | more _ hx => exact hG.fit _ _ hx
theorem min_ex {R : Int → Int → Prop} (htr : ∀ a b c, R a b → R b c → R a c) : ∀ (l : List Int), (∀ x ∈ l, ¬ R x x) → l ≠ [] → ∃ m ∈ l, ∀ y ∈ l, ¬ R y m
  | [], _, h => absurd rfl h
  | a :: l, hi, _ => by
    by_cases hl : l = []
    · subst hl
      exact ⟨a, by simp, fun y hy => by obtain rfl := List.mem_singleton.1 hy; exact hi _ (by simp)⟩
    · obtain ⟨m, hm, hmin⟩ := min_ex htr l (fun x hx => hi x (by simp [hx])) hl
      by_cases ham : R a m
      · refine ⟨a, by simp, fun y hy hya => ?_⟩
        rcases List.mem_cons.1 hy with rfl | hy
        · exact hi _ (by simp) hya
        · exact hmin y hy (htr _ _ _ hya ham)
      · refine ⟨m, by simp [hm], fun y hy hym => ?_⟩
        rcases List.mem_cons.1 hy with rfl | hy
        · exact ham hym
        · exact hmin y hy hym
theorem order_full {plain : List Int} {m1 m2 : GM} (hI : Inv m1 m2) {w : SM} {out : List Int} (h : OInv plain m1 w [] out) (hp : ∀ x ∈ plain, ¬ HangP m2 [x] x) : ∀ x ∈ plain, x ∈ out := by
  intro x hx
  by_cases hs : plain.filter (fun y => !out.contains y) = []
  · rw [List.filter_eq_nil_iff] at hs
    simpa using hs x hx
  · obtain ⟨m, hm, hmin⟩ := min_ex (R := fun y x => HangP m2 [y] x) (fun a b c h1 h2 => hang_trans h1 h2) _ (fun y hy => hp y (List.mem_filter.1 hy).1) hs
    obtain ⟨hm1, hm2⟩ := List.mem_filter.1 hm
    have hmo : ¬ m ∈ out := by simpa using hm2
    have hne : ¬ left_ plain m1 out m = 0 := by
      intro hz
      have : m ∈ ([] : List Int) := (h.mem m).2 ⟨hm1, hmo, by rw [h.wt m hm1, hz]; rfl⟩
      cases this
    rw [left_zero] at hne
    refine absurd (fun y hy hyp => ?_) hne
    by_cases hyo : y ∈ out
    · exact hyo
    · exact absurd (HangP.one (by simp) ((hI.inv y m).2 hy)) (hmin y (List.mem_filter.2 ⟨hyp, by simpa using hyo⟩))
theorem order_behind {plain : List Int} {m1 : GM} {w : SM} {rs out : List Int} (h : OInv plain m1 w rs out) {x r : Int} (hx : x ∈ out) (hr : r ∈ rd1 m1 x) : idx out r < idx out x := by
  obtain ⟨k, e, hs⟩ := idx_split hx
  rw [e]
  by_cases hp : r ∈ plain
  · exact idx_take (h.behind _ _ _ hs r hr hp)
  · rw [idx_none (fun ho => hp (h.sub r ho))]
    omega
theorem keys_len {l : List S41} (hnd : (l.map (·.f0)).Nodup) : (keysM (G1 l)).length = l.length := by
  have h1 := nd_le (a := keysM (G1 l)) (b := l.map (·.f0)) (rise_nodup (G1_rise l)) (fun x hx => by
    obtain ⟨y, hy, e⟩ := (G1_keys l x).1 hx
    exact List.mem_map.2 ⟨y, hy, e⟩)
  have h2 := nd_le (a := l.map (·.f0)) (b := keysM (G1 l)) hnd (fun x hx => by
    obtain ⟨y, hy, e⟩ := List.mem_map.1 hx
    exact (G1_keys l x).2 ⟨y, hy, e⟩)
  rw [List.length_map] at h1 h2
  omega
theorem filter_both (p : Int → Bool) : ∀ xs : List Int, (xs.filter fun x => !p x).length + (xs.filter p).length = xs.length
  | [] => rfl
  | x :: xs => by
    have := filter_both p xs
    cases h : p x <;> simp [h] <;> omega
/-- What holds of the order. -/
structure OrdB (l : List S41) (p : Int → Bool) (out : List Int) : Prop where
  len : out.length + ((keysM (G1 l)).filter p).length = l.length
  mem : ∀ x, x ∈ keysM (G1 l) → (x ∈ out ↔ p x = false)
  behind : ∀ y ∈ l, y.f0 ∈ out → ∀ r ∈ y.f1, idx out r < idx out y.f0
theorem ordB_of {l : List S41} (hok : l.all okL = true) (hnd : (l.map (·.f0)).Nodup) (hr : ∀ x ∈ l, x.f1.length ≤ 60) (p : Int → Bool) (hp : ∀ n, p n = true ↔ HangP (G2 l) [n] n) {wt : SM} {out : List Int} (h : ORuns ((keysM (G1 l)).filter fun n => !p n) (G1 l) (G2 l) wt [] out) : OrdB l p out := by
  have hpn : ((keysM (G1 l)).filter fun n => !p n).Nodup := (rise_nodup (G1_rise l)).sublist List.filter_sublist
  have hi := oruns_inv (inv_G hnd) hpn (fun x => Nat.le_trans (rd1_len hnd hr x) (by omega)) h
  have hfull := order_full (inv_G hnd) hi (fun x hx => by
    have := (List.mem_filter.1 hx).2
    rw [← hp]
    simpa using this)
  have h1 := nd_le hi.ond hi.sub
  have h2 := nd_le hpn hfull
  have h3 := filter_both p (keysM (G1 l))
  have h4 := keys_len hnd
  refine ⟨by omega, fun x hx => ⟨fun ho => ?_, fun hpx => hfull x (List.mem_filter.2 ⟨hx, by simp [hpx]⟩)⟩, fun y hy ho r hr' => ?_⟩
  · have := (List.mem_filter.1 (hi.sub x ho)).2
    simpa using this
  · exact order_behind hi ho ((rd1_G1 hnd _ _).2 ⟨y, hy, rfl, hr'⟩)

end Go.Proofs.Ytdloopgdohjedaa
