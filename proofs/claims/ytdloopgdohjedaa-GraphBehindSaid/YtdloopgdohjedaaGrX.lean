/-
  Graph: slices.Compact, Clone, ContainsFunc: what they hand back, in words of rows that are owned and read.
-/
import Derived.Test.YtdloopgdohjedaaGrW
import Derived.Test.YtdloopgdohjedaaPGraphTellsx1
set_option linter.unusedVariables false
set_option linter.unusedSimpArgs false
namespace Go.Proofs.Ytdloopgdohjedaa
open Go.RowKit Go.Maps Go.Shelf Go.Proofs.YtdloopgdohjedaaW.PrintWords

/-! ### Compact -/
theorem comp_up {d : Array Int} (hs : ∀ i j, i < j → j < d.size → d[i]! ≤ d[j]!) (m : Nat) (hm : m ≤ d.size) :
    (Lib.compactUpTo d m).Pairwise (· < ·) ∧ ∀ x, x ∈ Lib.compactUpTo d m ↔ ∃ j, j < m ∧ d[j]! = x := by
  induction m with
  | zero => simp [Lib.compactUpTo]
  | succ m ih =>
    obtain ⟨h1, h2⟩ := ih (by omega)
    rw [Lib.compactUpTo_succ]
    by_cases hk : Lib.keeps d m = true
    · rw [if_pos hk]
      refine ⟨List.pairwise_append.2 ⟨h1, by simp, fun a ha b hb => ?_⟩, fun x => ?_⟩
      · obtain ⟨j, hj, rfl⟩ := (h2 a).1 ha
        simp only [List.mem_singleton] at hb
        subst hb
        have hne : m = 0 ∨ d[m]! ≠ d[m - 1]! := by simpa [Lib.keeps] using hk
        have hle : d[j]! ≤ d[m - 1]! := by
          by_cases e : j = m - 1
          · rw [e]; exact Int.le_refl _
          · exact hs j (m - 1) (by omega) (by omega)
        have hle2 : d[m - 1]! ≤ d[m]! := hs (m - 1) m (by omega) (by omega)
        rcases hne with h | h <;> omega
      · rw [List.mem_append, h2]
        constructor
        · rintro (⟨j, hj, e⟩ | h)
          · exact ⟨j, by omega, e⟩
          · exact ⟨m, by omega, (List.mem_singleton.1 h).symm⟩
        · rintro ⟨j, hj, e⟩
          by_cases e1 : j = m
          · subst e1; exact .inr (by simp [e])
          · exact .inl ⟨j, by omega, e⟩
    · rw [if_neg hk, List.append_nil]
      refine ⟨h1, fun x => ?_⟩
      rw [h2]
      have hne : m ≠ 0 ∧ d[m]! = d[m - 1]! := by simpa [Lib.keeps] using hk
      constructor
      · rintro ⟨j, hj, e⟩; exact ⟨j, by omega, e⟩
      · rintro ⟨j, hj, e⟩
        by_cases e1 : j = m
        · subst e1; exact ⟨j - 1, by omega, by rw [← hne.2]; exact e⟩
        · exact ⟨j, by omega, e⟩

theorem comp_len (zs : List Int) : (Lib.compact zs).length ≤ zs.length := by
  unfold Lib.compact Lib.compactUpTo
  rw [List.length_map]
  exact Nat.le_trans (List.length_filter_le _ _) (by simp)

theorem srt_sorted (a : List Int) : (srt a).Pairwise (· ≤ ·) := by
  have := List.pairwise_mergeSort (le := fun x y : Int => decide (x ≤ y)) (fun a b c h1 h2 => by simp at *; omega) (fun a b => by simp; omega) a
  exact this.imp (fun h => by simpa using h)
theorem mem_srt {a : List Int} {x : Int} : x ∈ srt a ↔ x ∈ a := (List.mergeSort_perm a _).mem_iff
/-- Rising, each once. -/
def Rise (l : List Int) : Prop := l.Pairwise (· < ·)
/-- The elements of l, rising, each once. -/
def rising (l : List Int) : List Int := Lib.compact (srt l)
theorem rising_spec (l : List Int) : Rise (rising l) ∧ ∀ x, x ∈ rising l ↔ x ∈ l := by
  have hs : ∀ i j, i < j → j < (srt l).toArray.size → (srt l).toArray[i]! ≤ (srt l).toArray[j]! := by
    intro i j hij hj
    have hj' : j < (srt l).length := by simpa using hj
    rw [getElem!_pos (srt l).toArray i (by simp; omega), getElem!_pos (srt l).toArray j hj]
    simpa using (List.pairwise_iff_getElem.1 (srt_sorted l)) i j (show i < (srt l).length by omega) hj' hij
  have h := comp_up hs (srt l).length (by simp)
  refine ⟨h.1, fun x => ?_⟩
  show x ∈ Lib.compactUpTo _ _ ↔ _
  rw [h.2, ← mem_srt, List.mem_iff_getElem]
  constructor
  · rintro ⟨j, hj, e⟩
    rw [getElem!_pos (srt l).toArray j (by simpa using hj)] at e
    exact ⟨j, hj, by simpa using e⟩
  · rintro ⟨j, hj, e⟩
    exact ⟨j, hj, by rw [getElem!_pos (srt l).toArray j (by simpa using hj)]; simpa using e⟩
theorem rise_ext {a b : List Int} (ha : Rise a) (hb : Rise b) (h : ∀ x, x ∈ a ↔ x ∈ b) : a = b := by
  refine List.Perm.eq_of_pairwise (le := (· < ·)) (fun x y _ _ h1 h2 => by omega) ha hb ?_
  refine (List.perm_ext_iff_of_nodup (ha.imp (fun h => by omega)) (hb.imp (fun h => by omega))).2 h

theorem compact_any (v : Value) (B : Nat) (zs : List Int) (w : World) (ho : w.ownsRow B 3 1 v zs.length (nums .i64 zs)) (hl : zs.length ≤ 1000) (hB : B ≤ w.heap.size) :
    Calls Try.prog 23 #[v] w fun e w' => ∃ v', e = .returned v' ∧ w'.ownsRow B 3 1 v' (Lib.compact zs).length (nums .i64 (Lib.compact zs)) ∧ w.grownBy w' v.ownBlock ∧ v'.ownBlock = v.ownBlock := by
  rcases ho.2 with ⟨rfl, h0⟩ | ⟨g, cap, cur, rfl, hb, hh, h1, h2, h3, h4⟩
  · obtain rfl : zs = [] := List.eq_nil_of_length_eq_zero h0
    refine (Any.slices_Compact_int_empty Try.compact none 0 w).mono ?_
    rintro e w' ⟨rfl, rfl⟩
    exact ⟨_, rfl, ho, World.grownBy.refl _ _, rfl⟩
  · rw [Nat.mul_one] at h4
    have hH : Sort.Holds (Value.int .i64) w g 0 zs.toArray := holds_of_block_i hh h4
    refine (Any.slices_Compact_int Try.compact g 0 cap zs w hH (by omega) h1).mono ?_
    rintro e w' ⟨rfl, q, rfl⟩
    have hcl : (Lib.compact zs).length ≤ zs.length := comp_len zs
    have hown := ownsRow_sorted_i (n := q) (os := #[]) (ss := zs) (ts := Lib.compact zs ++ List.replicate (zs.length - (Lib.compact zs).length) 0) (by simp; omega) hb hh h1 h2 h3
    rw [Sort.grow_empty] at hown
    have hgr := grownBy_sorted_i (w := w) (g := g) (n := q) (os := #[]) (Lib.compact zs ++ List.replicate (zs.length - (Lib.compact zs).length) 0).toArray
    rw [Sort.grow_empty] at hgr
    refine ⟨_, rfl, ?_, hgr, rfl⟩
    have := own_take hown hcl
    rw [Nat.mul_one] at this
    have e : ((Lib.compact zs ++ List.replicate (zs.length - (Lib.compact zs).length) (0 : Int)).map encZ).take (Lib.compact zs).length = nums .i64 (Lib.compact zs) := by
      rw [← List.map_take, List.take_left]
      rfl
    rw [e] at this
    exact this

/-! ### ContainsFunc -/
theorem fidx_any (p : Int → Bool) (zs : List Int) : decide (fidx p zs ≥ 0) = zs.any p := by
  rcases fidx_cases p zs with ⟨h, hall⟩ | ⟨k, hk, h, hp, _⟩
  · rw [h]
    have : zs.any p = false := by
      rw [List.any_eq_false]
      intro x hx; simp [hall x hx]
    rw [this]; rfl
  · rw [h]
    have : zs.any p = true := List.any_eq_true.2 ⟨_, List.getElem_mem hk, by simpa [rd, List.getD_eq_getElem?_getD, hk] using hp⟩
    rw [this]
    simp
theorem fidx_big (p : Int → Bool) (zs : List Int) (h : zs.length ≤ 9223372036854775807) : -1 ≤ fidx p zs ∧ fidx p zs ≤ 9223372036854775807 := by
  rcases fidx_cases p zs with ⟨h, hall⟩ | ⟨k, hk, h, hp, _⟩ <;> omega

def fitB (n : Int) : Bool := decide (0 ≤ n) && decide (n < 1024)
theorem fit20 (n : Int) (w : World) : Calls Try.prog 20 #[.int .i64 n] w fun e w' => e = .returned (.bool (fitB n)) ∧ Below w.heap.size w w' := by
  unfold fitB
  by_cases h0 : 0 ≤ n
  · have h0' : decide (n ≥ 0) = true := by simpa using h0
    go_enter Try.func20, Try.ntmps20
    go_wp2
    all_goals (go_ret; exact ⟨ret_b (by simp_all), Below.refl _ _⟩)
  · have h0' : decide (n ≥ 0) = false := by simpa using h0
    go_enter Try.func20, Try.ntmps20
    go_wp2
    all_goals (go_ret; exact ⟨ret_b (by simp_all), Below.refl _ _⟩)
theorem notfit22 (w : World) (row : Option Nat) : PredG 22 #[] (fun n => !fitB n) (fun _ => True) w row := by
  intro W x _ hg
  show Calls Try.prog 22 #[.int .i64 x] W _
  go_enter Try.func22, Try.ntmps22
  go_wp2_with (go_at_call 20; refine (fit20 x _).mono ?_; rintro e w' ⟨rfl, hb'⟩)
  go_ret
  exact ⟨ret_b (by simp), hb'⟩

theorem containsFunc_any (A : Option Addr) (c : Nat) (zs : List Int) (w : World) (hR : ReadsInt w .i64 A zs.length zs) :
    Calls Try.prog 21 #[.slice A zs.length c, .func (.func 22) #[] #[]] w fun e w' => e = .returned (.bool (zs.any fun n => !fitB n)) ∧ Below w.heap.size w w' := by
  have cI := indexFunc_any 22 #[] (enters_of Try.func22 (by kernel_rfl) rfl) (fun n => !fitB n) (fun _ => True) none A c zs w (fun _ _ => trivial) (notfit22 _ _) hR
  have hbig := fidx_big (fun n => !fitB n) zs hR.2.1
  have hany := fidx_any (fun n => !fitB n) zs
  generalize fidx (fun n => !fitB n) zs = r at cI hbig hany
  have HA := Lib.hid hany
  clear hany
  go_enter Try.func21, Try.ntmps21
  go_wp2_with (go_at_call 39; refine cI.mono ?_; rintro e w' ⟨rfl, hb'⟩)
  go_ret
  exact ⟨ret_b HA.out.symm, hb'⟩

/-! ### Clone -/
theorem clone_any (A : Option Addr) (c : Nat) (zs : List Int) (w : World) (hR : ReadsInt w .i64 A zs.length zs) (hl : zs.length ≤ 1000) :
    Calls Try.prog 36 #[.slice A zs.length c] w fun e w' => ∃ v', e = .returned v' ∧ w'.ownsRow w.heap.size 3 1 v' zs.length (nums .i64 zs) ∧ Below w.heap.size w w' := by
  cases A with
  | none =>
    have h0 : zs.length = 0 := by
      rcases Nat.eq_zero_or_pos zs.length with h | h
      · exact h
      · obtain ⟨ad, e, _⟩ := hR.2.2 h
        cases e
    refine (Any.slices_Clone_int_nil Try.clone zs.length c w).mono ?_
    rintro e w' ⟨rfl, rfl⟩
    obtain rfl : zs = [] := List.eq_nil_of_length_eq_zero h0
    exact ⟨_, rfl, own_nil _ _ _ _, Below.refl _ _⟩
  | some ad =>
    rcases Nat.eq_zero_or_pos zs.length with h0 | h0
    · obtain rfl : zs = [] := List.eq_nil_of_length_eq_zero h0
      refine (Any.slices_Clone_int_zero Try.clone ad c w).mono ?_
      rintro e w' ⟨v, rfl, h1, _, h2⟩
      exact ⟨_, rfl, h1, h2⟩
    · obtain ⟨ad', e, hc⟩ := hR.2.2 h0
      injection e with e
      subst e
      obtain ⟨b, off, i⟩ := ad
      cases i with
      | none =>
        refine (Any.slices_Clone_int Try.clone b off zs.length c zs w (Nat.le_refl _) (by omega) (fun j hj => ?_)).mono ?_
        · rw [← hc j hj, add_at]
        · rintro e w' ⟨v, rfl, h1, _, h2⟩
          rw [List.take_length] at h1
          exact ⟨_, rfl, h1, h2⟩
      | some q =>
        have := hc 0 h0
        simp [Addr.add, World.cell?] at this
        split at this <;> cases this

end Go.Proofs.Ytdloopgdohjedaa
