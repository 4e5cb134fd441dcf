/-
  Branch: what the document's functions say, in plain words.
-/
import Derived.Test.YtfkidokcdagljaaBrF
import Derived.Test.YtfkidokcdagljaaBrS
set_option linter.unusedVariables false
set_option linter.unusedSimpArgs false
namespace Go.Proofs.Ytfkidokcdagljaa
open Go.RowKit Go.Maps Go.WideMaps Go.WideElems Go.Sort Go.Shelf Go.Proofs.YtfkidokcdagljaaW.PrintWords PBranchPlays

theorem wrap_nat {i : Nat} (h : i ≤ 1000000) : wrap64 ((i : Int) + 1) = ((i + 1 : Nat) : Int) := by
  unfold wrap64
  omega
theorem rd_nat {l : List S52} {i : Nat} (h : i < l.length) : rd_T52 l (i : Int) = l[i] := by
  simp [rd_T52, List.getD_eq_getElem?_getD, h]
theorem keyB_list (p : List UInt8 × Int) : (keyB p).toList = p.1 := by
  rw [Lib.toList_data]
  simp [keyB]
theorem key_eq (p : List UInt8 × Int) (s : ByteArray) : ((keyB p).toList = s.toList) ↔ (p.1 == s.data.toList) = true := by
  rw [keyB_list, Lib.toList_data, beq_iff_eq]

/-! ### find -/
def posB (m : Tb) (k : List UInt8) : Int := match m.findIdx? (fun p => p.1 == k) with | some i => (i : Int) | none => -1
theorem find_l0 (m : Tb) (hm : m.length ≤ 1000) (s : ByteArray) : ∀ (d i k : Nat), i + d = m.length → d < k →
    gridironref17_find.l0 k (refB m) s (i : Int) = some (match (m.drop i).findIdx? (fun p => p.1 == s.data.toList) with | some j => ((i + j : Nat) : Int) | none => -1) := by
  intro d
  induction d with
  | zero =>
    intro i k hi hk
    obtain ⟨k, rfl⟩ : ∃ k', k = k' + 1 := ⟨k - 1, by omega⟩
    simp only [gridironref17_find.l0]
    rw [if_neg (by rw [refB_length]; omega), List.drop_of_length_le (by omega)]
    simp
  | succ d ih =>
    intro i k hi hk
    obtain ⟨k, rfl⟩ : ∃ k', k = k' + 1 := ⟨k - 1, by omega⟩
    have hlt : i < m.length := by omega
    simp only [gridironref17_find.l0]
    rw [if_pos (by rw [refB_length]; omega), if_pos (by omega), rd_nat (by rw [refB_length]; omega), wrap_nat (by omega)]
    have e : (refB m)[i]'(by rw [refB_length]; omega) = ⟨keyB m[i], m[i].2⟩ := by simp [refB]
    rw [e, ih (i + 1) k (by omega) (by omega), List.drop_eq_getElem_cons hlt, List.findIdx?_cons]
    by_cases hk : (m[i].1 == s.data.toList) = true
    · rw [if_pos ((key_eq _ _).2 hk), hk]
      simp
    · rw [if_neg (fun h => hk ((key_eq _ _).1 h))]
      simp only [hk]
      simp only [Bool.false_eq_true, if_false]
      cases (m.drop (i + 1)).findIdx? (fun p => p.1 == s.data.toList) with
      | none => rfl
      | some j =>
        show some (((i + 1 + j : Nat) : Int)) = some (((i + (j + 1) : Nat) : Int))
        rw [show i + 1 + j = i + (j + 1) by omega]
theorem find_ev (m : Tb) (hm : m.length ≤ 1000) (s : ByteArray) : Ev (fun k => gridironref17_find.f k (refB m) s) (posB m s.data.toList) := by
  refine Ev.of (gridironref17_find.mono _ _) (k := m.length + 1) ?_
  show gridironref17_find.l0 _ _ _ 0 = _
  have := find_l0 m hm s m.length 0 (m.length + 1) (by omega) (by omega)
  simp only [List.drop_zero, Nat.zero_add] at this
  exact this
theorem pos_none {m : Tb} {k : List UInt8} (h : getB m k = none) : posB m k = -1 := by
  unfold getB at h
  unfold posB
  have : m.findIdx? (fun p => p.1 == k) = none := by
    rw [List.findIdx?_eq_none_iff]
    rw [Option.map_eq_none_iff, List.find?_eq_none] at h
    intro x hx
    simpa using h x hx
  rw [this]
theorem pos_some {m : Tb} {k : List UInt8} {v : Int} (h : getB m k = some v) : ∃ (i : Nat) (hi : i < m.length), posB m k = (i : Int) ∧ m[i].2 = v := by
  unfold getB at h
  unfold posB
  rw [Option.map_eq_some_iff] at h
  obtain ⟨p, hp, rfl⟩ := h
  cases hf : m.findIdx? (fun p => p.1 == k) with
  | none =>
    rw [List.findIdx?_eq_none_iff] at hf
    have := List.find?_some hp
    have h2 := hf p (List.mem_of_find?_eq_some hp)
    simp_all
  | some i =>
    rw [List.findIdx?_eq_some_iff_getElem] at hf
    obtain ⟨hi, h1, h2⟩ := hf
    refine ⟨i, hi, rfl, ?_⟩
    have : m.find? (fun p => p.1 == k) = some m[i] := by
      rw [List.find?_eq_some_iff_getElem]
      exact ⟨h1, i, hi, rfl, fun j hj => by simpa using h2 j hj⟩
    rw [this] at hp
    injection hp with hp
    rw [hp]

/-! ### Head -/
theorem head_ev (m : Tb) (hm : m.length ≤ 1000) (s : ByteArray) : Ev (fun k => gridironref17_Head.f k (refB m) s) (opHead m s.data.toList) := by
  refine Ev.bind (find_ev m hm s) ?_
  refine ⟨0, fun k _ => ?_⟩
  unfold opHead
  cases hg : getB m s.data.toList with
  | none => simp [pos_none hg]
  | some v =>
    obtain ⟨i, hi, e, hv⟩ := pos_some hg
    simp only [e]
    rw [if_neg (by omega), if_pos (by omega), if_pos (by rw [refB_length]; omega), rd_nat (by rw [refB_length]; omega)]
    simp [refB, hv]


/-! ### Drop -/
theorem refB_append (a b : Tb) : refB (a ++ b) = refB a ++ refB b := by simp [refB]
theorem refB_get {m : Tb} {i : Nat} (h : i < m.length) : (refB m)[i]'(by rw [refB_length]; exact h) = ⟨keyB m[i], m[i].2⟩ := by simp [refB]
theorem delB_hit {p : List UInt8 × Int} {m : Tb} {k : List UInt8} (h : (p.1 == k) = true) : delB (p :: m) k = delB m k := by
  unfold delB
  rw [List.filter_cons_of_neg (by simp [h])]
theorem delB_miss {p : List UInt8 × Int} {m : Tb} {k : List UInt8} (h : ¬ (p.1 == k) = true) : delB (p :: m) k = p :: delB m k := by
  unfold delB
  rw [List.filter_cons_of_pos (by simp [h])]
theorem refB_cons (p : List UInt8 × Int) (m : Tb) : refB (p :: m) = ⟨keyB p, p.2⟩ :: refB m := rfl
theorem drop_l0 (m : Tb) (hm : m.length ≤ 1000) (s : ByteArray) : ∀ (d i k : Nat) (acc : List S52), i + d = m.length → d < k → acc.length ≤ i →
    gridironref17_Drop.l0 k (refB m) s acc (i : Int) = some (acc ++ refB (delB (m.drop i) s.data.toList), 0) := by
  intro d
  induction d with
  | zero =>
    intro i k acc hi hk ha
    obtain ⟨k, rfl⟩ : ∃ k', k = k' + 1 := ⟨k - 1, by omega⟩
    simp only [gridironref17_Drop.l0]
    rw [if_neg (by rw [refB_length]; omega), List.drop_of_length_le (by omega)]
    simp [delB, refB]
  | succ d ih =>
    intro i k acc hi hk ha
    obtain ⟨k, rfl⟩ : ∃ k', k = k' + 1 := ⟨k - 1, by omega⟩
    have hlt : i < m.length := by omega
    simp only [gridironref17_Drop.l0]
    rw [if_pos (by rw [refB_length]; omega), if_pos (by omega), rd_nat (by rw [refB_length]; omega), wrap_nat (by omega), refB_get hlt]
    rw [List.drop_eq_getElem_cons hlt]
    by_cases hk : (m[i].1 == s.data.toList) = true
    · rw [if_pos ((key_eq _ _).2 hk), ih (i + 1) k acc (by omega) (by omega) (by omega), delB_hit hk]
    · rw [if_neg (fun h => hk ((key_eq _ _).1 h)), if_pos (by omega), ih (i + 1) k _ (by omega) (by omega) (by simp; omega), delB_miss hk, refB_cons]
      simp only [List.append_assoc, List.singleton_append]
theorem drop_ev (m : Tb) (hm : m.length ≤ 1000) (s : ByteArray) : Ev (fun k => gridironref17_Drop.f k (refB m) s) (refB (opDrop m s.data.toList).1, (opDrop m s.data.toList).2) := by
  refine Ev.bind (find_ev m hm s) ?_
  unfold opDrop
  cases hg : getB m s.data.toList with
  | none => exact ⟨0, fun k _ => by simp [pos_none hg]⟩
  | some v =>
    obtain ⟨i, hi, e, hv⟩ := pos_some hg
    refine ⟨m.length + 1, fun k hk => ?_⟩
    simp only [e]
    rw [if_neg (by omega)]
    have := drop_l0 m hm s m.length 0 k [] (by omega) (by omega) (by simp)
    simpa using this

/-! ### Right -/
theorem bt_nat {s : ByteArray} {i : Nat} (h : i < s.size) : bt s (i : Int) = ((s[i]'h).toNat : Int) := by
  unfold bt
  rw [dif_pos (by simpa using h)]
  simp
theorem rightB_iff (s : ByteArray) : rightB s = true ↔ (0 < s.size ∧ s.size ≤ 12) ∧ ∀ j (h : j < s.size), okc j (s[j]'h).toNat = true := by
  unfold rightB
  rw [Bool.and_eq_true, decide_eq_true_iff, List.all_eq_true]
  refine and_congr Iff.rfl ⟨fun h j hj => ?_, fun h j hj => ?_⟩
  · have := h j (by simpa using hj)
    rwa [get_bang s j hj] at this
  · have hj' : j < s.size := by simpa using hj
    rw [get_bang s j hj']
    exact h j hj'
theorem right_l0 (s : ByteArray) (hs : s.size ≤ 1000) : ∀ (d i k : Nat), i + d = s.size → d < k → 0 < i →
    ∃ r, gridironref17_Right.l0 k s (i : Int) = some r ∧ (r = true ↔ ∀ j (h : j < s.size), i ≤ j → okc j (s[j]'h).toNat = true) := by
  intro d
  induction d with
  | zero =>
    intro i k hi hk h0
    obtain ⟨k, rfl⟩ : ∃ k', k = k' + 1 := ⟨k - 1, by omega⟩
    refine ⟨true, ?_, ⟨fun _ j h hij => by omega, fun _ => rfl⟩⟩
    simp only [gridironref17_Right.l0]
    rw [if_neg (by omega)]
  | succ d ih =>
    intro i k hi hk h0
    obtain ⟨k, rfl⟩ : ∃ k', k = k' + 1 := ⟨k - 1, by omega⟩
    have hlt : i < s.size := by omega
    obtain ⟨r, hr, hi2⟩ := ih (i + 1) k (by omega) (by omega) (by omega)
    simp only [gridironref17_Right.l0]
    rw [if_pos (by omega), if_pos (by omega), bt_nat hlt, wrap_nat (by omega), hr]
    have step : okc i (s[i]'hlt).toNat = true → (r = true ↔ ∀ j (h : j < s.size), i ≤ j → okc j (s[j]'h).toNat = true) := by
      intro hok
      rw [hi2]
      refine ⟨fun h j hj hij => ?_, fun h j hj hij => h j hj (by omega)⟩
      by_cases e : i = j
      · subst e; exact hok
      · exact h j hj (by omega)
    have stop : okc i (s[i]'hlt).toNat = false → (false = true ↔ ∀ j (h : j < s.size), i ≤ j → okc j (s[j]'h).toNat = true) := by
      intro hok
      refine ⟨(fun h => by cases h), fun h => ?_⟩
      have := h i hlt (Nat.le_refl _)
      rw [hok] at this
      exact this
    generalize (s[i]'hlt).toNat = c at step stop ⊢
    by_cases h1 : (c : Int) < 97
    · rw [if_pos h1]
      by_cases h2 : (c : Int) < 48
      · rw [if_pos h2]; exact ⟨false, rfl, stop (by simp [okc, isl, isd]; omega)⟩
      · rw [if_neg h2]
        by_cases h3 : (c : Int) > 57
        · rw [if_pos h3]; exact ⟨false, rfl, stop (by simp [okc, isl, isd]; omega)⟩
        · rw [if_neg h3]; exact ⟨r, rfl, step (by simp [okc, isl, isd]; omega)⟩
    · rw [if_neg h1]
      by_cases h4 : (c : Int) > 122
      · rw [if_pos h4]
        by_cases h2 : (c : Int) < 48
        · omega
        · rw [if_neg h2]
          rw [if_pos (by omega)]
          exact ⟨false, rfl, stop (by simp [okc, isl, isd]; omega)⟩
      · rw [if_neg h4]; exact ⟨r, rfl, step (by simp [okc, isl, isd]; omega)⟩
theorem right_ev (s : ByteArray) : Ev (fun k => gridironref17_Right.f k s) (rightB s) := by
  refine ⟨s.size + 2, fun k hk => ?_⟩
  obtain ⟨k, rfl⟩ : ∃ k', k = k' + 1 := ⟨k - 1, by omega⟩
  unfold gridironref17_Right.f
  simp only [gridironref17_Right.j0]
  by_cases h1 : (s.size : Int) < 1
  · rw [if_pos h1]
    have : rightB s = false := by
      cases h : rightB s
      · rfl
      · have := (rightB_iff s).1 h; omega
    simp [this]
  · rw [if_neg h1]
    by_cases h2 : (s.size : Int) > 12
    · rw [if_pos h2]
      have : rightB s = false := by
        cases h : rightB s
        · rfl
        · have := (rightB_iff s).1 h; omega
      simp [this]
    · rw [if_neg h2, if_pos (by omega)]
      have h0 : 0 < s.size := by omega
      have e0 : bt s 0 = ((s[0]'h0).toNat : Int) := bt_nat h0
      obtain ⟨r, hr, hi2⟩ := right_l0 s (by omega) (s.size - 1) 1 k (by omega) (by omega) (by omega)
      have hr' : gridironref17_Right.l0 k s 1 = some r := hr
      rw [e0, hr']
      have key : rightB s = (isl (s[0]'h0).toNat && r) := by
        rw [Bool.eq_iff_iff, rightB_iff, Bool.and_eq_true, hi2]
        refine ⟨fun ⟨_, h⟩ => ⟨?_, fun j hj _ => h j hj⟩, fun ⟨ha, h⟩ => ⟨⟨h0, by omega⟩, fun j hj => ?_⟩⟩
        · have := h 0 h0
          simpa [okc] using this
        · by_cases e : j = 0
          · subst e; simp [okc, ha]
          · exact h j hj (by omega)
      rw [key]
      generalize (s[0]'h0).toNat = c
      by_cases h3 : (c : Int) < 97
      · rw [if_pos h3]
        have : isl c = false := by simp [isl]; omega
        simp [this]
      · rw [if_neg h3]
        by_cases h4 : (c : Int) > 122
        · have : isl c = false := by simp [isl]; omega
          simp [this, h4]
        · have : isl c = true := by simp [isl]; omega
          simp [this, h4]

/-! ### Set -/
theorem keyB_mk (s : ByteArray) (v : Int) : keyB (s.data.toList, v) = s := by simp [keyB]
theorem setl0_done (m : Tb) (hm : m.length ≤ 1000) (s : ByteArray) (v : Int) : ∀ (d i k : Nat) (acc : List S52), i + d = m.length → d < k → acc.length ≤ i + 1 →
    gridironref17_Set.l0 k s v (refB m) acc true (i : Int) = some (acc ++ refB (m.drop i), 0) := by
  intro d
  induction d with
  | zero =>
    intro i k acc hi hk ha
    obtain ⟨k, rfl⟩ : ∃ k', k = k' + 1 := ⟨k - 1, by omega⟩
    simp only [gridironref17_Set.l0]
    rw [if_neg (by rw [refB_length]; omega), List.drop_of_length_le (by omega)]
    simp [refB]
  | succ d ih =>
    intro i k acc hi hk ha
    obtain ⟨k, rfl⟩ : ∃ k', k = k' + 1 := ⟨k - 1, by omega⟩
    have hlt : i < m.length := by omega
    simp only [gridironref17_Set.l0]
    rw [if_pos (by rw [refB_length]; omega), if_pos trivial, if_pos (by omega), rd_nat (by rw [refB_length]; omega), wrap_nat (by omega), refB_get hlt, if_pos (by omega),
      ih (i + 1) k _ (by omega) (by omega) (by simp; omega), List.drop_eq_getElem_cons hlt, refB_cons]
    simp only [List.append_assoc, List.singleton_append]
theorem setl0_not (m : Tb) (hm : m.length ≤ 1000) (s : ByteArray) (v : Int) : ∀ (d i k : Nat) (acc : List S52), i + d = m.length → d + 1 < k → acc.length ≤ i →
    gridironref17_Set.l0 k s v (refB m) acc false (i : Int) = some (acc ++ refB (insB (s.data.toList, v) (m.drop i)), 0) := by
  intro d
  induction d with
  | zero =>
    intro i k acc hi hk ha
    obtain ⟨k, rfl⟩ : ∃ k', k = k' + 1 := ⟨k - 1, by omega⟩
    simp only [gridironref17_Set.l0]
    rw [if_neg (by rw [refB_length]; omega), List.drop_of_length_le (by omega), if_neg (by simp), if_pos (by omega)]
    simp [refB, insB, keyB_mk]
  | succ d ih =>
    intro i k acc hi hk ha
    obtain ⟨k, rfl⟩ : ∃ k', k = k' + 1 := ⟨k - 1, by omega⟩
    have hlt : i < m.length := by omega
    simp only [gridironref17_Set.l0]
    rw [if_pos (by rw [refB_length]; omega), if_neg (by simp), if_pos (by omega), rd_nat (by rw [refB_length]; omega), wrap_nat (by omega), refB_get hlt]
    rw [List.drop_eq_getElem_cons hlt]
    simp only [insB]
    have e : Op.bytesLess s.toList (keyB m[i]).toList = bytesBefore s.data.toList m[i].1 := by
      rw [bytesLess_eq, bytesBefore_eq, keyB_list, Lib.toList_data]
    simp only [e]
    by_cases hb : bytesBefore s.data.toList m[i].1 = true
    · rw [if_pos hb, if_pos hb, if_pos (by omega)]
      simp only [Option.bind_some]
      rw [if_pos (by simp; omega), setl0_done m hm s v d (i + 1) k _ (by omega) (by omega) (by simp; omega), refB_cons, refB_cons]
      simp only [List.append_assoc, List.singleton_append, List.cons_append, List.nil_append, keyB_mk]
    · rw [if_neg hb, if_neg hb, if_pos (by omega), ih (i + 1) k _ (by omega) (by omega) (by simp; omega), refB_cons]
      simp only [List.append_assoc, List.singleton_append]
theorem delB_le (m : Tb) (k : List UInt8) : (delB m k).length ≤ m.length := List.length_filter_le _ _
theorem delB_none {m : Tb} {k : List UInt8} (h : getB m k = none) : delB m k = m := by
  unfold getB at h
  rw [Option.map_eq_none_iff, List.find?_eq_none] at h
  unfold delB
  rw [List.filter_eq_self]
  intro p hp
  have := h p hp
  simpa using this
theorem set_ev (m : Tb) (hm : m.length ≤ 1000) (s : ByteArray) (v : Int) : Ev (fun k => gridironref17_Set.f k (refB m) s v) (refB (opSet m s v).1, (opSet m s v).2) := by
  refine Ev.bind (right_ev s) ?_
  unfold opSet
  cases hr : rightB s with
  | false => exact ⟨0, fun k _ => by simp⟩
  | true =>
    simp only [if_true]
    refine Ev.bind (find_ev m hm s) ?_
    have goes : Ev (fun k => gridironref17_Set.j0 k (refB m) s v false) (refB (putB m s.data.toList v), 0) := by
      refine Ev.step (fun k => by simp only [gridironref17_Set.j0]; rw [if_neg (by simp)]) ?_
      refine Ev.bind (drop_ev m hm s) ?_
      have e : (opDrop m s.data.toList).1 = delB m s.data.toList := by
        unfold opDrop
        cases hg : getB m s.data.toList with
        | none => simp [delB_none hg]
        | some x => simp
      simp only [e]
      refine ⟨m.length + 3, fun k hk => ?_⟩
      have hl := delB_le m s.data.toList
      have := setl0_not (delB m s.data.toList) (by omega) s v (delB m s.data.toList).length 0 k [] (by omega) (by omega) (by simp)
      simpa [putB] using this
    cases hg : getB m s.data.toList with
    | none =>
      simp only [pos_none hg]
      by_cases hl : 16 ≤ m.length
      · refine Ev.step (f := fun k => some (refB m, 3)) (fun k => ?_) ?_
        · simp only [gridironref17_Set.j0]
          rw [if_pos (by omega), if_pos (by rw [refB_length]; simp; omega)]
        · simp [hl]; exact ⟨0, fun _ _ => rfl⟩
      · have e : decide (((refB m).length : Int) ≥ 16) = false := by rw [refB_length]; simp; omega
        simp only [e]
        simpa [hl] using goes
    | some x =>
      obtain ⟨i, hi, e, hv⟩ := pos_some hg
      simp only [e]
      have e2 : ¬ ((i : Int) < 0) := by omega
      simpa [e2] using goes

end Go.Proofs.Ytfkidokcdagljaa
