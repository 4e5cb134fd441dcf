/-
  Branch's names: the walk of Right.
-/
import Derived.Test.YtfkidokcdagljaaBrA
import Derived.Laws.RangeAny
import Derived.LoopTactic
import Derived.Outline
import Derived.Lib.Bytes
set_option linter.unusedVariables false
set_option linter.unusedSimpArgs false
namespace Go.Proofs.Ytfkidokcdagljaa
open Go.RowKit Go.Maps Go.WideMaps Go.WideElems

def isl (c : Nat) : Bool := decide (97 ≤ c) && decide (c ≤ 122)
def isd (c : Nat) : Bool := decide (48 ≤ c) && decide (c ≤ 57)
def okc (i c : Nat) : Bool := isl c || (decide (0 < i) && isd c)
def Okto (s : ByteArray) (k : Nat) : Prop := ∀ i (h : i < s.size), i < k → okc i (s[i]'h).toNat = true
def rightB (s : ByteArray) : Bool := decide (0 < s.size ∧ s.size ≤ 12) && (List.range s.size).all fun i => okc i (s.get! i).toNat

theorem get_bang (s : ByteArray) (i : Nat) (h : i < s.size) : s.get! i = s[i]'h := by
  have := get_at s i h
  simpa using this
theorem right_no (s : ByteArray) (i : Nat) (h : i < s.size) (hc : okc i (s[i]'h).toNat = false) : rightB s = false := by
  unfold rightB
  rw [Bool.and_eq_false_iff]
  right
  rw [List.all_eq_false]
  exact ⟨i, by simpa using h, by rw [get_bang s i h, hc]; simp⟩
theorem right_all (s : ByteArray) (h : Okto s s.size) : rightB s = decide (0 < s.size ∧ s.size ≤ 12) := by
  unfold rightB
  have : ((List.range s.size).all fun i => okc i (s.get! i).toNat) = true := by
    rw [List.all_eq_true]
    intro i hi
    have hi' : i < s.size := by simpa using hi
    rw [get_bang s i hi']
    exact h i hi' hi'
  rw [this, Bool.and_true]
theorem okto_snoc {s : ByteArray} {k : Nat} (h : Okto s k) (hk : k < s.size) (hc : okc k (s[k]'hk).toNat = true) : Okto s (k + 1) := by
  intro i hi hik
  by_cases e : i = k
  · subst e; exact hc
  · exact h i hi (by omega)
theorem okc_high (i c : Nat) (h : 128 ≤ c) : okc i c = false := by
  unfold okc isl isd
  simp
  omega

theorem dlen (s : ByteArray) : s.data.toList.length = s.size := by rw [Array.length_toList]; rfl
theorem nil_size {s : ByteArray} (h : s.toList = []) : s.size = 0 := by
  have := dlen s
  rw [Lib.toList_data] at h
  rw [← this, h]; rfl
theorem size_nil {s : ByteArray} (h : s.size = 0) : s.toList = [] := by
  have := dlen s
  rw [Lib.toList_data]
  rw [h] at this
  exact List.eq_nil_of_length_eq_zero this
theorem right_end1 {s : ByteArray} (hr : rightB s = decide (0 < s.size ∧ s.size ≤ 12)) (h : s.toList = []) : rightB s = false := by
  rw [hr, nil_size h]; rfl
theorem right_end2 {s : ByteArray} (hr : rightB s = decide (0 < s.size ∧ s.size ≤ 12)) (h : ¬ s.toList = []) : rightB s = (!s.toList.isEmpty && decide ((s.size : Int) ≤ 12)) := by
  have h0 : 0 < s.size := by
    rcases Nat.eq_zero_or_pos s.size with h0 | h0
    · exact absurd (size_nil h0) h
    · exact h0
  have h1 : s.toList.isEmpty = false := by simpa using h
  rw [hr, h1]
  simp [h0]
  omega
theorem ret_b {a b : Bool} (h : b = a) : Ending.returned (.bool a) = .returned (.bool b) := by rw [h]

set_option maxHeartbeats 1000000 in
theorem right_any (s : ByteArray) (w : World) (hs : s.size ≤ maxLen) : Calls Try.prog 15 #[.string s] w fun e w' => e = .returned (.bool (rightB s)) ∧ Below w.heap.size w w' := by
  unfold maxLen at hs
  go_enter Try.func15, Try.ntmps15
  go_wp2
  go_loopw [] (fun wr => ∃ pos : Nat, pos ≤ s.size ∧ wr = w.iter s pos ∧ Hid (Okto s pos)) (fun wr => s.size - wr.iterPos w.heap.size)
  case atStart => exact ⟨0, Nat.zero_le _, rfl, Lib.hid (fun i h h' => absurd h' (by omega))⟩
  case round =>
    obtain ⟨pos, hle, rfl, HO⟩ := hrel
    by_cases hp : pos < s.size
    · by_cases ha : (s[pos]'hp).toNat < 128
      · have hnx := fun ty => run_next_ascii (P := Try.prog) w s pos ty hp ha
        obtain ⟨c, hc⟩ : ∃ c, c = (s[pos]'hp).toNat := ⟨_, rfl⟩
        rw [← hc] at hnx
        have HC := Lib.hid hc
        clear hc ha
        go_wp2
        all_goals clear hnx
        all_goals first
          | (go_roundw
             case rel => exact ⟨pos + 1, by omega, (by first | rfl | (subst_vars; rfl)), Lib.hid (okto_snoc HO.out hp (by rw [← HC.out]; simp [okc, isl, isd]; simp at *; omega))⟩
             case measure => simp [World.iterPos_iter]; omega)
          | (go_ret
             exact ⟨ret_b (right_no s pos hp (by rw [← HC.out]; simp [okc, isl, isd]; simp at *; omega)), (Below.refl _ _).alloc (Nat.le_refl _) _⟩)
      · have hnx := fun ty => run_next_any (P := Try.prog) w s pos ty hp
        have hh := (decode_high s pos hp (by omega)).1
        have hw := (decode_high s pos hp (by omega)).2
        obtain ⟨c, hc⟩ : ∃ c, c = (Utf8.decode s pos).1 := ⟨_, rfl⟩
        obtain ⟨d, hd⟩ : ∃ d, d = (Utf8.decode s pos).2 := ⟨_, rfl⟩
        rw [← hc, ← hd] at hnx
        rw [← hc] at hh
        have hcc := decode_le s pos
        rw [← hc] at hcc
        clear hc hd hw
        have hbad : okc pos (s[pos]'hp).toNat = false := okc_high _ _ (by omega)
        have HB := Lib.hid hbad
        clear hbad ha
        go_wp2
        all_goals clear hnx
        all_goals first
          | (exfalso; simp at *; omega)
          | (go_ret
             exact ⟨ret_b (right_no s pos hp HB.out), (Below.refl _ _).alloc (Nat.le_refl _) _⟩)
    · have hnx := fun ty => run_next_end (P := Try.prog) w s pos ty hp
      obtain rfl : pos = s.size := by omega
      have hr := right_all s HO.out
      have HR := Lib.hid hr
      clear hr
      go_wp2
      all_goals clear hnx
      all_goals first
        | (have h0 : s.toList = [] := by assumption
           go_ret
           exact ⟨ret_b (right_end1 HR.out h0), (Below.refl _ _).alloc (Nat.le_refl _) _⟩)
        | (have h0 : ¬ s.toList = [] := by assumption
           go_ret
           exact ⟨ret_b (right_end2 HR.out h0), (Below.refl _ _).alloc (Nat.le_refl _) _⟩)

end Go.Proofs.Ytfkidokcdagljaa
