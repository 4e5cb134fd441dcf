/-
  Graph: the order's states: no program in sight.
-/
import Derived.Test.YtdloopgdohjedaaGrT
set_option linter.unusedVariables false
set_option linter.unusedSimpArgs false
namespace Go.Proofs.Ytdloopgdohjedaa
open Go.RowKit Go.Maps Go.Shelf Go.Proofs.YtdloopgdohjedaaW.PrintWords PGraphTells

abbrev Srtd (l : List Int) : Prop := l.Pairwise (· ≤ ·)
theorem withL_cons {a x : Int} {zs : List Int} (h : Srtd (a :: zs)) : withL (a :: zs) x = if a < x then a :: withL zs x else x :: a :: zs := by
  unfold withL insAt
  by_cases e : a < x
  · rw [if_pos e, List.countP_cons_of_pos (by simpa using e)]
    rfl
  · rw [if_neg e, List.countP_cons_of_neg (by simpa using e)]
    have : zs.countP (· < x) = 0 := by
      rw [List.countP_eq_zero]
      intro b hb
      have := (List.pairwise_cons.1 h).1 b hb
      simp
      omega
    rw [this]
    rfl
theorem withL_mem {x y : Int} {zs : List Int} : y ∈ withL zs x ↔ y = x ∨ y ∈ zs := by
  unfold withL insAt
  rw [List.mem_append, List.mem_cons]
  have : y ∈ zs ↔ y ∈ zs.take (zs.countP (· < x)) ∨ y ∈ zs.drop (zs.countP (· < x)) := by
    rw [← List.mem_append, List.take_append_drop]
  rw [this]
  constructor
  · rintro (h | h | h) <;> simp [h]
  · rintro (h | h | h) <;> simp [h]
theorem withL_srtd {x : Int} : ∀ {zs : List Int}, Srtd zs → Srtd (withL zs x)
  | [], _ => by simp [withL, insAt]
  | a :: zs, h => by
    rw [withL_cons h]
    have h1 := List.pairwise_cons.1 h
    split
    · rename_i e
      refine List.pairwise_cons.2 ⟨fun b hb => ?_, withL_srtd h1.2⟩
      rcases withL_mem.1 hb with rfl | hb
      · omega
      · exact h1.1 b hb
    · rename_i e
      refine List.pairwise_cons.2 ⟨fun b hb => ?_, h⟩
      rcases List.mem_cons.1 hb with rfl | hb
      · omega
      · have := h1.1 b hb; omega
theorem withL_len (zs : List Int) (x : Int) : (withL zs x).length = zs.length + 1 := insAt_len zs List.countP_le_length x

def rd1 (m1 : GM) (n : Int) : List Int := (getM m1 n).getD []
def wt0 (w : SM) (x : Int) : Int := (getM w x).getD 0
def cnt1 (plain : List Int) (n : Int) (w : SM) (x : Int) : SM := if plain.contains x then putM w n (wt0 w n + 1) else w
def cntN (plain : List Int) (n : Int) (w : SM) (xs : List Int) : SM := xs.foldl (cnt1 plain n) w
def ini1 (plain : List Int) (m1 : GM) (st : SM × List Int) (n : Int) : SM × List Int :=
  (cntN plain n st.1 (rd1 m1 n), if wt0 (cntN plain n st.1 (rd1 m1 n)) n = 0 then withL st.2 n else st.2)
def iniN (plain : List Int) (m1 : GM) (ns : List Int) : SM × List Int := ns.foldl (ini1 plain m1) ([], [])
def dec1 (plain : List Int) (st : SM × List Int) (x : Int) : SM × List Int :=
  (putM st.1 x (wt0 st.1 x - 1), if wt0 st.1 x - 1 = 0 ∧ plain.contains x = true then withL st.2 x else st.2)
def decN (plain : List Int) (st : SM × List Int) (xs : List Int) : SM × List Int := xs.foldl (dec1 plain) st
inductive ORuns (plain : List Int) (m1 m2 : GM) : SM → List Int → List Int → Prop
  | start : ORuns plain m1 m2 (iniN plain m1 plain).1 (iniN plain m1 plain).2 []
  | step {w : SM} {t : Int} {rs out : List Int} : ORuns plain m1 m2 w (t :: rs) out → ORuns plain m1 m2 (decN plain (w, rs) (succs m2 t)).1 (decN plain (w, rs) (succs m2 t)).2 (out ++ [t])

theorem wt0_put (w : SM) (k x : Int) (v : Int) : wt0 (putM w k v) x = if x = k then v else wt0 w x := by
  unfold wt0
  rw [getM_put]
  split <;> rfl
theorem wt0_cntN (plain : List Int) (n x : Int) : ∀ (xs : List Int) (w : SM), wt0 (cntN plain n w xs) x = if x = n then wt0 w n + ((xs.filter plain.contains).length : Nat) else wt0 w x
  | [], w => by
    simp [cntN]
    intro h; rw [h]
  | y :: xs, w => by
    have ih := wt0_cntN plain n x xs (cnt1 plain n w y)
    show wt0 (cntN plain n (cnt1 plain n w y) xs) x = _
    rw [ih]
    unfold cnt1
    by_cases h : plain.contains y = true
    · rw [if_pos h, List.filter_cons_of_pos h, wt0_put, wt0_put]
      by_cases e : x = n
      · simp [e]; omega
      · simp [e]
    · rw [if_neg h, List.filter_cons_of_neg h]

theorem iniN_snoc (plain : List Int) (m1 : GM) (ns : List Int) (n : Int) : iniN plain m1 (ns ++ [n]) = ini1 plain m1 (iniN plain m1 ns) n := by
  unfold iniN
  rw [List.foldl_append]
  rfl
theorem snoc_ind {α : Type} {P : List α → Prop} (h0 : P []) (h1 : ∀ l a, P l → P (l ++ [a])) (l : List α) : P l := by
  rw [← List.reverse_reverse l]
  induction l.reverse with
  | nil => exact h0
  | cons a r ih => rw [List.reverse_cons]; exact h1 _ _ ih
def W0 (plain : List Int) (m1 : GM) (x : Int) : Int := (((rd1 m1 x).filter plain.contains).length : Nat)
/-- Behind the first loop. -/
structure IniIs (plain : List Int) (m1 : GM) (ns : List Int) (st : SM × List Int) : Prop where
  wt : ∀ x, wt0 st.1 x = if x ∈ ns then W0 plain m1 x else 0
  srtd : Srtd st.2
  mem : ∀ x, x ∈ st.2 ↔ x ∈ ns ∧ W0 plain m1 x = 0
  len : st.2.length ≤ ns.length
theorem ini_is (plain : List Int) (m1 : GM) : ∀ {ns : List Int}, ns.Nodup → IniIs plain m1 ns (iniN plain m1 ns) := by
  intro ns
  refine snoc_ind (P := fun ns => ns.Nodup → IniIs plain m1 ns (iniN plain m1 ns)) ?_ ?_ ns
  · intro _; exact ⟨fun x => by simp [iniN, wt0, getM], List.Pairwise.nil, by simp [iniN], by simp [iniN]⟩
  · intro ns n ih hn
    obtain ⟨h1, h2, h3⟩ := List.nodup_append.1 hn
    have hnn : ¬ n ∈ ns := fun h => h3 n h n (by simp) rfl
    have h := ih h1
    rw [iniN_snoc]
    have hw0 : wt0 (iniN plain m1 ns).1 n = 0 := by rw [h.wt, if_neg hnn]
    have hwn : wt0 (cntN plain n (iniN plain m1 ns).1 (rd1 m1 n)) n = W0 plain m1 n := by
      rw [wt0_cntN, if_pos rfl, hw0]
      simp [W0]
    refine ⟨fun x => ?_, ?_, fun x => ?_, ?_⟩
    · show wt0 (cntN plain n _ _) x = _
      rw [wt0_cntN]
      by_cases e : x = n
      · subst e
        rw [if_pos rfl, hw0, if_pos (by simp)]
        simp [W0]
      · rw [if_neg e, h.wt]
        simp [e]
    · show Srtd (if _ then _ else _)
      split
      · exact withL_srtd h.srtd
      · exact h.srtd
    · show x ∈ (if _ then _ else _) ↔ _
      rw [hwn]
      split
      · rename_i hz
        rw [withL_mem, h.mem]
        constructor
        · rintro (rfl | ⟨h1, h2⟩)
          · exact ⟨by simp, hz⟩
          · exact ⟨by simp [h1], h2⟩
        · rintro ⟨h1, h2⟩
          rcases List.mem_append.1 h1 with h1 | h1
          · exact .inr ⟨h1, h2⟩
          · exact .inl (by simpa using h1)
      · rename_i hz
        rw [h.mem]
        constructor
        · rintro ⟨h1, h2⟩; exact ⟨by simp [h1], h2⟩
        · rintro ⟨h1, hw⟩
          rcases List.mem_append.1 h1 with h1 | h1
          · exact ⟨h1, hw⟩
          · have : x = n := by simpa using h1
            subst this
            exact absurd hw hz
    · show (if _ then _ else _ : List Int).length ≤ _
      have := h.len
      split
      · rw [withL_len, List.length_append]; simp; omega
      · rw [List.length_append]; simp; omega

theorem decN_cons (plain : List Int) (st : SM × List Int) (x : Int) (xs : List Int) : decN plain st (x :: xs) = decN plain (dec1 plain st x) xs := rfl
theorem decN_wt (plain : List Int) (y : Int) : ∀ (xs : List Int) (st : SM × List Int), xs.Nodup → wt0 (decN plain st xs).1 y = wt0 st.1 y - (if y ∈ xs then 1 else 0)
  | [], st, _ => by simp [decN]
  | x :: xs, st, h => by
    have h1 := List.nodup_cons.1 h
    rw [decN_cons, decN_wt plain y xs _ h1.2]
    show wt0 (putM st.1 x (wt0 st.1 x - 1)) y - _ = _
    rw [wt0_put]
    by_cases e : y = x
    · subst e
      simp [h1.1]
    · simp [e]
theorem decN_mem (plain : List Int) (y : Int) : ∀ (xs : List Int) (st : SM × List Int), xs.Nodup → (y ∈ (decN plain st xs).2 ↔ y ∈ st.2 ∨ (y ∈ xs ∧ wt0 st.1 y = 1 ∧ plain.contains y = true))
  | [], st, _ => by simp [decN]
  | x :: xs, st, h => by
    have h1 := List.nodup_cons.1 h
    rw [decN_cons, decN_mem plain y xs _ h1.2]
    have hw : wt0 (dec1 plain st x).1 y = if y = x then wt0 st.1 x - 1 else wt0 st.1 y := wt0_put _ _ _ _
    rw [hw]
    have hm : y ∈ (dec1 plain st x).2 ↔ y ∈ st.2 ∨ (y = x ∧ wt0 st.1 x = 1 ∧ plain.contains x = true) := by
      show y ∈ (if _ then _ else _) ↔ _
      split
      · rename_i hc
        rw [withL_mem]
        constructor
        · rintro (h | h)
          · exact .inr ⟨h, by omega, hc.2⟩
          · exact .inl h
        · rintro (h | h)
          · exact .inr h
          · exact .inl h.1
      · rename_i hc
        constructor
        · exact .inl
        · rintro (h | h)
          · exact h
          · exact absurd ⟨by omega, h.2.2⟩ hc
    rw [hm]
    by_cases e : y = x
    · subst e
      simp [h1.1]
    · simp [e]
theorem decN_srtd (plain : List Int) : ∀ (xs : List Int) (st : SM × List Int), Srtd st.2 → Srtd (decN plain st xs).2 ∧ (decN plain st xs).2.length ≤ st.2.length + xs.length
  | [], st, h => ⟨h, by simp [decN]⟩
  | x :: xs, st, h => by
    have h1 : Srtd (dec1 plain st x).2 := by
      show Srtd (if _ then _ else _)
      split
      · exact withL_srtd h
      · exact h
    have h2 : (dec1 plain st x).2.length ≤ st.2.length + 1 := by
      show (if _ then _ else _ : List Int).length ≤ _
      split
      · rw [withL_len]; omega
      · omega
    obtain ⟨h3, h4⟩ := decN_srtd plain xs _ h1
    rw [decN_cons]
    exact ⟨h3, by rw [List.length_cons]; omega⟩

/-- How many numbers that x reads are plain, and not yet out. -/
def left_ (plain : List Int) (m1 : GM) (out : List Int) (x : Int) : Nat := ((rd1 m1 x).filter fun y => plain.contains y && !out.contains y).length
/-- What m2 is to m1. -/
structure Inv (m1 m2 : GM) : Prop where
  inv : ∀ n x, x ∈ succs m2 n ↔ n ∈ rd1 m1 x
  snd : ∀ n, (succs m2 n).Nodup
  rnd : ∀ x, (rd1 m1 x).Nodup
structure OInv (plain : List Int) (m1 : GM) (w : SM) (rs out : List Int) : Prop where
  wt : ∀ x ∈ plain, wt0 w x = (left_ plain m1 out x : Nat)
  low : ∀ x, -(out.length : Int) ≤ wt0 w x ∧ wt0 w x ≤ 100000
  srtd : Srtd rs
  nodup : rs.Nodup
  mem : ∀ x, x ∈ rs ↔ x ∈ plain ∧ ¬ x ∈ out ∧ wt0 w x = 0
  ond : out.Nodup
  sub : ∀ x ∈ out, x ∈ plain
  behind : ∀ a x b, out = a ++ x :: b → ∀ y ∈ rd1 m1 x, y ∈ plain → y ∈ a
theorem left_zero {plain : List Int} {m1 : GM} {out : List Int} {x : Int} : left_ plain m1 out x = 0 ↔ ∀ y ∈ rd1 m1 x, y ∈ plain → y ∈ out := by
  unfold left_
  rw [List.length_eq_zero_iff, List.filter_eq_nil_iff]
  constructor
  · intro h y hy hp
    have := h y hy
    simp at this
    exact this hp
  · intro h y hy
    simp
    exact h y hy
theorem left_snoc {plain : List Int} {m1 : GM} {out : List Int} {x t : Int} (hn : (rd1 m1 x).Nodup) (ht : t ∈ plain) (hto : ¬ t ∈ out) : (left_ plain m1 (out ++ [t]) x : Int) = (left_ plain m1 out x : Nat) - (if t ∈ rd1 m1 x then 1 else 0) := by
  unfold left_
  generalize rd1 m1 x = l at *
  induction l with
  | nil => simp
  | cons y l ih =>
    have h1 := List.nodup_cons.1 hn
    have ih' := ih h1.2
    by_cases e : y = t
    · subst e
      have e1 : (plain.contains y && !out.contains y) = true := by simp [ht, hto]
      have e2 : (plain.contains y && !(out ++ [y]).contains y) = false := by simp
      have e3 : (if y ∈ l then (1 : Int) else 0) = 0 := by simp [h1.1]
      have e4 : (if y ∈ y :: l then (1 : Int) else 0) = 1 := by simp
      rw [e3] at ih'
      rw [e4]
      simp only [List.filter_cons, e1, e2, if_true, Bool.false_eq_true, if_false, List.length_cons]
      omega
    · have e1 : (plain.contains y && !(out ++ [t]).contains y) = (plain.contains y && !out.contains y) := by simp [e]
      have e2 : (if t ∈ y :: l then (1 : Int) else 0) = (if t ∈ l then 1 else 0) := by
        have : t ∈ y :: l ↔ t ∈ l := by
          rw [List.mem_cons]
          constructor
          · rintro (h | h)
            · exact absurd h.symm e
            · exact h
          · exact .inr
        simp only [this]
      rw [e2]
      simp only [List.filter_cons, e1]
      split
      · simp only [List.length_cons]
        omega
      · exact ih'

theorem srtd_nodup_withL {zs : List Int} {x : Int} (h : zs.Nodup) (hx : ¬ x ∈ zs) : (withL zs x).Nodup := by
  unfold withL insAt
  have hp : (zs.take (zs.countP (· < x)) ++ x :: zs.drop (zs.countP (· < x))).Perm (x :: (zs.take (zs.countP (· < x)) ++ zs.drop (zs.countP (· < x)))) := List.perm_middle
  rw [hp.nodup_iff, List.take_append_drop, List.nodup_cons]
  exact ⟨hx, h⟩
theorem decN_nodup (plain : List Int) : ∀ (xs : List Int) (st : SM × List Int), xs.Nodup → st.2.Nodup → (∀ x ∈ xs, x ∈ st.2 → wt0 st.1 x ≠ 1) → (decN plain st xs).2.Nodup
  | [], st, _, h, _ => h
  | x :: xs, st, hx, h, hc => by
    have h1 := List.nodup_cons.1 hx
    have hw : ∀ y, wt0 (dec1 plain st x).1 y = if y = x then wt0 st.1 x - 1 else wt0 st.1 y := fun y => wt0_put _ _ _ _
    have hm : ∀ y, y ∈ (dec1 plain st x).2 → y = x ∨ y ∈ st.2 := by
      intro y hy
      change y ∈ (if _ then _ else _) at hy
      split at hy
      · exact withL_mem.1 hy
      · exact .inr hy
    rw [decN_cons]
    refine decN_nodup plain xs _ h1.2 ?_ (fun y hy hys => ?_)
    · show (if _ then _ else _ : List Int).Nodup
      split
      · rename_i hcc
        exact srtd_nodup_withL h (fun hin => hc x (by simp) hin (by omega))
      · exact h
    · have hne : y ≠ x := fun e => h1.1 (e ▸ hy)
      rw [hw, if_neg hne]
      exact hc y (by simp [hy]) ((hm y hys).resolve_left hne)

theorem oinv_step {plain : List Int} {m1 m2 : GM} (hI : Inv m1 m2) {w : SM} {t : Int} {rs out : List Int} (h : OInv plain m1 w (t :: rs) out) :
    OInv plain m1 (decN plain (w, rs) (succs m2 t)).1 (decN plain (w, rs) (succs m2 t)).2 (out ++ [t]) := by
  obtain ⟨htp, hto, htw⟩ := (h.mem t).1 (by simp)
  have hnd := List.nodup_cons.1 h.nodup
  have hl0 : left_ plain m1 out t = 0 := by have := h.wt t htp; omega
  have hb0 := left_zero.1 hl0
  have htt : ¬ t ∈ rd1 m1 t := fun hx => hto (hb0 t hx htp)
  have hwt : ∀ x, wt0 (decN plain (w, rs) (succs m2 t)).1 x = wt0 w x - (if t ∈ rd1 m1 x then 1 else 0) := by
    intro x
    rw [decN_wt plain x _ _ (hI.snd t)]
    simp only [hI.inv]
  have hwp : ∀ x ∈ plain, wt0 (decN plain (w, rs) (succs m2 t)).1 x = (left_ plain m1 (out ++ [t]) x : Nat) := by
    intro x hx
    rw [hwt, h.wt x hx, left_snoc (hI.rnd x) htp hto]
  have hone : ∀ x, x ∈ plain → x ∈ out → ¬ t ∈ rd1 m1 x := by
    intro x hx ho hr
    obtain ⟨a, b, e⟩ := List.append_of_mem ho
    exact hto (by rw [e]; exact List.mem_append_left _ (h.behind a x b e t hr htp))
  refine ⟨hwp, fun x => ?_, (decN_srtd plain _ _ (List.pairwise_cons.1 h.srtd).2).1, ?_, fun x => ?_, ?_, ?_, ?_⟩
  · have := h.low x
    rw [hwt, List.length_append, List.length_singleton]
    split <;> omega
  · refine decN_nodup plain _ _ (hI.snd t) hnd.2 (fun x hx hin => ?_)
    have := (h.mem x).1 (by simp [hin])
    show wt0 w x ≠ 1
    omega
  · rw [decN_mem plain x _ _ (hI.snd t), hI.inv]
    constructor
    · rintro (hx | ⟨hx, hw1, hp⟩)
      · obtain ⟨h1, h2, h3⟩ := (h.mem x).1 (by simp [hx])
        have hne : x ≠ t := fun e => hnd.1 (e ▸ hx)
        refine ⟨h1, by simp [h2, hne], ?_⟩
        have hz : left_ plain m1 out x = 0 := by have := h.wt x h1; omega
        have hnr : ¬ t ∈ rd1 m1 x := fun hr => hto (left_zero.1 hz t hr htp)
        rw [hwt, if_neg hnr, h3]
        rfl
      · have hp' : x ∈ plain := by simpa using hp
        have hw1' : wt0 w x = 1 := hw1
        refine ⟨hp', ?_, by rw [hwt, if_pos hx]; omega⟩
        intro ho
        rcases List.mem_append.1 ho with ho | ho
        · exact hone x hp' ho hx
        · have : x = t := by simpa using ho
          subst this
          exact htt hx
    · rintro ⟨h1, h2, h3⟩
      rw [hwt] at h3
      have h2' : ¬ x ∈ out ∧ x ≠ t := by simpa using h2
      by_cases hr : t ∈ rd1 m1 x
      · rw [if_pos hr] at h3
        exact .inr ⟨hr, by show wt0 w x = 1; omega, by simpa using h1⟩
      · rw [if_neg hr] at h3
        have : x ∈ t :: rs := (h.mem x).2 ⟨h1, h2'.1, by omega⟩
        rcases List.mem_cons.1 this with h | h
        · exact absurd h h2'.2
        · exact .inl h
  · refine List.nodup_append.2 ⟨h.ond, by simp, fun a ha b hb => ?_⟩
    have : b = t := by simpa using hb
    subst this
    exact fun e => hto (e ▸ ha)
  · intro x hx
    rcases List.mem_append.1 hx with hx | hx
    · exact h.sub x hx
    · have : x = t := by simpa using hx
      subst this; exact htp
  · intro a x b e y hy hp
    rcases List.append_eq_append_iff.1 e with ⟨a', e1, e2⟩ | ⟨c', e1, e2⟩
    · cases a' with
      | nil =>
        simp at e2
        rw [← e2.1] at hy
        rw [e1, List.append_nil]
        exact hb0 y hy hp
      | cons z a' =>
        simp at e2
    · cases c' with
      | nil =>
        simp at e2
        rw [e2.1] at hy
        rw [List.append_nil] at e1
        rw [← e1]
        exact hb0 y hy hp
      | cons z c' =>
        simp at e2
        obtain ⟨rfl, e2⟩ := e2
        exact h.behind a x c' (by rw [e1]) y hy hp

theorem ini_nodup (plain : List Int) (m1 : GM) (ns : List Int) : ns.Nodup → (iniN plain m1 ns).2.Nodup := by
  refine snoc_ind (P := fun ns => ns.Nodup → (iniN plain m1 ns).2.Nodup) ?_ ?_ ns
  · intro _; simp [iniN]
  · intro ns n ih hn
    obtain ⟨h1, h2, h3⟩ := List.nodup_append.1 hn
    have hnn : ¬ n ∈ ns := fun h => h3 n h n (by simp) rfl
    rw [iniN_snoc]
    show (if _ then _ else _ : List Int).Nodup
    split
    · exact srtd_nodup_withL (ih h1) (fun hin => hnn (((ini_is plain m1 h1).mem n).1 hin).1)
    · exact ih h1
theorem oinv_start {plain : List Int} {m1 : GM} (hp : plain.Nodup) (hl : ∀ x, (rd1 m1 x).length ≤ 100000) : OInv plain m1 (iniN plain m1 plain).1 (iniN plain m1 plain).2 [] := by
  have h := ini_is plain m1 hp
  have hw : ∀ x, W0 plain m1 x = (left_ plain m1 [] x : Nat) := by
    intro x
    unfold W0 left_
    have e : plain.contains = fun y => plain.contains y && !([] : List Int).contains y := by funext y; simp
    rw [← e]
  refine ⟨fun x hx => by rw [h.wt, if_pos hx, hw], fun x => ?_, h.srtd, ini_nodup plain m1 plain hp, fun x => ?_, by simp, by simp, fun a x b e => by simp at e⟩
  · rw [h.wt]
    have h1 : (left_ plain m1 [] x) ≤ (rd1 m1 x).length := List.length_filter_le _ _
    have h2 := hl x
    split
    · rw [hw]; simp; omega
    · simp
  · rw [h.mem]
    constructor
    · rintro ⟨h1, h2⟩; exact ⟨h1, by simp, by rw [h.wt, if_pos h1, h2]⟩
    · rintro ⟨h1, _, h2⟩; rw [h.wt, if_pos h1] at h2; exact ⟨h1, h2⟩
theorem oruns_inv {plain : List Int} {m1 m2 : GM} (hI : Inv m1 m2) (hp : plain.Nodup) (hl : ∀ x, (rd1 m1 x).length ≤ 100000) {w : SM} {rs out : List Int} (h : ORuns plain m1 m2 w rs out) : OInv plain m1 w rs out := by
  induction h with
  | start => exact oinv_start hp hl
  | step _ ih => exact oinv_step hI ih

end Go.Proofs.Ytdloopgdohjedaa
