/-
  Graph: Nodes and Hang: the walks.
-/
import Derived.Test.YtdloopgdohjedaaGrP
import Derived.ScopeJumps
import Derived.WalkMore
import Derived.Scope
set_option linter.unusedVariables false
set_option linter.unusedSimpArgs false
namespace Go.Proofs.Ytdloopgdohjedaa
open Go.RowKit Go.Maps Go.Shelf Go.Proofs.YtdloopgdohjedaaW.PrintWords PGraphTells

/-! ### A scope with jumps, its measure carried along -/
theorem exists_least {p : Nat → Prop} (h : ∃ k, p k) : ∃ k, p k ∧ ∀ j, p j → k ≤ j := by
  obtain ⟨k, hk⟩ := h
  induction k using Nat.strongRecOn with
  | _ k ih =>
    by_cases e : ∃ j, j < k ∧ p j
    · obtain ⟨j, hj, hp⟩ := e
      exact ih j hj hp
    · exact ⟨k, hk, fun j hj => Nat.le_of_not_lt (fun hlt => e ⟨j, hlt, hj⟩)⟩
open Classical in
theorem wp_scope_fuel {P : Program} {a : Act} {w : World} {Q : Exit → Act → World → Prop} {c rest : Code} (l : Nat) (J : Nat → Act → World → Prop) (hf : findLabel c l = some rest)
    (first : c.wp P (Exit.jump l (fun a w => ∃ k, J k a w) Q) a w)
    (pass : ∀ k a w, J k a w → rest.wp P (Exit.jump l (fun a' w' => ∃ k', k' < k ∧ J k' a' w') Q) a w) : (Code.scope c).wp P Q a w := by
  refine wp_scope_jumps l (fun a w => ∃ k, J k a w) (fun a w => if h : ∃ k, J k a w then Classical.choose (exists_least h) else 0) hf first ?_
  intro a w h
  have hs := Classical.choose_spec (exists_least h)
  refine Code.wp_mono ?_ (pass _ a w hs.1)
  intro e a' w' hq
  cases e with
  | goto l' =>
    obtain ⟨rfl, k', hk', hj⟩ := hq
    refine ⟨rfl, ⟨k', hj⟩, ?_⟩
    have h' : ∃ k, J k a' w' := ⟨k', hj⟩
    rw [dif_pos h', dif_pos h]
    have := (Classical.choose_spec (exists_least h')).2 k' hj
    omega
  | normal => exact hq
  | exit id => exact hq
  | ret => exact hq
  | panic ch => exact hq
  | outgrown => exact hq

/-! ### A graph that is only read -/
theorem Gr.lt {w : World} {b : Nat} {m1 m2 : GM} (h : Gr w b m1 m2) : b + 1 + 1 < w.heap.size := (Array.getElem?_eq_some_iff.1 h.blk).1
theorem Gr.later {w w' : World} {b : Nat} {m1 m2 : GM} (h : Gr w b m1 m2) (hb : Below w.heap.size w w') : Gr w' b m1 m2 := by
  obtain ⟨n1, h1, h2⟩ := h.one
  obtain ⟨n2, h3, h4⟩ := h.other
  exact ⟨(hb.block _ h.lt).trans h.blk, ⟨n1, h1, groups_below h2 hb⟩, ⟨n2, h3, groups_below h4 hb⟩⟩
theorem Gr.cell0 {w : World} {b : Nat} {m1 m2 : GM} (h : Gr w b m1 m2) : w.cell? ⟨b + 1 + 1, 0, none⟩ = some (.map (some b)) := by
  have := h.blk
  simp [World.cell?, this]
theorem Gr.cell1 {w : World} {b : Nat} {m1 m2 : GM} (h : Gr w b m1 m2) : w.cell? ⟨b + 1 + 1, 1, none⟩ = some (.map (some (b + 1))) := by
  have := h.blk
  simp [World.cell?, this]
theorem key3w (n : Int) (h : (Lit.int .i64 n).wf = true) : keyOf Try.prog 3 (.int .i64 n) = some (.int .i64 n) := keyOf_int_mk Try.underlying3 h
/-- What is looked up in the first map, in the second. -/
theorem Gr.look1 {w : World} {b : Nat} {m1 m2 : GM} (h : Gr w b m1 m2) {n : Int} (hn : (Lit.int .i64 n).wf = true) :
    ∃ A c, (∀ W, W.heap[b]? = w.heap[b]? → (Instr.lookup 44 (.map (some b)) (.int .i64 n) false).run Try.prog W = .ok (.slice A ((getM m1 n).getD []).length c) W) ∧ ReadsInt w .i64 A ((getM m1 n).getD []).length ((getM m1 n).getD []) := by
  obtain ⟨n1, h1, hg⟩ := h.one
  obtain ⟨v, zs, hrun, hat, ho, _, _⟩ := hg.at law3 Try.underlying44 (zero23 _) (by unfold maxLen; omega) (key3w n hn)
  have hz := at_getM ho hat
  rw [← hz]
  obtain ⟨A, c, rfl, hR⟩ := own_reads ho.1
  exact ⟨A, c, fun W hW => groups_look false Try.underlying44 hg (key3w n hn) hrun hW, hR⟩
theorem Gr.look2 {w : World} {b : Nat} {m1 m2 : GM} (h : Gr w b m1 m2) {n : Int} (hn : (Lit.int .i64 n).wf = true) :
    ∃ A c, (∀ W, W.heap[b + 1]? = w.heap[b + 1]? → (Instr.lookup 44 (.map (some (b + 1))) (.int .i64 n) false).run Try.prog W = .ok (.slice A (succs m2 n).length c) W) ∧ ReadsInt w .i64 A (succs m2 n).length (succs m2 n) := by
  obtain ⟨n1, h1, hg⟩ := h.other
  obtain ⟨v, zs, hrun, hat, ho, _, _⟩ := hg.at law3 Try.underlying44 (zero23 _) (by unfold maxLen; omega) (key3w n hn)
  have hz : zs = succs m2 n := at_getM ho hat
  rw [← hz]
  obtain ⟨A, c, rfl, hR⟩ := own_reads ho.1
  exact ⟨A, c, fun W hW => groups_look false Try.underlying44 hg (key3w n hn) hrun hW, hR⟩

/-- An answer that is a new row. -/
def RowIs (xs : List Int) (w : World) (e : Ending) (w' : World) : Prop := ∃ v, e = .returned v ∧ w'.ownsRow w.heap.size 3 1 v xs.length (nums .i64 xs) ∧ Below w.heap.size w w'

theorem nodes_nil (w : World) : Calls Try.prog 11 #[.pointer none] w (RowIs [] w) := by
  go_enter Try.func11, Try.ntmps11
  go_wp2
  go_ret
  exact ⟨_, rfl, own_nil _ _ _ _, Below.refl _ _⟩
theorem nodes_any (b : Nat) (m1 m2 : GM) (w : World) (hg : Gr w b m1 m2) (hr : Rise (keysM m1)) (hl : m1.length ≤ 1000) : Calls Try.prog 11 #[.pointer (some ⟨b + 1 + 1, 0, none⟩)] w (RowIs (keysM m1) w) := by
  have ht0 := hg.cell0
  obtain ⟨n1, hn1, hg1⟩ := hg.one
  have hS := sortedKeysA b n1 (gz m1) _ w (groups_map hg1) (by rw [gmap_size]; omega)
  rw [gmap_keys, srt_keys hr] at hS
  clear hg hg1
  go_enter Try.func11, Try.ntmps11
  go_wp2_with (first
    | (go_at_call 26; refine (keysA_any _ _).mono ?_; rintro e w' ⟨rfl, rfl⟩)
    | (go_at_call 24; refine hS.mono ?_; rintro e w' ⟨v, rfl, ho, hb⟩)
    | go_in)
  go_ret
  have hb0 : Below w.heap.size w (w.alloc (.cells #[.map (some b)] 44)) := below_alloc (Below.refl _ _) _
  exact ⟨_, rfl, own_weaken ho (by omega), hb0.trans (hb.mono (by omega))⟩

theorem hang_nil (A : Option Addr) (n c : Nat) (w : World) : Calls Try.prog 17 #[.pointer none, .slice A n c] w (RowIs [] w) := by
  go_enter Try.func17, Try.ntmps17
  go_wp2
  go_step3
  go_wp2
  rw [Exit.noGoto_ret]
  go_ret
  exact ⟨_, rfl, own_nil _ _ _ _, Below.refl _ _⟩

abbrev ilit (n : Int) : DataW Unit := .lit (.int .i64 n)
abbrev iz (m : SM) : DataW Unit := gmap ilit m
theorem own_lenI {w : World} {bm n : Nat} {m : SM} (h : w.ownsMap Try.prog 3 (plainElem Try.prog 3) bm n (iz m)) : w.ownsMap Try.prog 3 (plainElem Try.prog 3) bm m.length (iz m) := by
  obtain ⟨es, clock, hb, hf, hs, hD⟩ := h
  refine ⟨es, clock, hb, hf, ?_, hD⟩
  have := congrArg Maps.size hD
  rw [gmap_size] at this
  rw [this]
  simp only [Maps.size]
  rw [length_read]
  exact Nat.le_refl _
theorem at_iz {m : SM} {k c : Int} (h : (iz m).atKey (.int .i64 k) (ilit 0) = ilit c) : c = (getM m k).getD 0 := by
  rw [gmap_at] at h
  cases hg : getM m k with
  | none => rw [hg] at h; simp at h; simp [h]
  | some v => rw [hg] at h; simp at h; simp [h]
theorem own_I_below {w w' : World} {bm n : Nat} {m : SM} (h : w.ownsMap Try.prog 3 (plainElem Try.prog 3) bm n (iz m)) (hb : Below w.heap.size w w') : w'.ownsMap Try.prog 3 (plainElem Try.prog 3) bm n (iz m) := h.kept (grown_of_below hb none) (by simp)

/-- What lies there between two steps of the work list. -/
structure HS (w w' : World) (m : SM) (ts : List Int) (vt : Value) : Prop where
  seen : w'.ownsMap Try.prog 3 (plainElem Try.prog 3) w.heap.size m.length (iz m)
  todo : Kd.Q (Kd.int .i64) 3 w' (w.heap.size + 1) (fun _ => True) vt ts
  below : Below w.heap.size w w'
theorem HS.lt {w w' : World} {m : SM} {ts : List Int} {vt : Value} (h : HS w w' m ts vt) : w.heap.size < w'.heap.size := h.seen.lt

theorem info3_parts : ∃ i, Try.prog.info? 3 = some i ∧ i.size = 1 := by
  obtain ⟨i0, hi, hz0, hz1, hz2⟩ := info_parts PGraphTells.info3
  exact ⟨i0, hi, hz1⟩
/-- 'todo[1:]'. -/
theorem cut1 {w : World} {base : Nat} {A : Option Addr} {c : Nat} {t : Int} {ts : List Int} (h : Kd.Q (Kd.int .i64) 3 w base (fun _ => True) (.slice A (t :: ts).length c) (t :: ts)) :
    ∃ A', (∀ W : World, (Instr.slice 23 (.slice A (t :: ts).length c) (some (.int .i64 1)) none none).run Try.prog W = .ok (.slice A' ts.length (c - 1)) W) ∧ Kd.Q (Kd.int .i64) 3 w base (fun _ => True) (.slice A' ts.length (c - 1)) ts := by
  obtain ⟨i0, hi, hsz⟩ := info3_parts
  have h1 := fun W => cut_from (P := Try.prog) 23 3 .i64 Try.underlying23 hi 1 hsz A (t :: ts).length c 1 (by omega) (by simp; omega) W
  have h2 := Kd.Q_drop (k := 1) h (by simp)
  have e1 : (t :: ts).length - 1 = ts.length := by simp
  have e2 : (t :: ts).drop 1 = ts := rfl
  rw [e1, e2] at h2
  refine ⟨_, fun W => ?_, h2⟩
  have := h1 W
  simp only [Int.toNat_one, e1] at this
  exact this

end Go.Proofs.Ytdloopgdohjedaa
