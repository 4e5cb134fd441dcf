/-
  Graph: cycle, Cyclic: the walks.
-/
import Derived.Test.YtdloopgdohjedaaGrR
import Derived.Shelf.Slices.Turned
set_option linter.unusedVariables false
set_option linter.unusedSimpArgs false
namespace Go.Proofs.Ytdloopgdohjedaa
open Go.RowKit Go.Maps Go.Shelf Go.Proofs.YtdloopgdohjedaaW.PrintWords PGraphTells

theorem contains_any (A : Option Addr) (c : Nat) (zs : List Int) (x : Int) (w : World) (hR : ReadsInt w .i64 A zs.length zs) :
    Calls Try.prog 33 #[.slice A zs.length c, .int .i64 x] w fun e w' => e = .returned (.bool (zs.contains x)) ∧ w' = w := by
  rcases Nat.eq_zero_or_pos zs.length with h0 | h0
  · obtain rfl : zs = [] := List.eq_nil_of_length_eq_zero h0
    exact Any.slices_Contains_int_empty Try.contains A c x w
  · obtain ⟨ad, rfl, hc⟩ := hR.2.2 h0
    obtain ⟨b, off, i⟩ := ad
    cases i with
    | none =>
      have h := Any.slices_Contains_int Try.contains b off zs.length c zs x w (Nat.le_refl _) hR.2.1 (fun j hj => by rw [← hc j hj, add_at])
      rw [List.take_length] at h
      exact h
    | some q =>
      have := hc 0 h0
      simp [Addr.add, World.cell?] at this
      split at this <;> cases this

/-- What is asked of a graph that is only read. -/
structure Good (m1 m2 : GM) : Prop where
  rise : Rise (keysM m1)
  len : m1.length ≤ 1000
  keys : ∀ n ∈ keysM m1, fitB n = true
  fit : ∀ n x, x ∈ succs m2 n → fitB x = true

theorem cycle_any (b : Nat) (m1 m2 : GM) (n : Int) (w : World) (hg : Gr w b m1 m2) (hG : Good m1 m2) (hn : (Lit.int .i64 n).wf = true) (p : Bool) (hp : p = true ↔ HangP m2 [n] n) :
    Calls Try.prog 30 #[.pointer (some ⟨b + 1 + 1, 0, none⟩), .int .i64 n] w fun e w' => e = .returned (.bool p) ∧ Below w.heap.size w w' := by
  have hb0 : Below w.heap.size w (w.alloc (.cells #[.int .i64 n] 3)) := below_alloc (Below.refl _ _) _
  have hR : ReadsInt (w.alloc (.cells #[.int .i64 n] 3)) .i64 (some ⟨w.heap.size, 0, none⟩) [n].length [n] := ⟨rfl, by simp, fun _ => ⟨_, rfl, fun j hj => by
    obtain rfl : j = 0 := by simpa using hj
    simp [Addr.add_zero']⟩⟩
  have hh := hang_any b m1 m2 (some ⟨w.heap.size, 0, none⟩) 1 [n] _ (hg.later hb0) hR (by simp) (by simpa using hn) hG.fit
  change Calls Try.prog 17 #[.pointer (some ⟨b + 1 + 1, 0, none⟩), .slice (some ⟨w.heap.size, 0, none⟩) 1 1] _ _ at hh
  clear hR hg
  go_enter Try.func30, Try.ntmps30
  go_wp2_with (first
    | (go_at_call 17; refine hh.mono ?_; rintro e w1 ⟨l, hr, hl, v, rfl, ho, hb1⟩; obtain ⟨A, c, rfl, hR1⟩ := own_reads ho)
    | (go_at_call 33; refine (contains_any A c l n _ hR1).mono ?_; rintro e w2 ⟨rfl, rfl⟩)
    | go_in)
  go_ret
  refine ⟨ret_b ?_, below_step hb0 hb1⟩
  rw [Bool.eq_iff_iff, hp, ← hl]
  simp


theorem cyclic_nil (w : World) : Calls Try.prog 13 #[.pointer none] w (RowIs [] w) := by
  have hD := fun v W => deleteFunc_any 29 #[.pointer (some ⟨w.heap.size, 0, none⟩)] (enters_of Try.func29 (by kernel_rfl) rfl) (fun _ => false) (fun _ => False) (w.heap.size + 1) v [] W (by simp) (fun _ _ h => h.elim)
  go_enter Try.func13, Try.ntmps13
  go_wp2_with (first
    | (go_at_call 11; refine (nodes_nil _).mono ?_; rintro e w1 ⟨v, rfl, ho, hb1⟩)
    | (go_at_call 28; refine (hD v w1 (by have := hb1.size; simpa using this) (by simpa using ho) (by simp)).mono ?_; rintro e w2 ⟨v2, rfl, ho2, hg2, _⟩)
    | go_in)
  go_ret
  have hb0 : Below w.heap.size w (w.alloc (.cells #[.pointer none] 26)) := below_alloc (Below.refl _ _) _
  have h1 := below_step hb0 hb1
  exact ⟨_, rfl, own_weaken ho2 (by omega), h1.grown hg2 h1.size (fun j hj => by have := own_base ho j hj; simp at this; omega)⟩

theorem cyclic_any (b : Nat) (m1 m2 : GM) (w : World) (hg : Gr w b m1 m2) (hG : Good m1 m2) (p : Int → Bool) (hp : ∀ n, p n = true ↔ HangP m2 [n] n) :
    Calls Try.prog 13 #[.pointer (some ⟨b + 1 + 1, 0, none⟩)] w (RowIs ((keysM m1).filter p) w) := by
  have hb0 : Below w.heap.size w (w.alloc (.cells #[.pointer (some ⟨b + 1 + 1, 0, none⟩)] 26)) := below_alloc (Below.refl _ _) _
  have hlen : (keysM m1).length ≤ 1000 := by simpa [keysM] using hG.len
  have hsz : (w.alloc (.cells #[.pointer (some ⟨b + 1 + 1, 0, none⟩)] 26)).heap.size = w.heap.size + 1 := by simp
  have hpred : ∀ (W : World) (x : Int), fitB x = true → Below (w.heap.size + 1) (w.alloc (.cells #[.pointer (some ⟨b + 1 + 1, 0, none⟩)] 26)) W → Calls Try.prog 29 (#[.int .i64 x] ++ #[.pointer (some ⟨w.heap.size, 0, none⟩)]) W fun e w' => e = .returned (.bool (!p x)) ∧ Below W.heap.size W w' := by
    intro W x hx hb
    have hc : W.cell? ⟨w.heap.size, 0, none⟩ = some (.pointer (some ⟨b + 1 + 1, 0, none⟩)) := (hb.cell (by simp)).trans (by simp)
    have hW : Gr W b m1 m2 := (hg.later hb0).later (hsz ▸ hb)
    show Calls Try.prog 29 #[.int .i64 x, .pointer (some ⟨w.heap.size, 0, none⟩)] W _
    have hcy := cycle_any b m1 m2 x W hW hG (fit_wf hx) (p x) (hp x)
    go_enter Try.func29, Try.ntmps29
    go_wp2_with (go_at_call 30; refine hcy.mono ?_; rintro e w' ⟨rfl, hb'⟩)
    go_ret
    exact ⟨ret_b rfl, hb'⟩
  have hD := fun v W => deleteFunc_any 29 #[.pointer (some ⟨w.heap.size, 0, none⟩)] (enters_of Try.func29 (by kernel_rfl) rfl) (fun n => !p n) (fun n => fitB n = true) (w.heap.size + 1) v (keysM m1) W hG.keys
  have hN := nodes_any b m1 m2 _ (hg.later hb0) hG.rise hG.len
  have HP := Lib.hid hpred
  clear hpred
  go_enter Try.func13, Try.ntmps13
  go_wp2_with (first
    | (go_at_call 11; refine hN.mono ?_; rintro e w1 ⟨v, rfl, ho, hb1⟩)
    | (go_at_call 28; refine (hD v w1 (fun W x hx hgw => HP.out W x hx ((hsz ▸ hb1).grown hgw (by have := hb1.size; rw [hsz] at this; exact this) (fun j hj => by have := own_base ho j hj; rw [hsz] at this; exact this))) (by have := hb1.size; rw [hsz] at this; exact this) (hsz ▸ ho) hlen).mono ?_; rintro e w2 ⟨v2, rfl, ho2, hg2, _⟩)
    | go_in)
  go_ret
  have h1 := below_step hb0 hb1
  have e : ((keysM m1).filter fun n => !(fun n => !p n) n) = (keysM m1).filter p := by
    congr 1
    funext n
    simp
  rw [e] at ho2
  exact ⟨_, rfl, own_weaken ho2 (by omega), h1.grown hg2 h1.size (fun j hj => by have := own_base ho j hj; rw [hsz] at this; omega)⟩

end Go.Proofs.Ytdloopgdohjedaa
