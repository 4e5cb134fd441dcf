/-
  Graph: the law's has.
-/
import Derived.Test.YtdloopgdohjedaaGrL
set_option linter.unusedVariables false
set_option linter.unusedSimpArgs false
namespace Go.Proofs.Ytdloopgdohjedaa
open Go.RowKit Go.Maps Go.Shelf Go.Proofs.YtdloopgdohjedaaW.PrintWords PGraphTells

set_option maxHeartbeats 2000000 in
theorem has_any (A : Option Addr) (c : Nat) (zs : List Int) (n : Int) (w : World) (hR : ReadsInt w .i64 A zs.length zs) :
    Calls Try.prog 19 #[.slice A zs.length c, .int .i64 n] w fun e w' => e = .returned (.int .i64 (idx zs n)) ∧ w = w' := by
  have hmax := hR.2.1
  go_enter Try.func19, Try.ntmps19
  go_wp2
  go_loop [5] (fun i => ∃ k : Nat, k ≤ zs.length ∧ i = .int .i64 k ∧ Hid (∀ j, j < k → (rd zs (j : Int) == n) = false)) (fun i => zs.length - (intOf i).toNat)
  case atStart => exact ⟨0, Nat.zero_le _, rfl, Lib.hid (fun j h => absurd h (Nat.not_lt_zero _))⟩
  case round =>
    obtain ⟨k, hk, rfl, HN⟩ := hrel
    by_cases hlt : k < zs.length
    · obtain ⟨ad, rfl, hc⟩ := hR.at_ (k : Int) (by omega) (by omega)
      rw [Int.toNat_natCast] at hc
      obtain ⟨x, hx⟩ : ∃ x, x = rd zs (k : Int) := ⟨_, rfl⟩
      rw [← hx] at hc
      have HX := Lib.hid hx
      clear hx
      by_cases hq : x = n
      · have hb : (x == n) = true := beq_iff_eq.2 hq
        have HQ := Lib.hid hb
        clear hq
        go_wp2
        go_ret
        exact ⟨ret_i (fidx_hit hlt (by rw [← HX.out]; exact HQ.out) HN.out), rfl⟩
      · have hb : (x == n) = false := beq_eq_false_iff_ne.2 hq
        have HQ := Lib.hid hb
        clear hq
        go_wp2
        go_round
        case rel =>
          refine ⟨k + 1, by omega, by go_num, Lib.hid (fun j hj => ?_)⟩
          by_cases e : j = k
          · subst e; rw [← HX.out]; exact HQ.out
          · exact HN.out j (by omega)
        case measure => simp [intOf]; omega
    · obtain rfl : k = zs.length := by omega
      go_wp2
      go_ret
      exact ⟨ret_i (fidx_miss HN.out), rfl⟩

end Go.Proofs.Ytdloopgdohjedaa
