/-
  Graph: slices.Compact, IndexFunc, ContainsFunc, DeleteFunc at a predicate of the program's own.
-/
import Derived.Test.YtdloopgdohjedaaGrV
import Derived.LoopTactic
import Derived.Outline
import Derived.Lib.SliceRun
import Derived.BigFrame
set_option linter.unusedVariables false
set_option linter.unusedSimpArgs false
namespace Go.Proofs.Ytdloopgdohjedaa
open Go.RowKit Go.Maps Go.Shelf Go.Proofs.YtdloopgdohjedaaW.PrintWords

theorem ret_b {a b : Bool} (h : b = a) : Ending.returned (.bool a) = .returned (.bool b) := by rw [h]
theorem ret_i {a b : Int} (h : b = a) : Ending.returned (.int .i64 a) = .returned (.int .i64 b) := by rw [h]

/-- What is asked of a predicate: it answers p while no block but one row has turned, and keeps whatever lies there. -/
def PredG (k : Nat) (caps : Array Value) (p : Int → Bool) (ok : Int → Prop) (w : World) (row : Option Nat) : Prop :=
  ∀ (W : World) (x : Int), ok x → w.grownBy W row → Calls Try.prog k (#[.int .i64 x] ++ caps) W fun e w' => e = .returned (.bool (p x)) ∧ Below W.heap.size W w'

theorem rd_mem {zs : List Int} {k : Nat} (h : k < zs.length) : rd zs (k : Int) ∈ zs := by simp [rd, List.getD_eq_getElem?_getD, h]
def fidx (p : Int → Bool) (zs : List Int) : Int := match zs.findIdx? p with | some i => (i : Int) | none => -1
theorem fidx_hit {p : Int → Bool} {zs : List Int} {k : Nat} (hk : k < zs.length) (hp : p (rd zs (k : Int)) = true) (hn : ∀ j, j < k → p (rd zs (j : Int)) = false) : fidx p zs = k := by
  unfold fidx
  have : zs.findIdx? p = some k := by
    rw [List.findIdx?_eq_some_iff_getElem]
    refine ⟨hk, by simpa [rd, List.getD_eq_getElem?_getD, hk] using hp, fun j hj => ?_⟩
    have hj' : j < zs.length := by omega
    simpa [rd, List.getD_eq_getElem?_getD, hj'] using hn j hj
  rw [this]
theorem fidx_miss {p : Int → Bool} {zs : List Int} (hn : ∀ j, j < zs.length → p (rd zs (j : Int)) = false) : fidx p zs = -1 := by
  unfold fidx
  have : zs.findIdx? p = none := by
    rw [List.findIdx?_eq_none_iff]
    intro x hx
    obtain ⟨j, hj, rfl⟩ := List.mem_iff_getElem.1 hx
    simpa [rd, List.getD_eq_getElem?_getD, hj] using hn j hj
  rw [this]

set_option maxHeartbeats 2000000 in
theorem indexFunc_any (k : Nat) (caps : Array Value) (eg : ∀ args w, (callFunc k args).run Try.prog w = .ok (.enter k args) w) (p : Int → Bool) (ok : Int → Prop) (row : Option Nat) (A : Option Addr) (c : Nat) (zs : List Int) (w : World)
    (hz : ∀ x ∈ zs, ok x) (hp : PredG k caps p ok w row) (hR : ReadsInt w .i64 A zs.length zs) :
    Calls Try.prog 39 #[.slice A zs.length c, .func (.func k) #[] caps] w fun e w' => e = .returned (.int .i64 (fidx p zs)) ∧ Below w.heap.size w w' := by
  have hmax := hR.2.1
  go_enter Try.func39, Try.ntmps39
  go_wp2
  go_loopw [5, 8] (fun _ i wr => ∃ kk : Nat, kk ≤ zs.length ∧ i = .int .i64 kk ∧ Below w.heap.size w wr ∧ Hid (∀ j, j < kk → p (rd zs (j : Int)) = false)) (fun _ i _ => zs.length - (intOf i).toNat)
  case atStart => exact ⟨0, Nat.zero_le _, rfl, Below.refl _ _, Lib.hid (fun j h => absurd h (Nat.not_lt_zero _))⟩
  case round =>
    obtain ⟨kk, hkk, rfl, hbr, HN⟩ := hrel
    by_cases hlt : kk < zs.length
    · obtain ⟨ad, rfl, hc⟩ := (hR.below hbr).at_ (kk : Int) (by omega) (by omega)
      rw [Int.toNat_natCast] at hc
      obtain ⟨x, hx⟩ : ∃ x, x = rd zs (kk : Int) := ⟨_, rfl⟩
      rw [← hx] at hc
      have hcall := hp wr x (hz x (by rw [hx]; exact rd_mem hlt)) (grown_of_below hbr _)
      have HX := Lib.hid hx
      clear hx
      cases hq : p x with
      | true =>
        rw [hq] at hcall
        go_wp2_with (go_at_fn k; refine hcall.mono ?_; rintro e w' ⟨rfl, hb'⟩)
        go_ret
        exact ⟨ret_i (fidx_hit hlt (by rw [← HX.out]; exact hq) HN.out), below_then hbr hbr.size hb'⟩
      | false =>
        rw [hq] at hcall
        go_wp2_with (go_at_fn k; refine hcall.mono ?_; rintro e w' ⟨rfl, hb'⟩)
        go_roundw
        case rel =>
          refine ⟨kk + 1, by omega, by go_num, below_then hbr hbr.size hb', Lib.hid (fun j hj => ?_)⟩
          by_cases e : j = kk
          · subst e; rw [← HX.out]; exact hq
          · exact HN.out j (by omega)
        case measure => simp [intOf]; omega
    · obtain rfl : kk = zs.length := by omega
      go_wp2
      go_ret
      exact ⟨ret_i (fidx_miss HN.out), hbr⟩

theorem fidx_cases (p : Int → Bool) (zs : List Int) : (fidx p zs = -1 ∧ ∀ x ∈ zs, p x = false) ∨ ∃ k : Nat, k < zs.length ∧ fidx p zs = k ∧ p (rd zs (k : Int)) = true ∧ ∀ x ∈ zs.take k, p x = false := by
  unfold fidx
  cases h : zs.findIdx? p with
  | none => exact .inl ⟨rfl, List.findIdx?_eq_none_iff.1 h⟩
  | some k =>
    obtain ⟨hk, h1, h2⟩ := List.findIdx?_eq_some_iff_getElem.1 h
    refine .inr ⟨k, hk, rfl, by simpa [rd, List.getD_eq_getElem?_getD, hk] using h1, fun x hx => ?_⟩
    obtain ⟨j, hj, rfl⟩ := List.mem_iff_getElem.1 hx
    rw [List.length_take] at hj
    rw [List.getElem_take]
    simpa using h2 j (by omega)

/-- What the row holds when j elements have been looked at. -/
def dele (p : Int → Bool) (zs : List Int) (j : Nat) : List Int := (zs.take j).filter fun x => !p x
theorem dele_le (p : Int → Bool) (zs : List Int) (j : Nat) : (dele p zs j).length ≤ j := Nat.le_trans (List.length_filter_le _ _) (List.length_take_le _ _)
theorem dele_succ {p : Int → Bool} {zs : List Int} {j : Nat} (hj : j < zs.length) : dele p zs (j + 1) = dele p zs j ++ (if p (rd zs (j : Int)) then [] else [rd zs (j : Int)]) := by
  have e : rd zs (j : Int) = zs[j] := by simp [rd, List.getD_eq_getElem?_getD, hj]
  unfold dele
  rw [List.take_succ_eq_append_getElem hj, List.filter_append, e]
  cases h : p zs[j] <;> simp [h]
theorem dele_lt {p : Int → Bool} {zs : List Int} {k j : Nat} (hk : k < zs.length) (hp : p (rd zs (k : Int)) = true) (hkj : k < j) (hj : j ≤ zs.length) : (dele p zs j).length < j := by
  induction j with
  | zero => omega
  | succ j ih =>
    rw [dele_succ (by omega), List.length_append]
    by_cases e : k = j
    · subst e
      rw [if_pos hp]
      have := dele_le p zs k
      simp; omega
    · have := ih (by omega) (by omega)
      split <;> simp <;> omega
def row (p : Int → Bool) (zs : List Int) (j : Nat) : List Int := dele p zs j ++ zs.drop (dele p zs j).length
theorem row_len {p : Int → Bool} {zs : List Int} {j : Nat} (hj : j ≤ zs.length) : (row p zs j).length = zs.length := by
  have := dele_le p zs j
  unfold row
  rw [List.length_append, List.length_drop]
  omega
theorem row_at {p : Int → Bool} {zs : List Int} {j : Nat} (hj : j < zs.length) : rd (row p zs j) (j : Int) = rd zs (j : Int) := by
  have := dele_le p zs j
  unfold row rd
  simp only [Int.toNat_natCast, List.getD_eq_getElem?_getD]
  rw [List.getElem?_append_right this, List.getElem?_drop]
  congr 2
  omega
theorem row_skip {p : Int → Bool} {zs : List Int} {j : Nat} (hj : j < zs.length) (hp : p (rd zs (j : Int)) = true) : row p zs (j + 1) = row p zs j ∧ (dele p zs (j + 1)).length = (dele p zs j).length := by
  have e : dele p zs (j + 1) = dele p zs j := by rw [dele_succ hj, if_pos hp, List.append_nil]
  unfold row
  rw [e]
  exact ⟨rfl, rfl⟩
theorem row_put {p : Int → Bool} {zs : List Int} {j : Nat} (hj : j < zs.length) (hp : p (rd zs (j : Int)) = false) : row p zs (j + 1) = (row p zs j).set (dele p zs j).length (rd zs (j : Int)) ∧ (dele p zs (j + 1)).length = (dele p zs j).length + 1 := by
  have e : dele p zs (j + 1) = dele p zs j ++ [rd zs (j : Int)] := by rw [dele_succ hj, if_neg (by simp [hp])]
  have hl := dele_le p zs j
  refine ⟨?_, by rw [e]; simp⟩
  unfold row
  rw [e, List.set_append_right _ _ (Nat.le_refl _), Nat.sub_self, List.length_append, List.length_singleton, List.append_assoc]
  congr 1
  rw [List.drop_eq_getElem_cons (show (dele p zs j).length < zs.length by omega)]
  rfl
theorem row_start {p : Int → Bool} {zs : List Int} {k : Nat} (hk : k < zs.length) (hp : p (rd zs (k : Int)) = true) (hn : ∀ x ∈ zs.take k, p x = false) : row p zs (k + 1) = zs ∧ (dele p zs (k + 1)).length = k := by
  have e : dele p zs k = zs.take k := by
    unfold dele
    rw [List.filter_eq_self]
    intro x hx
    simp [hn x hx]
  have hl : (zs.take k).length = k := by rw [List.length_take]; omega
  obtain ⟨h1, h2⟩ := row_skip hk hp
  rw [h1, h2, e, hl]
  refine ⟨?_, rfl⟩
  unfold row
  rw [e, hl]
  exact List.take_append_drop _ _
theorem dele_all (p : Int → Bool) (zs : List Int) : dele p zs zs.length = zs.filter fun x => !p x := by unfold dele; rw [List.take_length]

theorem own_cap {w : World} {B g n c : Nat} {e : TypeId} {xs : List Value} (h : w.ownsRow B e 1 (.slice (some ⟨g, 0, none⟩) n c) n xs) : n ≤ c := by
  rcases h.2 with ⟨h0, _⟩ | ⟨g', cap', cur, hv, _, _, h1, _⟩
  · cases h0
  · injection hv with _ _ hc
    subst hc
    exact h1
/-- The head of a row, behind its tail has been written. -/
theorem own_cut {w : World} {B g n c ii : Nat} {zs : List Int} (h : w.ownsRow B 3 1 (.slice (some ⟨g, 0, none⟩) n c) n (nums .i64 zs)) (hi : ii ≤ n) (vs : List Value) (hv : ii + vs.length ≤ n) :
    (w.setCells g ii vs).ownsRow B 3 1 (.slice (some ⟨g, 0, none⟩) ii c) ii (nums .i64 (zs.take ii)) ∧ w.grownBy (w.setCells g ii vs) (some g) := by
  obtain ⟨s1, s2, s3, s4⟩ := setCells_same g vs ii w
  have hn : zs.length = n := by have := h.1; simpa [nums] using this
  refine ⟨?_, ⟨s1, s2, s3, by rw [s4]; exact Nat.le_refl _, fun k _ hk => setCells_far vs ii k (fun he => hk (by rw [he]))⟩⟩
  rcases h.2 with ⟨h0, _⟩ | ⟨g', cap', cur, hv', hb, hh, h1, h2, h3, h4⟩
  · cases h0
  · injection hv' with ha _ hc
    injection ha with ha
    injection ha with ha
    subst ha; subst hc
    obtain ⟨cur', e1, e2, e3⟩ := setCells_row vs ii w cur hh (by omega)
    refine ⟨by simp [nums]; omega, .inr ⟨g, c, cur', rfl, hb, e1, by omega, h2, by rw [e2, h3], ?_⟩⟩
    rw [e3, Nat.mul_one, List.append_assoc, List.take_append_of_le_length (by rw [List.length_take, Array.length_toList]; omega), List.take_take, Nat.min_self]
    rw [Nat.mul_one] at h4
    have : (cur.toList.take n).take ii = (nums .i64 zs).take ii := by rw [h4]
    rw [List.take_take, Nat.min_eq_left hi] at this
    rw [this]
    simp [nums]

theorem info3 : (Try.prog.info? 3).map (fun i => (i.zero, i.size, i.bytes)) = some (some (.int .i64 0), 1, 8) := by kernel_rfl
theorem zero3 (w : World) : (zeroValue 3).run Try.prog w = .ok (.int .i64 0) w := by kernel_rfl

set_option maxHeartbeats 4000000 in
theorem deleteFunc_any (k : Nat) (caps : Array Value) (eg : ∀ args w, (callFunc k args).run Try.prog w = .ok (.enter k args) w) (p : Int → Bool) (ok : Int → Prop) (B : Nat) (v : Value) (zs : List Int) (w : World)
    (hz : ∀ x ∈ zs, ok x) (hp : PredG k caps p ok w v.ownBlock) (hB : B ≤ w.heap.size) (ho : w.ownsRow B 3 1 v zs.length (nums .i64 zs)) (hl : zs.length ≤ 1000) :
    Calls Try.prog 28 #[v, .func (.func k) #[] caps] w fun e w' => ∃ v', e = .returned v' ∧ w'.ownsRow B 3 1 v' (zs.filter fun x => !p x).length (nums .i64 (zs.filter fun x => !p x)) ∧ w.grownBy w' v.ownBlock ∧ v'.ownBlock = v.ownBlock := by
  obtain ⟨A, c, rfl, hR⟩ := own_reads ho
  rcases fidx_cases p zs with ⟨hi, hall⟩ | ⟨i0, hi0, hi, hpi, hall⟩
  · have HO := Lib.hid ho
    clear ho
    have cI := indexFunc_any k caps eg p ok _ A c zs w hz hp hR
    rw [hi] at cI
    go_enter Try.func28, Try.ntmps28
    go_wp2_with (go_at_call 39; refine cI.mono ?_; rintro e w' ⟨rfl, hb⟩)
    go_ret
    have e : (zs.filter fun x => !p x) = zs := by
      rw [List.filter_eq_self]
      intro x hx
      simp [hall x hx]
    rw [e]
    exact ⟨_, rfl, pw_own_below HO.out hb, grown_of_below hb _, rfl⟩
  · obtain ⟨g, cap, hv, hgb, hnc⟩ := ho.form (by omega)
    injection hv with hA _ hc
    subst hA; subst hc
    have cI := indexFunc_any k caps eg p ok _ _ c zs w hz hp hR
    rw [hi] at cI
    have hne1 : ((i0 : Int) == -1) = false := beq_eq_false_iff_ne.2 (by omega)
    have HO := Lib.hid ho
    have HA := Lib.hid hall
    have HP := Lib.hid hpi
    clear ho hall hpi hR
    go_enter Try.func28, Try.ntmps28
    go_wp2_with (go_at_call 39; refine cI.mono ?_; rintro e w1 ⟨rfl, hb⟩)
    have hs1 := row_start hi0 HP.out HA.out
    go_loopw [5, 6, 7] (fun i j _ wr => ∃ jj : Nat, i0 < jj ∧ jj ≤ zs.length ∧ i = .int .i64 (dele p zs jj).length ∧ j = .int .i64 jj ∧ Hid (wr.ownsRow B 3 1 (.slice (some ⟨g, 0, none⟩) zs.length c) zs.length (nums .i64 (row p zs jj))) ∧ w.grownBy wr (some g)) (fun _ j _ _ => zs.length - (intOf j).toNat)
    case atStart =>
      refine ⟨i0 + 1, by omega, by omega, by rw [hs1.2], by go_num, Lib.hid ?_, grown_of_below hb _⟩
      rw [hs1.1]
      exact pw_own_below HO.out hb
    case round =>
      obtain ⟨jj, hij, hjj, rfl, rfl, HR, hgr⟩ := hrel
      have hlt1 := dele_lt hi0 HP.out hij hjj
      by_cases hlt : jj < zs.length
      · obtain ⟨cj, fj⟩ := own_at HR.out (jj : Int) (by omega) (by omega)
        obtain ⟨ci, fi⟩ := own_at HR.out ((dele p zs jj).length : Int) (by omega) (by omega)
        rw [row_at hlt] at cj
        rw [Int.toNat_natCast] at cj fj ci fi
        obtain ⟨x, hx⟩ : ∃ x, x = rd zs (jj : Int) := ⟨_, rfl⟩
        obtain ⟨old, hold⟩ : ∃ x, x = rd (row p zs jj) ((dele p zs jj).length : Int) := ⟨_, rfl⟩
        obtain ⟨ii, hii⟩ : ∃ x, x = (dele p zs jj).length := ⟨_, rfl⟩
        rw [← hold] at ci
        rw [← hx] at cj
        rw [← hii] at ci fi hlt1 ⊢
        have hBr : B ≤ wr.heap.size := Nat.le_trans hB hgr.size
        have hcall := hp wr x (hz x (by rw [hx]; exact rd_mem hlt)) hgr
        have HX := Lib.hid hx
        have HI := Lib.hid hii
        clear hx hold hii
        cases hq : p x with
        | true =>
          rw [hq] at hcall
          go_wp2_with (go_at_fn k; refine hcall.mono ?_; rintro e w' ⟨rfl, hb'⟩)
          have hs := row_skip (p := p) hlt (by rw [← HX.out]; exact hq)
          go_roundw
          case rel => exact ⟨jj + 1, by omega, by omega, by rw [hs.2, HI.out], by go_num, Lib.hid (by rw [hs.1]; exact pw_own_below HR.out hb'), hgr.trans (grown_of_below hb' _)⟩
          case measure => simp [intOf]; omega
        | false =>
          rw [hq] at hcall
          go_wp2_with (go_at_fn k; refine hcall.mono ?_; rintro e w' ⟨rfl, hb'⟩; have ci' := pw_cell_below hb' ci; have fi' : w'.frozen? ⟨g, ii, none⟩ = false := (hb'.frozen (World.block_lt_of_cell? wr _ ci)).trans fi)
          have hs := row_put (p := p) hlt (by rw [← HX.out]; exact hq)
          go_roundw
          case rel =>
            have hst := own_store (pw_own_below HR.out hb') (ii : Int) x
            rw [Int.toNat_natCast] at hst
            refine ⟨jj + 1, by omega, by omega, by rw [hs.2, ← HI.out]; go_num, by go_num, Lib.hid ?_, (hgr.trans (grown_of_below hb' _)).trans hst.2⟩
            rw [hs.1, ← HI.out, ← HX.out]
            exact hst.1
          case measure => simp [intOf]; omega
      · obtain rfl : jj = zs.length := by omega
        have hlen : (row p zs zs.length).length = zs.length := row_len (Nat.le_refl _)
        obtain ⟨ii, hii⟩ : ∃ x, x = (dele p zs zs.length).length := ⟨_, rfl⟩
        rw [← hii] at hlt1 ⊢
        have HI := Lib.hid hii
        clear hii
        have hcut := own_cut HR.out (Nat.le_of_lt hlt1)
        have hcap : zs.length ≤ c := own_cap HR.out
        have hcl : ∀ ty, (Builtin.clear_ #[23] ty #[.slice (some ⟨g, ii, none⟩) (zs.length - ii) (c - ii)]).run Try.prog wr = .ok (.tuple #[]) (wr.setCells g ii (List.replicate (zs.length - ii) (.int .i64 0))) :=
          fun ty => Lib.run_clear_slice wr 23 3 ty (.int .i64 0) Try.underlying23 zero3 rfl rfl g ii _ _ (by omega)
            (fun t ht => by
              obtain ⟨ct, ft⟩ := own_at HR.out ((ii + t : Nat) : Int) (by omega) (by omega)
              rw [Int.toNat_natCast] at ct
              rw [ct]; rfl)
            (fun t ht => by
              obtain ⟨ct, ft⟩ := own_at HR.out ((ii + t : Nat) : Int) (by omega) (by omega)
              rw [Int.toNat_natCast] at ft
              exact ft)
        have hne : c ≠ ii := by omega
        go_wp2_with (simp only [hcl])
        go_ret
        obtain ⟨hown, hgr2⟩ := hcut (List.replicate (zs.length - ii) (.int .i64 0)) (by simp; omega)
        refine ⟨_, rfl, ?_, hgr.trans hgr2, rfl⟩
        rw [← dele_all, ← HI.out]
        have e : (row p zs zs.length).take ii = dele p zs zs.length := by
          unfold row
          rw [HI.out]
          exact List.take_left
        rw [e] at hown
        exact hown

end Go.Proofs.Ytdloopgdohjedaa
