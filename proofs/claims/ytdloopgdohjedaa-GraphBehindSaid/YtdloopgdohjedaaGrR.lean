/-
  Graph: Hang: the walk.
-/
import Derived.Test.YtdloopgdohjedaaGrQ
set_option linter.unusedVariables false
set_option linter.unusedSimpArgs false
namespace Go.Proofs.Ytdloopgdohjedaa
open Go.RowKit Go.Maps Go.Shelf Go.Proofs.YtdloopgdohjedaaW.PrintWords PGraphTells

theorem wp_scope_round {P : Program} {a : Act} {w : World} {Q : Exit → Act → World → Prop} {c rest : Code} (l : Nat) (J : Nat → Act → World → Prop) (hf : findLabel c l = some (Code.skip.seq rest))
    (pass : ∀ k a w, J k a w → rest.wp P (Exit.jump l (fun a' w' => ∃ k', k' < k ∧ J k' a' w') Q) a w)
    (first : (∀ k a w, J k a w → rest.wp P (Exit.jump l (fun a w => ∃ k, J k a w) Q) a w) → c.wp P (Exit.jump l (fun a w => ∃ k, J k a w) Q) a w) : (Code.scope c).wp P Q a w := by
  refine wp_scope_fuel l J hf (first fun k a w h => Code.wp_mono ?_ (pass k a w h)) (fun k a w h => wp_seq (wp_skip (pass k a w h)))
  intro e a' w' hq
  cases e with
  | goto l' => exact ⟨hq.1, hq.2.imp fun _ h => h.2⟩
  | normal => exact hq
  | exit id => exact hq
  | ret => exact hq
  | panic ch => exact hq
  | outgrown => exact hq

/-- What Hang answers. -/
def HangAre (m2 : GM) (on : List Int) (w : World) (e : Ending) (w' : World) : Prop := ∃ l, Rise l ∧ (∀ x, x ∈ l ↔ HangP m2 on x) ∧ RowIs l w e w'

/-- At the label. -/
def HJ (b : Nat) (m2 : GM) (A : Option Addr) (c : Nat) (on : List Int) (w : World) (k : Nat) (a : Act) (w' : World) : Prop :=
  ∃ (m : SM) (ts : List Int) (vt : Value) (u2 u3 u4 u7 u8 u9 u10 u11 u12 u13 u14 u15 u16 u17 u18 u19 u20 u21 u22 u23 u24 u25 u26 u27 u28 u29 u30 u31 u32 u33 u34 u35 u36 u37 u38 u39 u40 u41 u42 u43 u44 u45 u46 u47 : Value), a = { tmps := #[.pointer (some ⟨b + 1 + 1, 0, none⟩), .slice A on.length c, u2, u3, u4, .map (some w.heap.size), vt, u7, u8, u9, u10, u11, u12, u13, u14, u15, u16, u17, u18, u19, u20, u21, u22, u23, u24, u25, u26, u27, u28, u29, u30, u31, u32, u33, u34, u35, u36, u37, u38, u39, u40, u41, u42, u43, u44, u45, u46, u47], defers := [] } ∧ Runs m2 on m ts ∧ k = ts.length + (1024 - m.length) ∧ HS w w' m ts vt

set_option maxRecDepth 100000 in
set_option maxHeartbeats 4000000 in
theorem hang_any (b : Nat) (m1 m2 : GM) (A : Option Addr) (c : Nat) (on : List Int) (w : World) (hg : Gr w b m1 m2) (hR : ReadsInt w .i64 A on.length on) (hl : on.length ≤ 1000) (hon : ∀ x ∈ on, (Lit.int .i64 x).wf = true) (hfit : ∀ n x, x ∈ succs m2 n → fitB x = true) :
    Calls Try.prog 17 #[.pointer (some ⟨b + 1 + 1, 0, none⟩), .slice A on.length c] w (HangAre m2 on w) := by
  have hmm := @run_makeMap Try.prog
  go_enter Try.func17, Try.ntmps17
  go_wp2
  refine wp_scope_round 0 (HJ b m2 A c on w) rfl ?_ ?_
  · rintro k a W ⟨m, ts, vt, u2, u3, u4, u7, u8, u9, u10, u11, u12, u13, u14, u15, u16, u17, u18, u19, u20, u21, u22, u23, u24, u25, u26, u27, u28, u29, u30, u31, u32, u33, u34, u35, u36, u37, u38, u39, u40, u41, u42, u43, u44, u45, u46, u47, rfl, hruns, rfl, hs⟩
    have hW := hruns |> runs_well hfit
    have hsz := hW.size
    have hlen := hW.len
    have HW := Lib.hid hW
    clear hW
    have HS0 := Lib.hid hs
    have HRU := Lib.hid hruns
    clear hruns
    cases ts with
    | nil =>
      obtain ⟨A6, c6, rfl, hc6, hC6⟩ := Kd.Q_reads hs.todo
      have hS := sortedKeysB w.heap.size m.length (iz m) _ W hs.seen (by rw [gmap_size]; omega)
      rw [gmap_keys, srt_keys HW.out.rise] at hS
      clear hC6 hc6 hs
      go_wp2_with (first
        | (go_at_call 37; refine (keysB_any _ _).mono ?_; rintro e w' ⟨rfl, rfl⟩)
        | (go_at_call 24; refine hS.mono ?_; rintro e w' ⟨v, rfl, ho, hb⟩)
        | go_in)
      simp only [Exit.jump]
      go_ret
      have hs := HS0.out
      refine ⟨keysM m, HW.out.rise, runs_end HRU.out, _, rfl, own_weaken ho (by have := hs.below.size; omega), ?_⟩
      exact below_step hs.below ((below_alloc (Below.refl _ _) _).trans (hb.mono (by omega)))
    | cons t ts =>
      obtain ⟨A6, c6, rfl, hc6, hC6⟩ := Kd.Q_reads hs.todo
      obtain ⟨ad6, rfl, hcell6⟩ := (ri hC6).2.2 (by simp)
      have hcell0 : W.cell? ad6 = some (.int .i64 t) := by
        have := hcell6 0 (by simp)
        simpa [Addr.add_zero'] using this
      obtain ⟨A7, hcut, hQ7⟩ := cut1 hs.todo
      have ht1 : W.cell? ⟨b + 1 + 1, 1, none⟩ = some (.map (some (b + 1))) := pw_cell_below hs.below hg.cell1
      have hwf : (Lit.int .i64 t).wf = true := by
        rcases (runs_inv HRU.out).2.1 t (by simp) with h | h
        · exact hon t h
        · exact fit_wf (HW.out.fits t h)
      obtain ⟨A8, c8, hlook8, hR8⟩ := hg.look2 hwf
      have hlook := hlook8 W (hs.below.block _ (by have := hg.lt; omega))
      have hRmax := hR8.2.1
      have hRf := fun x => hfit t x
      obtain ⟨N, hN⟩ : ∃ N, N = (t :: ts).length := ⟨_, rfl⟩
      have hN0 : ((N : Int) == 0) = false := beq_eq_false_iff_ne.2 (by rw [hN]; simp only [List.length_cons]; omega)
      have hN1 : ((0 : Int) < (N : Int)) := by rw [hN]; simp only [List.length_cons]; omega
      rw [← hN] at hcut
      have hcutW := hcut W
      obtain ⟨R, hRR⟩ : ∃ R, R = succs m2 t := ⟨_, rfl⟩
      rw [← hRR] at hlook hR8 hRmax hRf
      have HRR := Lib.hid hRR
      have HR8 := Lib.hid hR8
      clear hRR hR8 hlook8 hcell6 hC6 hcut hs
      change (_ : Code).wp _ _ { tmps := #[_, _, _, _, _, _, .slice (some ad6) (t :: ts).length c6, _, _, _, _, _, _, _, _, _, _, _, _, _, _, _, _, _, _, _, _, _, _, _, _, _, _, _, _, _, _, _, _, _, _, _, _, _, _, _, _, _], defers := [] } W
      rw [← hN]
      have HN := Lib.hid hN
      clear hN hc6
      go_wp2
      have hwl : ∀ j, Well on (addN (m, ts) (R.take j)).1 (addN (m, ts) (R.take j)).2 := fun j => well_addN (st := (m, ts)) HW.out.tail (fun x hx => hRf x (List.mem_of_mem_take hx))
      have HWL := Lib.hid hwl
      clear hwl
      go_loopw [6, 33] (fun vt i W' => ∃ j : Nat, j ≤ R.length ∧ i = .int .i64 j ∧ Hid (HS w W' (addN (m, ts) (R.take j)).1 (addN (m, ts) (R.take j)).2 vt)) (fun _ i _ => R.length - (intOf i).toNat)
      case atStart => exact ⟨0, Nat.zero_le _, rfl, Lib.hid ⟨HS0.out.seen, hQ7, HS0.out.below⟩⟩
      case round =>
        obtain ⟨j, hj, rfl, HJ⟩ := hrel
        by_cases hlt : j < R.length
        · have hs := HJ.out
          have hwj := HWL.out j
          have hsz1 := hwj.size
          have hln1 := hwj.len
          have hones := hwj.ones
          have hnext := addN_succ (m, ts) R hlt
          obtain ⟨st, hst⟩ : ∃ st, st = addN (m, ts) (R.take j) := ⟨_, rfl⟩
          rw [← hst] at hs hsz1 hln1 hones hnext
          obtain ⟨ad8, rfl, hc8⟩ := (ReadsInt.below HR8.out hs.below).at_ (j : Int) (by omega) (by omega)
          rw [Int.toNat_natCast] at hc8
          obtain ⟨x, hx⟩ : ∃ x, x = rd R (j : Int) := ⟨_, rfl⟩
          rw [← hx] at hc8 hnext
          have hfx : fitB x = true := by rw [hx]; exact hRf _ (by simp [rd, List.getD_eq_getElem?_getD, hlt])
          have hxx := hones x
          have HNX := Lib.hid hnext
          have HST := Lib.hid hst
          clear hnext hst hx hwj hones
          have hown := hs.seen
          have hkx := key3 x hfx
          obtain ⟨Av, cv, rfl, hcv, hCv⟩ := Kd.Q_reads hs.todo
          clear hCv
          by_cases hin : (getM st.1 x).isSome = true
          · rw [if_pos hin] at hxx
            have HXX := Lib.hid hxx
            clear hxx
            go_wp2_with (first
              | (at_lookup; refine wpList_lookup_own_int _ rfl _ _ 61 rfl 3 3 .i64 law3 Try.underlying61 Try.underlying3 (zero3 _) w.heap.size st.1.length _ rfl hown _ _ rfl hkx ?_; intro c0 hat hwc; obtain rfl : c0 = 1 := (at_iz hat).trans HXX.out; clear hat)
              | go_in)
            go_roundw
            case rel =>
              refine ⟨j + 1, by omega, by go_num, Lib.hid ?_⟩
              rw [HNX.out]
              unfold add1
              rw [if_pos hin]
              exact hs
            case measure => simp [intOf]; omega
          · rw [if_neg hin] at hxx
            have HXX := Lib.hid hxx
            clear hxx
            have hl3 : (st.2.length + 1) * 8 ≤ 140737488355328 := by omega
            have HL := Lib.hid hl3
            clear hl3
            have hQ := hs.todo
            have hsb := hs.lt
            have HB := Lib.hid hs.below
            go_wp2_with (first
              | (at_lookup; refine wpList_lookup_own_int _ rfl _ _ 61 rfl 3 3 .i64 law3 Try.underlying61 Try.underlying3 (zero3 _) w.heap.size st.1.length _ rfl hown _ _ rfl hkx ?_; intro c0 hat hwc; obtain rfl : c0 = 0 := (at_iz hat).trans HXX.out; clear hat)
              | (at_mapUpdate; refine wpList_mapUpdate_own _ rfl _ _ _ 61 rfl 3 3 law3 Try.underlying61 (plainElem Try.prog 3) w.heap.size st.1.length _ rfl hown (by unfold maxLen; omega) _ _ _ rfl rfl hkx (ilit 1) [] (plainElem_int Try.underlying3 rfl) ?_; intro w3 hown3 hgr3)
              | (at_builtin; refine Kd.Q_append (Kd.int .i64) (w0 := w3) (w.heap.size + 1) rfl (.tmp 43) (.tmp 45) 23 3 (.int .i64 0) 8 rfl Try.underlying23 PGraphTells.info3 rfl (by decide) (by decide) (.slice Av st.2.length cv) st.2 x [.int .i64 x] (fun _ => True) (fun _ => False) rfl rfl rfl (fun _ h => h.elim) (fun _ _ => trivial)
                    (Kd.Q_mono (Kd.Q_grown (Kd.Q_bound hQ) hgr3 (fun k hk e => by injection e with e; have := hk.2.1; omega)) (fun _ _ => trivial)) (Below.refl _ _) (Nat.le_trans hsb hgr3.size) HL.out ?_; intro v4 w4 hQ4 hb4 hgr4 hat4)
              | go_in)
            go_roundw
            case rel =>
              have hQb : some w.heap.size ≠ (Value.slice Av st.2.length cv).ownBlock := fun e => by have := Kd.Q_base hQ _ e.symm; omega
              refine ⟨j + 1, by omega, by go_num, Lib.hid ?_⟩
              rw [HNX.out]
              unfold add1
              rw [if_neg hin]
              rw [gmap_put] at hown3
              refine ⟨own_lenI (hown3.kept hgr4 hQb), hQ4, ?_⟩
              have h1 : Below w.heap.size w w3 := HB.out.grown hgr3 HB.out.size (fun k e => by injection e with e; omega)
              exact h1.grown hgr4 h1.size (fun k e => by have := Kd.Q_base hQ _ e; omega)
            case measure => simp [intOf]; omega
        · obtain rfl : j = R.length := by omega
          have hs := HJ.out
          rw [List.take_length] at hs
          have hwj := HWL.out R.length
          rw [List.take_length] at hwj
          have hsz1 := hwj.size
          have hme := addN_meas (st := (m, ts)) HW.out.tail hRf
          have hrun' := HRU.out.step
          rw [← HRR.out] at hrun'
          have HHS := Lib.hid hs
          have HR' := Lib.hid hrun'
          have HME := Lib.hid hme
          clear hs hwj hrun' hme HJ
          go_wp2
          go_step3
          refine ⟨rfl, _, ?_, _, _, _, _, _, _, _, _, _, _, _, _, _, _, _, _, _, _, _, _, _, _, _, _, _, _, _, _, _, _, _, _, _, _, _, _, _, _, _, _, _, _, _, _, _, _, _, rfl, HR'.out, rfl, HHS.out⟩
          rw [HME.out, HN.out]
          simp
  · intro hpass
    go_wp2_with (first
      | (go_at_call 36; refine (clone_any A c on _ (ReadsInt.below hR (below_alloc (Below.refl _ _) _)) hl).mono ?_; rintro e w2 ⟨v2, rfl, ho2, hb2⟩)
      | go_in)
    go_step3
    rename_i K hK
    refine hK _ _ (hpass (on.length + (1024 - 0)) _ _ ?_)
    have hb0 : Below w.heap.size w (w.alloc (.map #[] 0)) := below_alloc (Below.refl _ _) _
    have hsz1 : (w.alloc (.map #[] 0)).heap.size = w.heap.size + 1 := by simp
    have hmade : (w.alloc (.map #[] 0)).ownsMap Try.prog 3 (plainElem Try.prog 3) w.heap.size 0 (iz []) := World.ownsMap_made _ _ _ _
    refine ⟨[], on, v2, _, _, _, _, _, _, _, _, _, _, _, _, _, _, _, _, _, _, _, _, _, _, _, _, _, _, _, _, _, _, _, _, _, _, _, _, _, _, _, _, _, _, _, _, rfl, .start, rfl, own_I_below hmade hb2, Kd.Q_of_R (Kd.R_of_own (enc := Value.int .i64) (h1 := fun _ => rfl) (hsz1 ▸ ho2) (fun _ _ => trivial)), below_step hb0 hb2⟩

end Go.Proofs.Ytdloopgdohjedaa
