/-
  Branch's laws: the walk of BranchOthers.
-/
import Derived.Test.YtfkidokcdagljaaBrL
import Derived.IntWalk
set_option linter.unusedVariables false
set_option linter.unusedSimpArgs false
namespace Go.Proofs.Ytfkidokcdagljaa
open Go.RowKit Go.Maps Go.WideMaps Go.WideElems Go.Sort Go.Shelf Go.Proofs.YtfkidokcdagljaaW.PrintWords PBranchPlays

/-- What the second loop stands on. -/
structure Stand (w1 : World) (t bm : Nat) (m m' : Tb) (A1 A2 : Option Addr) (wc : World) : Prop where
  rel : RelT w1 t bm m' wc
  names : ReadsOf Value.string ByteArray.empty wc A1 m.length (namesB m)
  heads : ReadsOf (Value.int .i64) (0 : Int) wc A2 m.length (headsB m)
theorem stand_of {w1 wr wa wb wc : World} {t bm c1 c2 : Nat} {m m' : Tb} {A1 A2 : Option Addr} (h : RelT w1 t bm m wr) (hv : Kd.R Kd.string 9 wa wr.heap.size (fun k => wr.heap.size ≤ k) (.slice A1 m.length c1) (namesB m)) (hb : Below wr.heap.size wr wa)
    (hv2 : Kd.R (Kd.int .i64) 3 wb wa.heap.size (fun k => wa.heap.size ≤ k) (.slice A2 m.length c2) (headsB m)) (hb2 : Below wa.heap.size wa wb) (hm : Moved wb wc t bm m') (hg : Good m') : Stand w1 t bm m m' A1 A2 wc := by
  have hbm : bm < wr.heap.size := h.2.1.own.lt
  have h1 := Kd.R_grown (Kd.R_below hv hb2) hm.grown (fun k hk e => by injection e with e; omega)
  have h2 := Kd.R_grown hv2 hm.grown (fun k hk e => by injection e with e; have := hb.size; omega)
  obtain ⟨B1, d1, e1, _, r1⟩ := names_reads h1
  obtain ⟨B2, d2, e2, _, r2⟩ := heads_reads h2
  injection e1 with e1
  injection e2 with e2
  subst e1 e2
  exact ⟨relT_moved (relT_below (relT_below h hb) hb2) hm hg, r1, r2⟩
theorem srt_less {m : Tb} (hs : Srt m) {i : Nat} (hi : i + 1 < m.length) : Op.bytesLess (keyB m[i]).toList (keyB m[i + 1]).toList = true := by
  rw [bytesLess_eq, keyB_list, keyB_list]
  have := List.pairwise_iff_getElem.1 hs i (i + 1) (by simp; omega) (by simpa using hi) (by omega)
  simpa using this

set_option maxRecDepth 100000 in
set_option maxHeartbeats 1000000 in
theorem others_any (A : Option Addr) (c : Nat) (l : List S30) (x : S30) (w : World) (hC : Kd.C k30 w A l.length l) (hc : l.length ≤ c) (hl : ∀ y ∈ l, ActOk y) (hx : ActOk x) :
    Calls Try.prog 4 #[.slice A l.length c, .agg #[.int .u8 x.f0, .string x.f1, .int .i64 x.f2]] w (Ends w) := by
  have hbx := boxed_new w x
  have hbel : Below w.heap.size w (w.alloc (.cells #[.int .u8 x.f0, .string x.f1, .int .i64 x.f2] 30)) := (Below.refl _ _).alloc (Nat.le_refl _) _
  have hC' := Kd.C_below hC hbel
  obtain ⟨B, hB⟩ : ∃ B, B = w.heap.size := ⟨_, rfl⟩
  obtain ⟨w0, hw0⟩ : ∃ w0, w0 = w.alloc (.cells #[.int .u8 x.f0, .string x.f1, .int .i64 x.f2] 30) := ⟨_, rfl⟩
  rw [← hw0] at hbx hbel hC'
  have hbx0 : Boxed w0 B x := by rw [hB]; exact hbx
  obtain ⟨r, hr, hfits⟩ := fits_any hC' hc
  have HC := Lib.hid hC'
  have HL := Lib.hid hl
  have HB := Lib.hid hbx0
  clear hC hC' hl hbx hbx0
  obtain ⟨xk, xn, xv⟩ := x
  obtain ⟨hxk, hxn, hxv⟩ := hx
  simp only at hxk hxn hxv
  cases r with
  | false =>
    clear hr
    have HW := Lib.hid hw0
    have HBB := Lib.hid hB
    clear hw0 hB
    go_enter Try.func4, Try.ntmps4
    go_wp2_with fail
    rw [← HW.out, ← HBB.out]
    refine hfits.mono ?_
    rintro e w1 ⟨rfl, hd⟩
    clear hfits
    go_wp2_with fail
    refine (new_any _).mono ?_
    rintro e w2 ⟨rfl, ht, hb, hs2⟩
    clear hs2
    go_wp2_with fail
    refine (alive_any _).mono ?_
    rintro e w3 ⟨rfl, hb3⟩
    go_wp2_with fail
    go_ret
    exact ⟨rfl, below_then hbel (hbel.size) (below_then hd.below hd.below.size (below_then hb hb.size hb3))⟩
  | true =>
    have hlen := hr rfl
    clear hr
    have HW := Lib.hid hw0
    have HBB := Lib.hid hB
    clear hw0 hB
    go_enter Try.func4, Try.ntmps4
    go_wp2_with fail
    rw [← HW.out, ← HBB.out]
    refine hfits.mono ?_
    rintro e w1 ⟨rfl, hd⟩
    clear hfits
    have HC1 := Lib.hid (Kd.C_below HC.out hd.below)
    have HB1 := Lib.hid (HB.out.below hd.below)
    have hbel1 := below_then hbel hbel.size hd.below
    clear hbel hd HC HB
    go_wp2_with fail
    refine (new_any _).mono ?_
    rintro e w2 ⟨rfl, ht, hb, hs2⟩
    have hrel0 : RelT w1 (w1.heap.size + 1) w1.heap.size [] w2 := ⟨good_nil, ht, hb, by omega, Nat.le_refl _⟩
    clear ht hb hs2
    obtain ⟨t, bm, et, ebm⟩ : ∃ t bm, t = w1.heap.size + 1 ∧ bm = w1.heap.size := ⟨_, _, rfl, rfl⟩
    rw [← et, ← ebm] at hrel0
    rw [← et]
    clear et ebm
    go_wp2_with fail
    go_loopw [7] (fun i wr => ∃ (k : Nat) (m : Tb), k ≤ l.length ∧ i = .int .i64 k ∧ Hid (RelT w1 t bm m wr)) (fun i _ => l.length - (intOf i).toNat)
    case atStart => exact ⟨0, [], Nat.zero_le _, rfl, Lib.hid hrel0⟩
    case round =>
      obtain ⟨k, m, hk, rfl, HR⟩ := hrel
      clear hrel0
      have hm := HR.out.1.len
      by_cases hlt : k < l.length
      · obtain ⟨ad, rfl, hc0, hc1, hc2⟩ := act_at HC1.out HR.out.2.2.1 hlt
        have hx := HL.out _ (List.getElem_mem hlt)
        obtain ⟨x, hxe⟩ : ∃ x, x = l[k] := ⟨_, rfl⟩
        rw [← hxe] at hx
        obtain ⟨kd, nm, hv⟩ := x
        have HX := Lib.hid hxe
        clear hxe hc0 hc1 hc2
        obtain ⟨hkd, hnm, hhv⟩ := hx
        simp only at hkd hnm hhv
        have h0 := bounds_u8 hkd
        obtain ⟨hc0, hc1, hc2⟩ := act_more HC1.out HR.out.2.2.1 hlt HX.out
        by_cases h3 : (kd % 5 == 3) = true
        · go_wp2_with fail
          refine (drop_any t bm m nm _ HR.out.2.1 hnm).mono ?_
          rintro e wa ⟨rfl, hta⟩
          have HRC := Lib.hid (relT_moved HR.out hta.moved (good_drop HR.out.1 _))
          clear HR hc0 hc1 hc2 hta h3
          go_wp2_with fail
          go_roundw
          case rel => exact ⟨k + 1, _, by omega, by go_num, HRC⟩
          case measure => simp [intOf]; omega
        · have hlt' : (k : Int) < (l.length : Int) := by omega
          go_wp2_with fail
          go_still_tail 11, (by kernel_rfl)
          have HRD := relT_below HR.out ((Below.refl wr.heap.size wr).drew)
          change wpList _ _ _ _ _ wr.drew
          generalize wr.drew = wd at HRD ⊢
          clear hc0 hc1 hc2
          go_wp2_with fail
          refine (set_any t bm m nm hv _ HRD.2.1 hnm (by unfold maxLen; omega) hhv).mono ?_
          rintro e wa ⟨rfl, hta⟩
          have HRC := Lib.hid (relT_moved HRD hta (good_set HRD.1 _ _))
          clear HR hta h3 HRD
          go_wp2_with fail
          go_roundw
          case rel => exact ⟨k + 1, _, by omega, by go_num, HRC⟩
          case measure => simp [intOf]; omega
      · go_wp2_with fail
        refine (names_any t bm m _ HR.out.2.1 HR.out.1.srt (by omega)).mono ?_
        rintro e wa ⟨v, rfl, hv, hb⟩
        obtain ⟨A1, c1, rfl, hc1, hR1⟩ := names_reads hv
        clear hR1
        have HV1 := Lib.hid hv
        have HRa := Lib.hid (relT_below HR.out hb)
        have HBA := Lib.hid hb
        clear hv hb
        go_wp2_with fail
        refine (heads_any t bm m _ HRa.out.2.1 HRa.out.1.srt (by omega)).mono ?_
        rintro e wb ⟨v, rfl, hv, hb⟩
        obtain ⟨A2, c2, rfl, hc2, hR2⟩ := heads_reads hv
        clear hR2
        have HV2 := Lib.hid hv
        have HBB2 := Lib.hid hb
        have HRb := Lib.hid (relT_below HRa.out hb)
        obtain ⟨_, hx0, hx1, hx2⟩ := HB1.out.below HRb.out.2.2.1
        clear hv hb HRa
        have h0 := bounds_u8 hxk
        simp only at hx0 hx1 hx2
        by_cases h3 : (xk % 5 == 3) = true
        · go_wp2_with fail
          refine (drop_any t bm m xn _ HRb.out.2.1 hxn).mono ?_
          rintro e wc ⟨rfl, hta⟩
          have hA := acted_drop HR.out.1 xn.data.toList xv
          have hta2 := hta.moved
          obtain ⟨me, hme⟩ : ∃ me, me = opDrop m xn.data.toList := ⟨_, rfl⟩
          rw [← hme] at hA hta2
          rw [← hme]
          have HKS := Lib.hid (strKeys_le HRb.out.2.1.own Try.underlying9)
          have HST := Lib.hid (stand_of HR.out HV1.out HBA.out HV2.out HBB2.out hta2 hA.good)
          have HA := Lib.hid hA
          have HS := Lib.hid HR.out.1.srt
          clear HV1 HBA HV2 HBB2 hta hta2 hA hme hx0 hx1 hx2 HRb HR
          obtain ⟨m', e⟩ := me
          simp only at HST HA ⊢
          go_wp2_with fail
          go_loopw [11] (fun i wr => ∃ k : Nat, k ≤ m.length ∧ i = .int .i64 k ∧ Hid (Below wc.heap.size wc wr)) (fun i _ => m.length - (intOf i).toNat)
          case atStart => exact ⟨0, Nat.zero_le _, rfl, Lib.hid (Below.refl _ _)⟩
          case round =>
            obtain ⟨k, hk, rfl, HBR⟩ := hrel
            have HRr := Lib.hid (relT_below HST.out.rel HBR.out)
            obtain ⟨_, hx0, hx1, hx2⟩ := HB1.out.below HRr.out.2.2.1
            simp only at hx0 hx1 hx2
            by_cases hlt : k < m.length
            · obtain ⟨a1, rfl, hcell1⟩ := names_at HST.out.names HBR.out hlt
              obtain ⟨a2, rfl, hcell2⟩ := heads_at HST.out.heads HBR.out hlt
              have hsz : (keyB m[k]).size ≤ maxLen := by
                have := HKS.out m[k].1 (by rw [strKeys_mapOf]; exact List.mem_map.2 ⟨m[k], List.getElem_mem hlt, rfl⟩)
                simpa [keyB, ByteArray.size] using this
              obtain ⟨h0', hh0⟩ : ∃ h0', h0' = m[k].2 := ⟨_, rfl⟩
              obtain ⟨nm, hnm⟩ : ∃ nm, nm = keyB m[k] := ⟨_, rfl⟩
              have hstay := HA.out.stays m[k] (List.getElem_mem hlt)
              have ek : m[k].1 = nm.data.toList := by rw [hnm]; simp [keyB]
              rw [ek, ← hh0] at hstay
              rw [← hnm] at hcell1 hsz
              rw [← hh0] at hcell2
              obtain ⟨x9, r9, h9⟩ : ∃ x r, opHead m' nm.data.toList = (x, r) := ⟨_, _, rfl⟩
              have H9 := Lib.hid h9
              have HSTAY := Lib.hid hstay
              have HNM := Lib.hid hnm
              have HH0 := Lib.hid hh0
              clear hstay ek h9 hnm hh0
              go_wp2_with fail
              refine (head_to HRr.out.2.1 hsz H9.out).mono ?_
              rintro ee wd ⟨rfl, rfl⟩
              by_cases hn : nm = xn
              · subst hn
                by_cases he : e = 0
                · subst he
                  clear hx0 hx2
                  by_cases hk0 : k = 0
                  · subst hk0
                    rw [Addr.add_zero'] at hcell1 hcell2
                    go_wp2_with fail
                    go_big_quiet (fail)
                    go_wp2_with fail
                    go_roundw
                    case rel => exact ⟨0 + 1, by omega, by go_num, Lib.hid (pw_below_drewN HBR.out _)⟩
                    case measure => simp [intOf]; omega
                  · obtain ⟨k1, hk1e⟩ : ∃ k1, k = k1 + 1 := ⟨k - 1, by omega⟩
                    obtain ⟨a3, ea3, hcell3⟩ := names_at HST.out.names HBR.out (show k1 < m.length by omega)
                    injection ea3 with ea3
                    subst ea3
                    obtain ⟨nm1, hnm1⟩ : ∃ nm1, nm1 = keyB m[k1] := ⟨_, rfl⟩
                    have hless : Op.bytesLess nm1.toList nm.toList = true := by subst hk1e; rw [hnm1, HNM.out]; exact srt_less HS.out hlt
                    rw [← hnm1] at hcell3
                    clear hnm1
                    have hk1 : (k1 : Int) < (m.length : Int) := by omega
                    have hk2 : (k : Int) < (m.length : Int) := by omega
                    have hk3 : IntKind.i64.wrap ((k : Int) - 1) = (k1 : Int) := by rw [show (k : Int) - 1 = (k1 : Int) by omega]; exact IntWalk.i64_in _ (by omega)
                    have hk4 : (0 : Int) < (k : Int) := by omega
                    have hk5 : decide (0 < k) = true := by simp; omega
                    have hk6 : decide ((0 : Int) < (k : Int)) = true := by simp; omega
                    clear hk1e hk0
                    go_wp2_with fail
                    go_big_quiet (fail)
                    go_wp2_with fail
                    go_roundw
                    case rel => exact ⟨k + 1, by omega, by go_num, Lib.hid (pw_below_drewN HBR.out _)⟩
                    case measure => simp [intOf]; omega
                · have hstay := HSTAY.out (.inr he)
                  have h9 := H9.out
                  unfold opHead at h9
                  rw [hstay] at h9
                  injection h9 with h91 h92
                  subst h91 h92
                  have he1 : (e == 0) = false := by simpa using he
                  have he2 : (e != 0) = true := by simp [he]
                  clear hstay he
                  clear hx0 hx2
                  by_cases hk0 : k = 0
                  · subst hk0
                    rw [Addr.add_zero'] at hcell1 hcell2
                    go_wp2_with fail
                    go_big_quiet (fail)
                    go_wp2_with fail
                    go_roundw
                    case rel => exact ⟨0 + 1, by omega, by go_num, Lib.hid (pw_below_drewN HBR.out _)⟩
                    case measure => simp [intOf]; omega
                  · obtain ⟨k1, hk1e⟩ : ∃ k1, k = k1 + 1 := ⟨k - 1, by omega⟩
                    obtain ⟨a3, ea3, hcell3⟩ := names_at HST.out.names HBR.out (show k1 < m.length by omega)
                    injection ea3 with ea3
                    subst ea3
                    obtain ⟨nm1, hnm1⟩ : ∃ nm1, nm1 = keyB m[k1] := ⟨_, rfl⟩
                    have hless : Op.bytesLess nm1.toList nm.toList = true := by subst hk1e; rw [hnm1, HNM.out]; exact srt_less HS.out hlt
                    rw [← hnm1] at hcell3
                    clear hnm1
                    have hk1 : (k1 : Int) < (m.length : Int) := by omega
                    have hk2 : (k : Int) < (m.length : Int) := by omega
                    have hk3 : IntKind.i64.wrap ((k : Int) - 1) = (k1 : Int) := by rw [show (k : Int) - 1 = (k1 : Int) by omega]; exact IntWalk.i64_in _ (by omega)
                    have hk4 : (0 : Int) < (k : Int) := by omega
                    have hk5 : decide (0 < k) = true := by simp; omega
                    have hk6 : decide ((0 : Int) < (k : Int)) = true := by simp; omega
                    clear hk1e hk0
                    go_wp2_with fail
                    go_big_quiet (fail)
                    go_wp2_with fail
                    go_roundw
                    case rel => exact ⟨k + 1, by omega, by go_num, Lib.hid (pw_below_drewN HBR.out _)⟩
                    case measure => simp [intOf]; omega
              · have hstay := HSTAY.out (.inl (by intro hh; apply hn; rw [← keyB_mk nm 0, ← keyB_mk xn 0, hh]))
                have h9 := H9.out
                unfold opHead at h9
                rw [hstay] at h9
                injection h9 with h91 h92
                subst h91 h92
                have hn2 : ¬ nm.toList = xn.toList := by
                  intro hh
                  apply hn
                  rw [Lib.toList_data, Lib.toList_data] at hh
                  rw [← keyB_mk nm 0, ← keyB_mk xn 0, hh]
                have hn1 : (nm.toList == xn.toList) = false := by simpa using hn2
                have hn3 : (nm.toList != xn.toList) = true := by simp [hn2]
                clear hstay hn
                clear hx0 hx2
                by_cases hk0 : k = 0
                · subst hk0
                  rw [Addr.add_zero'] at hcell1 hcell2
                  go_wp2_with fail
                  go_big_quiet (fail)
                  go_wp2_with fail
                  go_roundw
                  case rel => exact ⟨0 + 1, by omega, by go_num, Lib.hid (pw_below_drewN HBR.out _)⟩
                  case measure => simp [intOf]; omega
                · obtain ⟨k1, hk1e⟩ : ∃ k1, k = k1 + 1 := ⟨k - 1, by omega⟩
                  obtain ⟨a3, ea3, hcell3⟩ := names_at HST.out.names HBR.out (show k1 < m.length by omega)
                  injection ea3 with ea3
                  subst ea3
                  obtain ⟨nm1, hnm1⟩ : ∃ nm1, nm1 = keyB m[k1] := ⟨_, rfl⟩
                  have hless : Op.bytesLess nm1.toList nm.toList = true := by subst hk1e; rw [hnm1, HNM.out]; exact srt_less HS.out hlt
                  rw [← hnm1] at hcell3
                  clear hnm1
                  have hk1 : (k1 : Int) < (m.length : Int) := by omega
                  have hk2 : (k : Int) < (m.length : Int) := by omega
                  have hk3 : IntKind.i64.wrap ((k : Int) - 1) = (k1 : Int) := by rw [show (k : Int) - 1 = (k1 : Int) by omega]; exact IntWalk.i64_in _ (by omega)
                  have hk4 : (0 : Int) < (k : Int) := by omega
                  have hk5 : decide (0 < k) = true := by simp; omega
                  have hk6 : decide ((0 : Int) < (k : Int)) = true := by simp; omega
                  clear hk1e hk0
                  go_wp2_with fail
                  go_big_quiet (fail)
                  go_wp2_with fail
                  go_roundw
                  case rel => exact ⟨k + 1, by omega, by go_num, Lib.hid (pw_below_drewN HBR.out _)⟩
                  case measure => simp [intOf]; omega
            · obtain rfl : k = m.length := by omega
              have hm16 : (m.length : Int) ≤ 16 := by omega
              have hbz := HRr.out.2.2.1
              obtain ⟨x9, r9, h9⟩ : ∃ x r, opHead m' xn.data.toList = (x, r) := ⟨_, _, rfl⟩
              have H9 := Lib.hid h9
              clear h9
              go_wp2_with fail
              refine (head_to HRr.out.2.1 hxn H9.out).mono ?_
              rintro ee wd ⟨rfl, rfl⟩
              by_cases he : e = 0
              · have hdone := HA.out.done he
                have h9 := H9.out
                unfold opHead at h9
                rw [if_pos rfl] at hdone
                rw [hdone] at h9
                injection h9 with h91 h92
                subst he h91 h92
                clear hdone
                go_wp2_with fail
                refine (alive_any _).mono ?_
                rintro ee we ⟨rfl, hbe⟩
                go_wp2_with fail
                go_ret
                exact ⟨rfl, below_then hbel1 hbel1.size (below_then hbz hbz.size hbe)⟩
              · have he1 : (e == 0) = false := by simpa using he
                have he2 : (e != 0) = true := by simp [he]
                clear he
                go_wp2_with fail
                all_goals
                  refine (alive_any _).mono ?_
                  rintro ee we ⟨rfl, hbe⟩
                  go_wp2_with fail
                  go_ret
                  exact ⟨rfl, below_then hbel1 hbel1.size (below_then hbz hbz.size hbe)⟩
        · go_wp2_with fail
          refine (set_any t bm m xn xv _ HRb.out.2.1 hxn (by unfold maxLen; omega) hxv).mono ?_
          rintro e wc ⟨rfl, hta⟩
          have hA := acted_set HR.out.1 xn xv
          have hta2 := hta
          obtain ⟨me, hme⟩ : ∃ me, me = opSet m xn xv := ⟨_, rfl⟩
          rw [← hme] at hA hta2
          rw [← hme]
          have HKS := Lib.hid (strKeys_le HRb.out.2.1.own Try.underlying9)
          have HST := Lib.hid (stand_of HR.out HV1.out HBA.out HV2.out HBB2.out hta2 hA.good)
          have HA := Lib.hid hA
          have HS := Lib.hid HR.out.1.srt
          clear HV1 HBA HV2 HBB2 hta hta2 hA hme hx0 hx1 hx2 HRb HR
          obtain ⟨m', e⟩ := me
          simp only at HST HA ⊢
          go_wp2_with fail
          go_loopw [11] (fun i wr => ∃ k : Nat, k ≤ m.length ∧ i = .int .i64 k ∧ Hid (Below wc.heap.size wc wr)) (fun i _ => m.length - (intOf i).toNat)
          case atStart => exact ⟨0, Nat.zero_le _, rfl, Lib.hid (Below.refl _ _)⟩
          case round =>
            obtain ⟨k, hk, rfl, HBR⟩ := hrel
            have HRr := Lib.hid (relT_below HST.out.rel HBR.out)
            obtain ⟨_, hx0, hx1, hx2⟩ := HB1.out.below HRr.out.2.2.1
            simp only at hx0 hx1 hx2
            by_cases hlt : k < m.length
            · obtain ⟨a1, rfl, hcell1⟩ := names_at HST.out.names HBR.out hlt
              obtain ⟨a2, rfl, hcell2⟩ := heads_at HST.out.heads HBR.out hlt
              have hsz : (keyB m[k]).size ≤ maxLen := by
                have := HKS.out m[k].1 (by rw [strKeys_mapOf]; exact List.mem_map.2 ⟨m[k], List.getElem_mem hlt, rfl⟩)
                simpa [keyB, ByteArray.size] using this
              obtain ⟨h0', hh0⟩ : ∃ h0', h0' = m[k].2 := ⟨_, rfl⟩
              obtain ⟨nm, hnm⟩ : ∃ nm, nm = keyB m[k] := ⟨_, rfl⟩
              have hstay := HA.out.stays m[k] (List.getElem_mem hlt)
              have ek : m[k].1 = nm.data.toList := by rw [hnm]; simp [keyB]
              rw [ek, ← hh0] at hstay
              rw [← hnm] at hcell1 hsz
              rw [← hh0] at hcell2
              obtain ⟨x9, r9, h9⟩ : ∃ x r, opHead m' nm.data.toList = (x, r) := ⟨_, _, rfl⟩
              have H9 := Lib.hid h9
              have HSTAY := Lib.hid hstay
              have HNM := Lib.hid hnm
              have HH0 := Lib.hid hh0
              clear hstay ek h9 hnm hh0
              go_wp2_with fail
              refine (head_to HRr.out.2.1 hsz H9.out).mono ?_
              rintro ee wd ⟨rfl, rfl⟩
              by_cases hn : nm = xn
              · subst hn
                by_cases he : e = 0
                · subst he
                  clear hx0 hx2
                  by_cases hk0 : k = 0
                  · subst hk0
                    rw [Addr.add_zero'] at hcell1 hcell2
                    go_wp2_with fail
                    go_big_quiet (fail)
                    go_wp2_with fail
                    go_roundw
                    case rel => exact ⟨0 + 1, by omega, by go_num, Lib.hid (pw_below_drewN HBR.out _)⟩
                    case measure => simp [intOf]; omega
                  · obtain ⟨k1, hk1e⟩ : ∃ k1, k = k1 + 1 := ⟨k - 1, by omega⟩
                    obtain ⟨a3, ea3, hcell3⟩ := names_at HST.out.names HBR.out (show k1 < m.length by omega)
                    injection ea3 with ea3
                    subst ea3
                    obtain ⟨nm1, hnm1⟩ : ∃ nm1, nm1 = keyB m[k1] := ⟨_, rfl⟩
                    have hless : Op.bytesLess nm1.toList nm.toList = true := by subst hk1e; rw [hnm1, HNM.out]; exact srt_less HS.out hlt
                    rw [← hnm1] at hcell3
                    clear hnm1
                    have hk1 : (k1 : Int) < (m.length : Int) := by omega
                    have hk2 : (k : Int) < (m.length : Int) := by omega
                    have hk3 : IntKind.i64.wrap ((k : Int) - 1) = (k1 : Int) := by rw [show (k : Int) - 1 = (k1 : Int) by omega]; exact IntWalk.i64_in _ (by omega)
                    have hk4 : (0 : Int) < (k : Int) := by omega
                    have hk5 : decide (0 < k) = true := by simp; omega
                    have hk6 : decide ((0 : Int) < (k : Int)) = true := by simp; omega
                    clear hk1e hk0
                    go_wp2_with fail
                    go_big_quiet (fail)
                    go_wp2_with fail
                    go_roundw
                    case rel => exact ⟨k + 1, by omega, by go_num, Lib.hid (pw_below_drewN HBR.out _)⟩
                    case measure => simp [intOf]; omega
                · have hstay := HSTAY.out (.inr he)
                  have h9 := H9.out
                  unfold opHead at h9
                  rw [hstay] at h9
                  injection h9 with h91 h92
                  subst h91 h92
                  have he1 : (e == 0) = false := by simpa using he
                  have he2 : (e != 0) = true := by simp [he]
                  clear hstay he
                  clear hx0 hx2
                  by_cases hk0 : k = 0
                  · subst hk0
                    rw [Addr.add_zero'] at hcell1 hcell2
                    go_wp2_with fail
                    go_big_quiet (fail)
                    go_wp2_with fail
                    go_roundw
                    case rel => exact ⟨0 + 1, by omega, by go_num, Lib.hid (pw_below_drewN HBR.out _)⟩
                    case measure => simp [intOf]; omega
                  · obtain ⟨k1, hk1e⟩ : ∃ k1, k = k1 + 1 := ⟨k - 1, by omega⟩
                    obtain ⟨a3, ea3, hcell3⟩ := names_at HST.out.names HBR.out (show k1 < m.length by omega)
                    injection ea3 with ea3
                    subst ea3
                    obtain ⟨nm1, hnm1⟩ : ∃ nm1, nm1 = keyB m[k1] := ⟨_, rfl⟩
                    have hless : Op.bytesLess nm1.toList nm.toList = true := by subst hk1e; rw [hnm1, HNM.out]; exact srt_less HS.out hlt
                    rw [← hnm1] at hcell3
                    clear hnm1
                    have hk1 : (k1 : Int) < (m.length : Int) := by omega
                    have hk2 : (k : Int) < (m.length : Int) := by omega
                    have hk3 : IntKind.i64.wrap ((k : Int) - 1) = (k1 : Int) := by rw [show (k : Int) - 1 = (k1 : Int) by omega]; exact IntWalk.i64_in _ (by omega)
                    have hk4 : (0 : Int) < (k : Int) := by omega
                    have hk5 : decide (0 < k) = true := by simp; omega
                    have hk6 : decide ((0 : Int) < (k : Int)) = true := by simp; omega
                    clear hk1e hk0
                    go_wp2_with fail
                    go_big_quiet (fail)
                    go_wp2_with fail
                    go_roundw
                    case rel => exact ⟨k + 1, by omega, by go_num, Lib.hid (pw_below_drewN HBR.out _)⟩
                    case measure => simp [intOf]; omega
              · have hstay := HSTAY.out (.inl (by intro hh; apply hn; rw [← keyB_mk nm 0, ← keyB_mk xn 0, hh]))
                have h9 := H9.out
                unfold opHead at h9
                rw [hstay] at h9
                injection h9 with h91 h92
                subst h91 h92
                have hn2 : ¬ nm.toList = xn.toList := by
                  intro hh
                  apply hn
                  rw [Lib.toList_data, Lib.toList_data] at hh
                  rw [← keyB_mk nm 0, ← keyB_mk xn 0, hh]
                have hn1 : (nm.toList == xn.toList) = false := by simpa using hn2
                have hn3 : (nm.toList != xn.toList) = true := by simp [hn2]
                clear hstay hn
                clear hx0 hx2
                by_cases hk0 : k = 0
                · subst hk0
                  rw [Addr.add_zero'] at hcell1 hcell2
                  go_wp2_with fail
                  go_big_quiet (fail)
                  go_wp2_with fail
                  go_roundw
                  case rel => exact ⟨0 + 1, by omega, by go_num, Lib.hid (pw_below_drewN HBR.out _)⟩
                  case measure => simp [intOf]; omega
                · obtain ⟨k1, hk1e⟩ : ∃ k1, k = k1 + 1 := ⟨k - 1, by omega⟩
                  obtain ⟨a3, ea3, hcell3⟩ := names_at HST.out.names HBR.out (show k1 < m.length by omega)
                  injection ea3 with ea3
                  subst ea3
                  obtain ⟨nm1, hnm1⟩ : ∃ nm1, nm1 = keyB m[k1] := ⟨_, rfl⟩
                  have hless : Op.bytesLess nm1.toList nm.toList = true := by subst hk1e; rw [hnm1, HNM.out]; exact srt_less HS.out hlt
                  rw [← hnm1] at hcell3
                  clear hnm1
                  have hk1 : (k1 : Int) < (m.length : Int) := by omega
                  have hk2 : (k : Int) < (m.length : Int) := by omega
                  have hk3 : IntKind.i64.wrap ((k : Int) - 1) = (k1 : Int) := by rw [show (k : Int) - 1 = (k1 : Int) by omega]; exact IntWalk.i64_in _ (by omega)
                  have hk4 : (0 : Int) < (k : Int) := by omega
                  have hk5 : decide (0 < k) = true := by simp; omega
                  have hk6 : decide ((0 : Int) < (k : Int)) = true := by simp; omega
                  clear hk1e hk0
                  go_wp2_with fail
                  go_big_quiet (fail)
                  go_wp2_with fail
                  go_roundw
                  case rel => exact ⟨k + 1, by omega, by go_num, Lib.hid (pw_below_drewN HBR.out _)⟩
                  case measure => simp [intOf]; omega
            · obtain rfl : k = m.length := by omega
              have hm16 : (m.length : Int) ≤ 16 := by omega
              have hbz := HRr.out.2.2.1
              obtain ⟨x9, r9, h9⟩ : ∃ x r, opHead m' xn.data.toList = (x, r) := ⟨_, _, rfl⟩
              have H9 := Lib.hid h9
              clear h9
              go_wp2_with fail
              refine (head_to HRr.out.2.1 hxn H9.out).mono ?_
              rintro ee wd ⟨rfl, rfl⟩
              by_cases he : e = 0
              · have hdone := HA.out.done he
                have h9 := H9.out
                unfold opHead at h9
                rw [if_neg (by simp)] at hdone
                rw [hdone] at h9
                injection h9 with h91 h92
                subst he h91 h92
                clear hdone
                have h31 : (xk % 5 == 3) = false := by simpa using h3
                have h32 : (xk % 5 != 3) = true := by simp [h31, bne]
                clear h3
                go_wp2_with fail
                refine (alive_any _).mono ?_
                rintro ee we ⟨rfl, hbe⟩
                go_wp2_with fail
                go_ret
                exact ⟨rfl, below_then hbel1 hbel1.size (below_then hbz hbz.size hbe)⟩
              · have he1 : (e == 0) = false := by simpa using he
                have he2 : (e != 0) = true := by simp [he]
                clear he
                go_wp2_with fail
                all_goals
                  refine (alive_any _).mono ?_
                  rintro ee we ⟨rfl, hbe⟩
                  go_wp2_with fail
                  go_ret
                  exact ⟨rfl, below_then hbel1 hbel1.size (below_then hbz hbz.size hbe)⟩

end Go.Proofs.Ytfkidokcdagljaa
