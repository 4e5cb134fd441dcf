/-
  Graph: GraphTells: the walk.
-/
import Derived.Test.YtdloopgdohjedaaGrI
set_option linter.unusedVariables false
set_option linter.unusedSimpArgs false
namespace Go.Proofs.Ytdloopgdohjedaa
open Go.RowKit Go.Maps Go.Shelf Go.Proofs.YtdloopgdohjedaaW.PrintWords PGraphTells

def Yes (w : World) (e : Ending) (w' : World) : Prop := e = .returned (.bool true) ∧ Below w.heap.size w w'

theorem hangF {m1 m2 : GM} (hG : Good m1 m2) {on : List Int} {x : Int} (h : HangP m2 on x) : fitB x = true := by
  cases h with
  | one _ hx => exact hG.fit _ _ hx
  | more _ hx => exact hG.fit _ _ hx

set_option maxRecDepth 100000 in
set_option maxHeartbeats 4000000 in
theorem tells_any (A : Option Addr) (c : Nat) (l : List S41) (B : Option Addr) (d : Nat) (on : List Int) (w : World) (hC : Kd.C k41 w A l.length l) (hc : l.length ≤ c) (hB : (Kd.int .i64).C w B on.length on) (hd : on.length ≤ d) (hon : ∀ x ∈ on, (Lit.int .i64 x).wf = true) :
    Calls Try.prog 3 #[.slice A l.length c, .slice B on.length d] w (Yes w) := by
  have hF := fits_any hC hc
  have hbl := hB.2.1
  cases hfit : fitsB l with
  | false =>
    rw [hfit] at hF
    have HF := Lib.hid hF
    clear hF hfit hC hB
    go_enter Try.func3, Try.ntmps3
    go_wp2_with fail
    refine HF.out.mono ?_
    rintro e w1 ⟨rfl, hb1⟩
    go_wp2_with fail
    refine (alive_any _).mono ?_
    rintro e w2 ⟨rfl, hb2⟩
    go_wp2_with fail
    go_ret
    exact ⟨rfl, below_step hb1 hb2⟩
  | true =>
    rw [hfit] at hF
    have HF := Lib.hid hF
    have hlen : l.length ≤ 60 ∧ ∀ x ∈ l, x.f1.length ≤ 60 := by
      unfold fitsB at hfit
      simp only [Bool.and_eq_true, decide_eq_true_eq, List.all_eq_true] at hfit
      exact hfit
    have HLEN := Lib.hid hlen
    obtain ⟨L, hL⟩ : ∃ L, L = l.map conv := ⟨_, rfl⟩
    have hLl : L.length ≤ 60 ∧ ∀ x ∈ L, x.f1.length ≤ 60 := by
      subst hL
      refine ⟨by simpa using hlen.1, fun x hx => ?_⟩
      obtain ⟨y, hy, rfl⟩ := List.mem_map.1 hx
      exact hlen.2 y hy
    have HLL := Lib.hid hLl
    have HL := Lib.hid hL
    clear hLl hL
    clear hF hfit
    have HC := Lib.hid hC
    have HBB := Lib.hid hB
    clear hC hB
    by_cases hon60 : (60 : Int) < (on.length : Int)
    · go_enter Try.func3, Try.ntmps3
      go_wp2_with fail
      refine HF.out.mono ?_
      rintro e w1 ⟨rfl, hb1⟩
      go_wp2_with fail
      refine (alive_any _).mono ?_
      rintro e w2 ⟨rfl, hb2⟩
      go_wp2_with fail
      go_ret
      exact ⟨rfl, below_step hb1 hb2⟩
    · go_enter Try.func3, Try.ntmps3
      go_wp2_with fail
      refine HF.out.mono ?_
      rintro e w1 ⟨rfl, hb1⟩
      clear HF hlen
      have HB1 := Lib.hid hb1
      go_wp2_with fail
      refine (new_any A c l w1 (Kd.C_below HC.out hb1) HLEN.out.1 HLEN.out.2).mono ?_
      rintro e w2 ⟨hcase, hb2⟩
      have HB2 := Lib.hid (below_step hb1 hb2)
      have HOF := Lib.hid (of_any HL.out (Kd.C_below (Kd.C_below HC.out hb1) hb2) hc (by have := HLEN.out.1; omega))
      rcases hcase with ⟨h1, rfl⟩ | ⟨h1, h2, rfl⟩ | ⟨h1, h2, b, rfl, hbb, hg⟩
      · have hm := mayR_bad h1
        have HM := Lib.hid hm
        clear h1 hb1 hb2 hm
        go_wp2_with fail
        refine HOF.out.mono ?_
        rintro e w3 ⟨A3, c3, rfl, hc3, hC3, hb3⟩
        have HMY := Lib.hid (may_any HL.out hC3 hc3 HLEN.out.1 HLEN.out.2)
        have HB3 := Lib.hid (below_step HB2.out hb3)
        clear hc3 hC3 hb3
        go_wp2_with fail
        refine HMY.out.mono ?_
        rintro e w4 ⟨rfl, hb4⟩
        rw [HM.out]
        have HB4 := Lib.hid (below_step HB3.out hb4)
        clear hb4 HMY
        go_wp2_with fail
        refine (alive_any _).mono ?_
        rintro e w5 ⟨rfl, hb5⟩
        have HB5 := Lib.hid (below_step HB4.out hb5)
        clear hb5
        go_wp2_with fail
        go_ret
        exact ⟨rfl, HB5.out⟩
      · have hm := mayR_dup h1 h2
        have HM := Lib.hid hm
        clear h1 h2 hb1 hb2 hm
        go_wp2_with fail
        refine HOF.out.mono ?_
        rintro e w3 ⟨A3, c3, rfl, hc3, hC3, hb3⟩
        have HMY := Lib.hid (may_any HL.out hC3 hc3 HLEN.out.1 HLEN.out.2)
        have HB3 := Lib.hid (below_step HB2.out hb3)
        clear hc3 hC3 hb3
        go_wp2_with fail
        refine HMY.out.mono ?_
        rintro e w4 ⟨rfl, hb4⟩
        rw [HM.out]
        have HB4 := Lib.hid (below_step HB3.out hb4)
        clear hb4 HMY
        go_wp2_with fail
        refine (alive_any _).mono ?_
        rintro e w5 ⟨rfl, hb5⟩
        have HB5 := Lib.hid (below_step HB4.out hb5)
        clear hb5
        go_wp2_with fail
        go_ret
        exact ⟨rfl, HB5.out⟩
      · have hm := mayR_ok h1 h2
        have hnd := nodup_of_dup h2
        have hG := good_G h1 HLEN.out.1
        obtain ⟨p, hp⟩ : ∃ p : Int → Bool, ∀ n, p n = true ↔ HangP (G2 l) [n] n := ⟨fun n => @decide _ (Classical.propDecidable (HangP (G2 l) [n] n)), fun n => by simp⟩
        have hpR : ∀ n, p n = true ↔ HangR L [n] n := fun n => by rw [hp, hang_same, HL.out]
        have hkn : keysM (G1 l) = nodesR L := by rw [HL.out]; exact keys_nodes h1
        have HO := Lib.hid (fun W (h : Gr W b (G1 l) (G2 l)) => order_any b (G1 l) (G2 l) W h hG (inv_G hnd) (rd1_len hnd HLEN.out.2) (fun x y hy => by
          obtain ⟨z, hz, _, h⟩ := (rd1_G1 hnd x y).1 hy
          exact (okL_mem h1 hz).2 y h) p hp _ rfl)
        have HCY := Lib.hid (fun W (h : Gr W b (G1 l) (G2 l)) => cyclic_any b (G1 l) (G2 l) W h hG p hp)
        have HH := Lib.hid (fun W (h : Gr W b (G1 l) (G2 l)) hR => hang_any b (G1 l) (G2 l) B d on W h hR (by omega) hon hG.fit)
        have HN := Lib.hid (fun W (h : Gr W b (G1 l) (G2 l)) => nodes_any b (G1 l) (G2 l) W h hG.rise hG.len)
        have HM := Lib.hid hm
        have HP := Lib.hid hp
        have HPR := Lib.hid hpR
        have HK := Lib.hid hkn
        have HG := Lib.hid hg
        have HX := Lib.hid hG
        have H1 := Lib.hid h1
        have HND := Lib.hid hnd
        have hkl : (keysM (G1 l)).length ≤ 100000 := by have := hG.len; simp [keysM]; omega
        clear h1 h2 hb1 hb2 hm hnd hG hp hpR hkn hg hbb hon
        go_wp2_with fail
        refine HOF.out.mono ?_
        rintro e w3 ⟨A3, c3, rfl, hc3, hC3, hb3⟩
        have HMY := Lib.hid (may_any HL.out hC3 hc3 HLEN.out.1 HLEN.out.2)
        have HB3 := Lib.hid (below_step HB2.out hb3)
        have HG3 := Lib.hid (HG.out.later hb3)
        have HC3 := Lib.hid hC3
        have hc3' := Lib.hid hc3
        clear hc3 hC3 hb3 HOF HG
        go_wp2_with fail
        refine HMY.out.mono ?_
        rintro e w4 ⟨rfl, hb4⟩
        rw [HM.out]
        have HB4 := Lib.hid (below_step HB3.out hb4)
        have HG4 := Lib.hid (HG3.out.later hb4)
        have HC4 := Lib.hid (Kd.C_below HC3.out hb4)
        clear hb4 HMY HB3 HG3 HC3
        go_wp2_with fail
        refine (HN.out _ HG4.out).mono ?_
        intro e w5 hrow
        obtain ⟨A5, c5, rfl, hc5, hC5, hb5⟩ := row_reads hrow
        have HB5 := Lib.hid (below_step HB4.out hb5)
        have HG5 := Lib.hid (HG4.out.later hb5)
        have HC5 := Lib.hid (Kd.C_below HC4.out hb5)
        have HR5 := Lib.hid hC5
        have HL5 := Lib.hid hc5
        clear hrow hC5 hb5 hc5 HB4 HG4 HC4
        go_wp2_with fail
        refine (rnodes_any HC5.out hc3'.out HLL.out.1).mono ?_
        rw [← HK.out]
        rintro e w6 ⟨A6, c6, rfl, hc6, hC6, hb6⟩
        have HI := Lib.hid (ints_any _ (Kd.C_below HR5.out hb6) HL5.out hC6 hc6 hkl)
        have HB6 := Lib.hid (below_step HB5.out hb6)
        have HG6 := Lib.hid (HG5.out.later hb6)
        have HC6 := Lib.hid (Kd.C_below HC5.out hb6)
        clear hC6 hb6 hc6 HB5 HG5 HC5 HR5 HL5
        go_wp2_with fail
        refine HI.out.mono ?_
        rintro e w7 ⟨rfl, hb7⟩
        have HB7 := Lib.hid (below_step HB6.out hb7)
        have HG7 := Lib.hid (HG6.out.later hb7)
        have HC7 := Lib.hid (Kd.C_below HC6.out hb7)
        clear hb7 HI HB6 HG6 HC6
        go_wp2_with fail
        refine (HCY.out _ HG7.out).mono ?_
        intro e w8 hrow
        obtain ⟨A8, c8, rfl, hc8, hC8, hb8⟩ := row_reads hrow
        have HB8 := Lib.hid (below_step HB7.out hb8)
        have HG8 := Lib.hid (HG7.out.later hb8)
        have HC8 := Lib.hid (Kd.C_below HC7.out hb8)
        have HR8 := Lib.hid hC8
        have HL8 := Lib.hid hc8
        clear hrow hC8 hb8 hc8 HB7 HG7 HC7
        go_wp2_with fail
        refine (HK.out ▸ rcyclic_any HC8.out hc3'.out HLL.out.1 HLL.out.2 p HPR.out).mono ?_
        rintro e w9 ⟨A9, c9, rfl, hc9, hC9, hb9⟩
        have HI := Lib.hid (ints_any _ (Kd.C_below HR8.out hb9) HL8.out hC9 hc9 (Nat.le_trans (List.length_filter_le _ _) hkl))
        have HB9 := Lib.hid (below_step HB8.out hb9)
        have HG9 := Lib.hid (HG8.out.later hb9)
        have HC9 := Lib.hid (Kd.C_below HC8.out hb9)
        clear hC9 hb9 hc9 HB8 HG8 HC8 HR8 HL8
        go_wp2_with fail
        refine HI.out.mono ?_
        rintro e w10 ⟨rfl, hb10⟩
        have HB10 := Lib.hid (below_step HB9.out hb10)
        have HG10 := Lib.hid (HG9.out.later hb10)
        have HC10 := Lib.hid (Kd.C_below HC9.out hb10)
        clear hb10 HI HB9 HG9 HC9
        go_wp2_with fail
        refine (HO.out _ HG10.out).mono ?_
        rintro e w11 ⟨wt, out, hru, hrow⟩
        have hst := oruns_steps H1.out HND.out HLEN.out.2 p hru
        rw [← HL.out] at hst
        have hol : out.length ≤ 2000 := by
          have h1 := nd_le hst.2.2.1 hst.2.2.2
          have h2 : ((keysM (G1 l)).filter fun n => !p n).length ≤ (keysM (G1 l)).length := List.length_filter_le _ _
          have h3 := HX.out.len
          have h4 : (keysM (G1 l)).length = (G1 l).length := by simp [keysM]
          omega
        have HST := Lib.hid hst.1
        have HSZ := Lib.hid (hst.2.1 rfl)
        obtain ⟨A11, c11, rfl, hc11, hC11, hb11⟩ := row_reads hrow
        clear hst hru
        have HB11 := Lib.hid (below_step HB10.out hb11)
        have HG11 := Lib.hid (HG10.out.later hb11)
        have HC11 := Lib.hid (Kd.C_below HC10.out hb11)
        have HR11 := Lib.hid hC11
        have HL11 := Lib.hid hc11
        clear hrow hC11 hb11 hc11 HB10 HG10 HC10
        go_wp2_with fail
        refine (rorder_any HC11.out hc3'.out HLL.out.1 HLL.out.2 p HPR.out out hol HST.out HSZ.out).mono ?_
        rintro e w12 ⟨A12, c12, rfl, hc12, hC12, hb12⟩
        have HI := Lib.hid (ints_any _ (Kd.C_below HR11.out hb12) HL11.out hC12 hc12 (by omega))
        have HB12 := Lib.hid (below_step HB11.out hb12)
        have HG12 := Lib.hid (HG11.out.later hb12)
        have HC12 := Lib.hid (Kd.C_below HC11.out hb12)
        clear hC12 hb12 hc12 HB11 HG11 HC11 HR11 HL11
        go_wp2_with fail
        refine HI.out.mono ?_
        rintro e w13 ⟨rfl, hb13⟩
        have HB13 := Lib.hid (below_step HB12.out hb13)
        have HG13 := Lib.hid (HG12.out.later hb13)
        have HC13 := Lib.hid (Kd.C_below HC12.out hb13)
        clear hb13 HI HB12 HG12 HC12
        go_wp2_with fail
        refine (HH.out _ HG13.out (ri (Kd.C_below HBB.out HB13.out))).mono ?_
        intro e w14 hh
        obtain ⟨lh, hr, hl, hrow⟩ := hh
        have HR := Lib.hid hr
        have hlh : ∀ x, x ∈ lh ↔ HangR L on x := fun x => by rw [hl, hang_same, HL.out]
        have hlf : ∀ x ∈ lh, fitB x = true := fun x hx => hangF HX.out ((hl x).1 hx)
        have hll : lh.length ≤ 1024 := rise_len hr hlf
        have HLH := Lib.hid hlh
        have HLF := Lib.hid hlf
        obtain ⟨A14, c14, rfl, hc14, hC14, hb14⟩ := row_reads hrow
        clear hr hl hlh hlf
        have HB14 := Lib.hid (below_step HB13.out hb14)
        have HG14 := Lib.hid (HG13.out.later hb14)
        have HC14 := Lib.hid (Kd.C_below HC13.out hb14)
        have HR14 := Lib.hid hC14
        have HL14 := Lib.hid hc14
        clear hrow hC14 hb14 hc14 HB13 HG13 HC13
        go_wp2_with fail
        refine (rhang_any HC14.out hc3'.out HLL.out.1 HLL.out.2 on (Kd.C_below HBB.out HB14.out) hd (by omega) lh HR.out HLH.out HLF.out).mono ?_
        rintro e w15 ⟨A15, c15, rfl, hc15, hC15, hb15⟩
        have HI := Lib.hid (ints_any _ (Kd.C_below HR14.out hb15) HL14.out hC15 hc15 (by omega))
        have HB15 := Lib.hid (below_step HB14.out hb15)
        have HG15 := Lib.hid (HG14.out.later hb15)
        have HC15 := Lib.hid (Kd.C_below HC14.out hb15)
        clear hC15 hb15 hc15 HB14 HG14 HC14 HR14 HL14
        go_wp2_with fail
        refine HI.out.mono ?_
        rintro e w16 ⟨rfl, hb16⟩
        have HB16 := Lib.hid (below_step HB15.out hb16)
        have HG16 := Lib.hid (HG15.out.later hb16)
        have HC16 := Lib.hid (Kd.C_below HC15.out hb16)
        clear hb16 HI HB15 HG15 HC15
        go_wp2_with fail
        refine (alive_any _).mono ?_
        rintro e w17 ⟨rfl, hb17⟩
        have HB17 := Lib.hid (below_step HB16.out hb17)
        clear hb17
        go_wp2_with fail
        refine (nodes_nil _).mono ?_
        intro e w18 hrow
        obtain ⟨A18, c18, rfl, hc18, hC18, hb18⟩ := row_reads hrow
        have HB18 := Lib.hid (below_step HB17.out hb18)
        clear hrow hC18 hb18 hc18
        go_wp2_with fail
        refine (cyclic_nil _).mono ?_
        intro e w19 hrow
        obtain ⟨A19, c19, rfl, hc19, hC19, hb19⟩ := row_reads hrow
        have HB19 := Lib.hid (below_step HB18.out hb19)
        clear hrow hC19 hb19 hc19
        go_wp2_with fail
        refine (order_nil _).mono ?_
        intro e w20 hrow
        obtain ⟨A20, c20, rfl, hc20, hC20, hb20⟩ := row_reads hrow
        have HB20 := Lib.hid (below_step HB19.out hb20)
        clear hrow hC20 hb20 hc20
        go_wp2_with fail
        refine (hang_nil _ _ _ _).mono ?_
        intro e w21 hrow
        obtain ⟨A21, c21, rfl, hc21, hC21, hb21⟩ := row_reads hrow
        have HB21 := Lib.hid (below_step (below_alloc HB20.out _) hb21)
        clear hrow hC21 hb21 hc21
        go_wp2_with fail
        go_ret
        exact ⟨rfl, HB21.out⟩

end Go.Proofs.Ytdloopgdohjedaa
