/-
  Graph: GraphBehind: the walk.
-/
import Derived.Test.YtdloopgdohjedaaGsA
import Derived.BigQuiet
import Derived.IntWalk
import Derived.Deep.QuietTactic
set_option linter.unusedVariables false
set_option linter.unusedSimpArgs false
namespace Go.Proofs.Ytdloopgdohjedaa
open Go.RowKit Go.Maps Go.Shelf Go.Proofs.YtdloopgdohjedaaW.PrintWords PGraphTells

def YesB (w : World) (e : Ending) (w' : World) : Prop := e = .returned (.bool true) ∧ Below w.heap.size w w'

/-- What lies there in all loops: the links, the graph, the rows. -/
structure BH (w W : World) (A : Option Addr) (l : List S41) (b : Nat) (Ao : Option Addr) (out : List Int) (Ac : Option Addr) (cy : List Int) (An : Option Addr) (ns : List Int) : Prop where
  links : Kd.C k41 W A l.length l
  gr : Gr W b (G1 l) (G2 l)
  out : ReadsInt W .i64 Ao out.length out
  cyc : ReadsInt W .i64 Ac cy.length cy
  nds : ReadsInt W .i64 An ns.length ns
  below : Below w.heap.size w W
theorem BH.later {w W W' : World} {A : Option Addr} {l : List S41} {b : Nat} {Ao : Option Addr} {out : List Int} {Ac : Option Addr} {cy : List Int} {An : Option Addr} {ns : List Int} (h : BH w W A l b Ao out Ac cy An ns) (hb : Below W.heap.size W W') : BH w W' A l b Ao out Ac cy An ns :=
  ⟨Kd.C_below h.links hb, h.gr.later hb, ReadsInt.below h.out hb, ReadsInt.below h.cyc hb, ReadsInt.below h.nds hb, below_step h.below hb⟩

set_option maxRecDepth 100000 in
set_option maxHeartbeats 8000000 in
theorem behind_any (A : Option Addr) (c : Nat) (l : List S41) (n : Int) (w : World) (hC : Kd.C k41 w A l.length l) (hc : l.length ≤ c) (hn : (Lit.int .u16 n).wf = true) :
    Calls Try.prog 4 #[.slice A l.length c, .int .u16 n] w (YesB w) := by
  have hF := fits_any hC hc
  cases hfit : fitsB l with
  | false =>
    rw [hfit] at hF
    have HF := Lib.hid hF
    clear hF hfit hC
    go_enter Try.func4, Try.ntmps4
    go_wp2_with fail
    refine HF.out.mono ?_
    rintro e w1 ⟨rfl, hb1⟩
    go_wp2_with fail
    refine (alive_any _).mono ?_
    rintro e w2 ⟨rfl, hb2⟩
    go_wp2_with fail
    go_ret
    exact ⟨rfl, below_step hb1 hb2⟩
  | true =>
    rw [hfit] at hF
    have HF := Lib.hid hF
    have hlen : l.length ≤ 60 ∧ ∀ x ∈ l, x.f1.length ≤ 60 := by
      unfold fitsB at hfit
      simp only [Bool.and_eq_true, decide_eq_true_eq, List.all_eq_true] at hfit
      exact hfit
    have HLEN := Lib.hid hlen
    have hll := hlen.1
    have HC := Lib.hid hC
    clear hF hfit hC hlen
    go_enter Try.func4, Try.ntmps4
    go_wp2_with fail
    refine HF.out.mono ?_
    rintro e w1 ⟨rfl, hb1⟩
    clear HF
    have HB1 := Lib.hid hb1
    go_wp2_with fail
    refine (new_any A c l w1 (Kd.C_below HC.out hb1) HLEN.out.1 HLEN.out.2).mono ?_
    rintro e w2 ⟨hcase, hb2⟩
    have HB2 := Lib.hid (below_step hb1 hb2)
    have HC2 := Lib.hid (Kd.C_below (Kd.C_below HC.out hb1) hb2)
    clear HC hb1 hb2 HB1
    rcases hcase with ⟨h1, rfl⟩ | ⟨h1, h2, rfl⟩ | ⟨h1, h2, b, rfl, hbb, hg⟩
    · clear h1
      go_wp2_with fail
      refine (alive_any _).mono ?_
      rintro e w5 ⟨rfl, hb5⟩
      have HB5 := Lib.hid (below_step HB2.out hb5)
      clear hb5
      go_wp2_with fail
      go_ret
      exact ⟨rfl, HB5.out⟩
    · clear h1 h2
      go_wp2_with fail
      refine (alive_any _).mono ?_
      rintro e w5 ⟨rfl, hb5⟩
      have HB5 := Lib.hid (below_step HB2.out hb5)
      clear hb5
      go_wp2_with fail
      go_ret
      exact ⟨rfl, HB5.out⟩
    · have hnd := nodup_of_dup h2
      have hG := good_G h1 HLEN.out.1
      obtain ⟨p, hp⟩ : ∃ p : Int → Bool, ∀ n, p n = true ↔ HangP (G2 l) [n] n := ⟨fun n => @decide _ (Classical.propDecidable (HangP (G2 l) [n] n)), fun n => by simp⟩
      have HO := Lib.hid (fun W (h : Gr W b (G1 l) (G2 l)) => order_any b (G1 l) (G2 l) W h hG (inv_G hnd) (rd1_len hnd HLEN.out.2) (fun x y hy => by
        obtain ⟨z, hz, _, h⟩ := (rd1_G1 hnd x y).1 hy
        exact (okL_mem h1 hz).2 y h) p hp _ rfl)
      have HCY := Lib.hid (fun W (h : Gr W b (G1 l) (G2 l)) => cyclic_any b (G1 l) (G2 l) W h hG p hp)
      have HH := Lib.hid (fun W x (h : Gr W b (G1 l) (G2 l)) (hx : fitB x = true) => hang_any b (G1 l) (G2 l) (some ⟨W.heap.size, 0, none⟩) 1 [x] (W.alloc (.cells #[.int .i64 x] 3)) (h.later (below_alloc (Below.refl _ _) _)) (ri (c_new W [x] (by simp) (by simp))) (by simp) (by simpa using fit_wf hx) hG.fit)
      have HN := Lib.hid (fun W (h : Gr W b (G1 l) (G2 l)) => nodes_any b (G1 l) (G2 l) W h hG.rise hG.len)
      have HP := Lib.hid hp
      have HX := Lib.hid hG
      have H1 := Lib.hid h1
      have HND := Lib.hid hnd
      have HG := Lib.hid hg
      have HKL := Lib.hid (keys_len hnd)
      clear h1 h2 hnd hG hp hg hbb
      go_wp2_with fail
      refine (HO.out _ HG.out).mono ?_
      rintro e w3 ⟨wt, out, hru, hrow⟩
      have HOB := Lib.hid (ordB_of H1.out HND.out HLEN.out.2 p HP.out hru)
      obtain ⟨A3, c3, rfl, hc3, hC3, hb3⟩ := row_reads hrow
      have HB3 := Lib.hid (below_step HB2.out hb3)
      have HG3 := Lib.hid (HG.out.later hb3)
      have HC3 := Lib.hid (Kd.C_below HC2.out hb3)
      have HR3 := Lib.hid hC3
      clear hru hrow hC3 hb3 HB2 HG HC2 HO
      go_wp2_with fail
      refine (HCY.out _ HG3.out).mono ?_
      intro e w4 hrow
      obtain ⟨cy, hcy⟩ : ∃ cy, cy = (keysM (G1 l)).filter p := ⟨_, rfl⟩
      rw [← hcy] at hrow
      obtain ⟨A4, c4, rfl, hc4, hC4, hb4⟩ := row_reads hrow
      have HCYE := Lib.hid hcy
      have HB4 := Lib.hid (below_step HB3.out hb4)
      have HG4 := Lib.hid (HG3.out.later hb4)
      have HC4 := Lib.hid (Kd.C_below HC3.out hb4)
      have HR4 := Lib.hid (Kd.C_below HR3.out hb4)
      have HS4 := Lib.hid hC4
      clear hrow hC4 hb4 HB3 HG3 HC3 HR3 HCY hcy
      go_wp2_with fail
      refine (HN.out _ HG4.out).mono ?_
      intro e w5 hrow
      obtain ⟨ns, hns⟩ : ∃ ns, ns = keysM (G1 l) := ⟨_, rfl⟩
      rw [← hns] at hrow
      obtain ⟨A5, c5, rfl, hc5, hC5, hb5⟩ := row_reads hrow
      have HNSE := Lib.hid hns
      have HBH : Hid (BH w w5 A l b A3 out A4 cy A5 ns) := Lib.hid ⟨Kd.C_below HC4.out hb5, HG4.out.later hb5, ri (Kd.C_below HR4.out hb5), ri (Kd.C_below HS4.out hb5), ri hC5, below_step HB4.out hb5⟩
      have e1 : ns.length = l.length := by rw [hns]; exact HKL.out
      have e2 : out.length + cy.length = l.length := by rw [HCYE.out]; exact HOB.out.len
      have hd1 : ((ns.length : Int) != (l.length : Int)) = false := by rw [e1]; simp
      have hd2 : (((out.length : Int) + (cy.length : Int)) != (l.length : Int)) = false := by rw [← e2]; simp
      have ho60 : out.length ≤ 60 := by omega
      have hcy60 : cy.length ≤ 60 := by omega
      have hns60 : ns.length ≤ 60 := by omega
      clear hrow hC5 hb5 HB4 HG4 HC4 HR4 HS4 HN hns e1 e2
      go_wp2_with fail
      go_loopw [11] (fun i W => ∃ k : Nat, k ≤ l.length ∧ i = .int .i64 k ∧ Hid (BH w W A l b A3 out A4 cy A5 ns)) (fun i _ => l.length - (intOf i).toNat)
      case atStart => exact ⟨0, Nat.zero_le _, rfl, HBH⟩
      case round =>
        obtain ⟨k, hk, rfl, HB⟩ := hrel
        obtain ⟨W1, hW1⟩ : ∃ W1 : World, W1 = wr := ⟨_, rfl⟩
        subst hW1
        clear HBH
        by_cases hlt : k < l.length
        · have hbh := HB.out
          obtain ⟨ad, B1, d1, rfl, h0, h1, hd1', hR1⟩ := at_T41 hbh.links (k : Int) (by omega) (by omega)
          rw [Int.toNat_natCast] at h0 h1
          have hm : rd_T41 l (k : Int) ∈ l := by rw [rd41_at hlt]; exact List.getElem_mem hlt
          obtain ⟨y, hy⟩ : ∃ y, y = rd_T41 l (k : Int) := ⟨_, rfl⟩
          rw [← hy] at hm h0 h1 hR1 hd1'
          have hfy := okL_mem H1.out hm
          have hyk : y.f0 ∈ keysM (G1 l) := (G1_keys l y.f0).2 ⟨y, hm, rfl⟩
          have hoy := HOB.out.mem y.f0 hyk
          have hcy' : y.f0 ∈ cy ↔ p y.f0 = true := by rw [HCYE.out, List.mem_filter]; exact ⟨fun h => h.2, fun h => ⟨hyk, h⟩⟩
          have hny : 0 ≤ idx ns y.f0 := idx_mem.2 (by rw [HNSE.out]; exact hyk)
          have hself := HP.out y.f0
          have hRl := HLEN.out.2 y hm
          obtain ⟨at_, hat⟩ : ∃ a, a = y.f0 := ⟨_, rfl⟩
          obtain ⟨R, hR⟩ : ∃ R, R = y.f1 := ⟨_, rfl⟩
          have hbeh := HOB.out.behind y hm
          rw [← hat] at hfy h0 hoy hcy' hny hself hbeh
          rw [← hR] at hfy h1 hR1 hd1' hRl hbeh
          have hfa := hfy.1
          have HRF := Lib.hid hfy.2
          have HOY := Lib.hid hoy
          have HCYY := Lib.hid hcy'
          have HSELF := Lib.hid hself
          have HR1 := Lib.hid (ri hR1)
          have HBEH := Lib.hid hbeh
          have HY := Lib.hid hy
          have HAT := Lib.hid hat
          have HRR := Lib.hid hR
          clear hm hfy hoy hcy' hself hR1 hbeh hy hat hR hyk hbh hd1'
          have hpl := idx_lo out at_
          have hrl := idx_lo cy at_
          have hnl := idx_lo ns at_
          have HHO := Lib.hid (has_any A3 c3 out at_ W1 HB.out.out)
          have HHC := Lib.hid (has_any A4 c4 cy at_ W1 HB.out.cyc)
          have HHN := Lib.hid (fun W h => has_any A5 c5 ns at_ W h)
          obtain ⟨nn, hnn⟩ : ∃ nn, nn = idx ns at_ := ⟨_, rfl⟩
          rw [← hnn] at HHN hny hnl
          have hnn' : decide (nn < 0) = false := by simp; omega
          obtain ⟨pl, hplE⟩ : ∃ pl, pl = idx out at_ := ⟨_, rfl⟩
          obtain ⟨rn, hrnE⟩ : ∃ rn, rn = idx cy at_ := ⟨_, rfl⟩
          rw [← hplE] at HHO hpl HBEH
          rw [← hrnE] at HHC hrl
          have hnn2 := hnl.2
          clear hnn hnl
          cases hpat : p at_ with
          | true =>
            have e1 : pl = -1 := by rw [hplE]; exact idx_none (fun h => by have := HOY.out.1 h; rw [hpat] at this; cases this)
            have e2 : 0 ≤ rn := by rw [hrnE]; exact idx_mem.2 (HCYY.out.2 hpat)
            have e3 := HSELF.out.1 hpat
            subst e1
            have e4 : decide (rn < 0) = false := by simp; omega
            have HE3 := Lib.hid e3
            have hrl2 := hrl.2
            clear hplE hrnE hpat hpl e3 hrl
            go_wp2_with fail
            refine HHO.out.mono ?_
            rintro e w' ⟨rfl, rfl⟩
            go_wp2_with fail
            refine HHC.out.mono ?_
            rintro e w' ⟨rfl, rfl⟩
            go_wp2_with fail
            refine (HH.out W1 at_ HB.out.gr hfa).mono ?_
            intro e W2 hh
            obtain ⟨lh, hr, hl, hrow⟩ := hh
            obtain ⟨Al, cl, rfl, hcl, hCl, hbl⟩ := row_reads hrow
            have HB2 := Lib.hid (HB.out.later (below_step (below_alloc (Below.refl _ _) _) hbl))
            have HBL := Lib.hid (below_step (below_alloc (Below.refl _ W1) (.cells #[.int .i64 at_] 3)) hbl)
            have HHL := Lib.hid (has_any Al cl lh at_ W2 (ri hCl))
            obtain ⟨sl, hsl⟩ : ∃ sl, sl = idx lh at_ := ⟨_, rfl⟩
            rw [← hsl] at HHL
            have f1 : 0 ≤ sl := by rw [hsl]; exact idx_mem.2 ((hl at_).2 HE3.out)
            have f2 : sl ≤ 1024 := by
              have := (idx_lo lh at_).2
              have := rise_len hr (fun x hx => hangF2 HX.out ((hl x).1 hx))
              omega
            have f3 : decide (sl < 0) = false := by simp; omega
            clear hr hl hrow hcl hCl hbl hsl
            go_wp2_with fail
            refine HHL.out.mono ?_
            rintro e w' ⟨rfl, rfl⟩
            go_wp2_with fail
            refine (HHN.out _ HB2.out.nds).mono ?_
            rintro e w' ⟨rfl, rfl⟩
            go_wp2_with fail
            go_loopw [16] (fun j W => ∃ kk : Nat, kk ≤ R.length ∧ j = .int .i64 kk ∧ Hid (Below W2.heap.size W2 W)) (fun j _ => R.length - (intOf j).toNat)
            case atStart => exact ⟨0, Nat.zero_le _, rfl, Lib.hid (Below.refl _ _)⟩
            case round =>
              obtain ⟨kk, hkk, rfl, HBW⟩ := hrel
              have h1w := pw_cell_below (below_step HBL.out HBW.out) h1
              by_cases hltk : kk < R.length
              · go_wp2
                go_roundw
                case rel => exact ⟨k + 1, by omega, by go_num, Lib.hid (HB2.out.later HBW.out)⟩
                case measure => simp [intOf]; omega
              · go_wp2
                go_roundw
                case rel => exact ⟨k + 1, by omega, by go_num, Lib.hid (HB2.out.later HBW.out)⟩
                case measure => simp [intOf]; omega
          | false =>
            have hao : at_ ∈ out := HOY.out.2 hpat
            have e1 : 0 ≤ pl := by rw [hplE]; exact idx_mem.2 hao
            have e2 : rn = -1 := by rw [hrnE]; exact idx_none (fun h => by have := HCYY.out.1 h; rw [hpat] at this; cases this)
            have e3 : ¬ HangP (G2 l) [at_] at_ := fun h => by have := HSELF.out.2 h; rw [hpat] at this; cases this
            subst e2
            have e4 : decide (pl < 0) = false := by simp; omega
            have e5 : decide (pl ≥ 0) = true := by simp; omega
            have HE3 := Lib.hid e3
            have HAO := Lib.hid hao
            have hpl2 := hpl.2
            clear hplE hrnE hpat hpl e3 hrl hao
            go_wp2_with fail
            refine HHO.out.mono ?_
            rintro e w' ⟨rfl, rfl⟩
            go_wp2_with fail
            refine HHC.out.mono ?_
            rintro e w' ⟨rfl, rfl⟩
            go_wp2_with fail
            refine (HH.out W1 at_ HB.out.gr hfa).mono ?_
            intro e W2 hh
            obtain ⟨lh, hr, hl, hrow⟩ := hh
            obtain ⟨Al, cl, rfl, hcl, hCl, hbl⟩ := row_reads hrow
            have HB2 := Lib.hid (HB.out.later (below_step (below_alloc (Below.refl _ _) _) hbl))
            have HBL := Lib.hid (below_step (below_alloc (Below.refl _ W1) (.cells #[.int .i64 at_] 3)) hbl)
            have HHL := Lib.hid (has_any Al cl lh at_ W2 (ri hCl))
            have f1 : idx lh at_ = -1 := idx_none (fun h => HE3.out ((hl at_).1 h))
            rw [f1] at HHL
            clear hr hl hrow hcl hCl hbl f1
            go_wp2_with fail
            refine HHL.out.mono ?_
            rintro e w' ⟨rfl, rfl⟩
            go_wp2_with fail
            refine (HHN.out _ HB2.out.nds).mono ?_
            rintro e w' ⟨rfl, rfl⟩
            go_wp2_with fail
            go_loopw [16] (fun j W => ∃ kk : Nat, kk ≤ R.length ∧ j = .int .i64 kk ∧ Hid (Below W2.heap.size W2 W)) (fun j _ => R.length - (intOf j).toNat)
            case atStart => exact ⟨0, Nat.zero_le _, rfl, Lib.hid (Below.refl _ _)⟩
            case round =>
              obtain ⟨kk, hkk, rfl, HBW⟩ := hrel
              have h1w := pw_cell_below (below_step HBL.out HBW.out) h1
              by_cases hltk : kk < R.length
              · obtain ⟨adr, rfl, hcr⟩ := ((HR1.out.below HBL.out).below HBW.out).at_ (kk : Int) (by omega) (by omega)
                rw [Int.toNat_natCast] at hcr
                obtain ⟨r, hr⟩ : ∃ r, r = rd R (kk : Int) := ⟨_, rfl⟩
                rw [← hr] at hcr
                have hrR : r ∈ R := by rw [hr]; exact rd_mem hltk
                have hrb := HBEH.out HAO.out r hrR
                have HHR := Lib.hid (has_any A3 c3 out r wr (HB2.out.later HBW.out).out)
                have hrl := idx_lo out r
                obtain ⟨rr, hrr⟩ : ∃ rr, rr = idx out r := ⟨_, rfl⟩
                rw [← hrr] at HHR hrb hrl
                have hrb' : decide (rr ≥ pl) = false := by simp; omega
                have hr1 := hrl.1
                have hr2 := hrl.2
                clear hr hrR hrr hrl
                go_wp2_with (go_at_call 19; refine HHR.out.mono ?_; rintro e w' ⟨rfl, rfl⟩)
                go_roundw
                case rel => exact ⟨kk + 1, by omega, by go_num, HBW⟩
                case measure => simp [intOf]; omega
              · go_wp2
                go_roundw
                case rel => exact ⟨k + 1, by omega, by go_num, Lib.hid (HB2.out.later HBW.out)⟩
                case measure => simp [intOf]; omega
        · obtain rfl : k = l.length := by omega
          have hn2 : 0 ≤ n ∧ n ≤ 65535 := by
            simp [Lit.wf, IntKind.min, IntKind.max, IntKind.signed, IntKind.bits] at hn
            omega
          have hn3 := hn2.1
          have hn4 := hn2.2
          have hfo : fitB (n % 1024) = true := by simp [fitB]; omega
          go_wp2_with fail
          refine (HH.out W1 (n % 1024) HB.out.gr hfo).mono ?_
          intro e W2 hh
          obtain ⟨lh, hr, hl, hrow⟩ := hh
          obtain ⟨Al, cl, rfl, hcl, hCl, hbl⟩ := row_reads hrow
          have HB2 := Lib.hid (HB.out.later (below_step (below_alloc (Below.refl _ W1) (.cells #[.int .i64 (n % 1024)] 3)) hbl))
          have hll2 := rise_len hr (fun x hx => hangF2 HX.out ((hl x).1 hx))
          have HRL := Lib.hid (ri hCl)
          have HRI := Lib.hid hr
          have HHL := Lib.hid hl
          clear hr hl hrow hcl hCl hbl HB
          go_wp2_with fail
          go_loopw [19] (fun i W => ∃ k : Nat, k ≤ lh.length ∧ i = .int .i64 k ∧ Hid (Below W2.heap.size W2 W)) (fun i _ => lh.length - (intOf i).toNat)
          case atStart => exact ⟨0, Nat.zero_le _, rfl, Lib.hid (Below.refl _ _)⟩
          case round =>
            obtain ⟨k, hk, rfl, HBW⟩ := hrel
            obtain ⟨W3, hW3⟩ : ∃ W3 : World, W3 = wr := ⟨_, rfl⟩
            subst hW3
            by_cases hltk : k < lh.length
            · obtain ⟨adh, rfl, hch⟩ := (HRL.out.below HBW.out).at_ (k : Int) (by omega) (by omega)
              rw [Int.toNat_natCast] at hch
              have hcrow := fun j (hj : j < lh.length) => (HRL.out.below HBW.out).at_ (j : Int) (by omega) (by omega)
              obtain ⟨x, hx⟩ : ∃ x, x = rd lh (k : Int) := ⟨_, rfl⟩
              rw [← hx] at hch
              have hxl : x ∈ lh := by rw [hx]; exact rd_mem hltk
              have hxh := (HHL.out x).1 hxl
              have hxf := hangF2 HX.out hxh
              have hxn : x ∈ ns := by
                rw [HNSE.out, G1_keys]
                cases hxh with
                | one _ h => obtain ⟨y, hy, e, _⟩ := (succs_G2 l _ _).1 h; exact ⟨y, hy, e⟩
                | more _ h => obtain ⟨y, hy, e, _⟩ := (succs_G2 l _ _).1 h; exact ⟨y, hy, e⟩
              have HXE := Lib.hid hx
              have HXL := Lib.hid hxl
              have HXH := Lib.hid hxh
              have HXN := Lib.hid hxn
              have HROW := Lib.hid hcrow
              clear hx hxl hxh hxn hcrow
              go_wp2_with fail
              refine (HH.out W3 x (HB2.out.later HBW.out).gr hxf).mono ?_
              intro e W4 hh
              obtain ⟨lm, hr, hl, hrow⟩ := hh
              obtain ⟨Am, cm, rfl, hcm, hCm, hbm⟩ := row_reads hrow
              have HBM := Lib.hid (below_step HBW.out (below_step (below_alloc (Below.refl _ W3) (.cells #[.int .i64 x] 3)) hbm))
              have hlm := rise_len hr (fun x hx => hangF2 HX.out ((hl x).1 hx))
              have HRM := Lib.hid (ri hCm)
              have HLM := Lib.hid (fun z hz => (HHL.out z).2 (hang_trans HXH.out ((hl z).1 hz)))
              clear hr hl hrow hcm hCm hbm hch
              go_wp2_with fail
              go_loopw [21] (fun j W => ∃ kk : Nat, kk ≤ lm.length ∧ j = .int .i64 kk ∧ Hid (Below W4.heap.size W4 W)) (fun j _ => lm.length - (intOf j).toNat)
              case atStart => exact ⟨0, Nat.zero_le _, rfl, Lib.hid (Below.refl _ _)⟩
              case round =>
                obtain ⟨kk, hkk, rfl, HBV⟩ := hrel
                by_cases hltm : kk < lm.length
                · obtain ⟨adm, rfl, hcz⟩ := (HRM.out.below HBV.out).at_ (kk : Int) (by omega) (by omega)
                  rw [Int.toNat_natCast] at hcz
                  obtain ⟨z, hz⟩ : ∃ z, z = rd lm (kk : Int) := ⟨_, rfl⟩
                  rw [← hz] at hcz
                  have hzl : z ∈ lh := HLM.out z (by rw [hz]; exact rd_mem hltm)
                  have HHZ := Lib.hid (has_any (some adh) cl lh z wr ((HRL.out.below HBM.out).below HBV.out))
                  obtain ⟨zz, hzz⟩ : ∃ zz, zz = idx lh z := ⟨_, rfl⟩
                  have hz1 : 0 ≤ zz := by rw [hzz]; exact idx_mem.2 hzl
                  have hz2 : zz ≤ lh.length := by rw [hzz]; exact (idx_lo lh z).2
                  have hz3 : decide (zz < 0) = false := by simp; omega
                  rw [← hzz] at HHZ
                  clear hz hzl hzz
                  go_wp2_with (go_at_call 19; refine HHZ.out.mono ?_; rintro e w' ⟨rfl, rfl⟩)
                  go_roundw
                  case rel => exact ⟨kk + 1, by omega, by go_num, HBV⟩
                  case measure => simp [intOf]; omega
                · obtain rfl : kk = lm.length := by omega
                  have HBX := Lib.hid (below_step HBM.out HBV.out)
                  have hRV := HRL.out.below HBX.out
                  obtain ⟨_, hae, hch⟩ := hRV.at_ (k : Int) (by omega) (by omega)
                  injection hae with hae
                  subst hae
                  rw [Int.toNat_natCast, ← HXE.out] at hch
                  have hcq : ∀ q, Calls Try.prog 19 #[.slice A5 ns.length c5, .int .i64 x] (wr.drewN q) fun e w' => e = .returned (.int .i64 (idx ns x)) ∧ w' = wr.drewN q := fun q =>
                    (has_any A5 c5 ns x (wr.drewN q) (((HB2.out.later HBX.out).nds).below (pw_below_drewN (Below.refl _ _) q))).mono fun e w' ⟨h1, h2⟩ => ⟨h1, h2.symm⟩
                  obtain ⟨xx, hxx⟩ : ∃ xx, xx = idx ns x := ⟨_, rfl⟩
                  have hx1 : 0 ≤ xx := by rw [hxx]; exact idx_mem.2 HXN.out
                  have hx2 : xx ≤ ns.length := by rw [hxx]; exact (idx_lo ns x).2
                  have hx3 : decide (xx < 0) = false := by simp; omega
                  rw [← hxx] at hcq
                  have HCQ := Lib.hid hcq
                  clear hxx hRV hcq
                  by_cases hk0 : k = 0
                  · subst hk0
                    have hch0 : wr.cell? adh = some (.int .i64 x) := by have := hch; rwa [Addr.add_zero'] at this
                    go_wp2
                    go_big_quiet ((go_at_call 19; exact Calls.quiet_of_same (HCQ.out _)))
                    go_wp2
                    go_roundw
                    case rel => exact ⟨0 + 1, by omega, by go_num, Lib.hid (below_step HBX.out (pw_below_drewN (Below.refl _ _) _))⟩
                    case measure => simp [intOf]; omega
                  · obtain ⟨_, hae, hcp⟩ := HROW.out (k - 1) (by omega)
                    injection hae with hae
                    subst hae
                    rw [Int.toNat_natCast] at hcp
                    have hrow2 := (HRL.out.below HBX.out).at_ ((k - 1 : Nat) : Int) (by omega) (by omega)
                    obtain ⟨_, hae, hcv⟩ := hrow2
                    injection hae with hae
                    subst hae
                    rw [Int.toNat_natCast] at hcv
                    obtain ⟨pv, hpv⟩ : ∃ pv, pv = rd lh ((k - 1 : Nat) : Int) := ⟨_, rfl⟩
                    have hlt2 : pv < x := by
                      rw [hpv, HXE.out, rd_at (by omega), rd_at hltk]
                      exact List.pairwise_iff_getElem.1 HRI.out (k - 1) k (by omega) hltk (by omega)
                    have hge : decide (pv ≥ x) = false := by simp; omega
                    rw [← hpv] at hcv
                    have hk1 : decide (0 < k) = true := by simp; omega
                    have hk2 : decide ((0 : Int) < (k : Int)) = true := by simp; omega
                    have hk3 : IntKind.i64.wrap ((k : Int) - 1) = (k : Int) - 1 := IntWalk.i64_in _ (by omega)
                    have hk4 : (0 : Int) ≤ (k : Int) - 1 := by omega
                    have hk5 : ((k : Int) - 1).toNat = k - 1 := by omega
                    clear hpv hcp hk0 HROW
                    go_wp2
                    go_big_quiet ((go_at_call 19; exact Calls.quiet_of_same (HCQ.out _)))
                    go_wp2
                    go_roundw
                    case rel => exact ⟨k + 1, by omega, by go_num, Lib.hid (below_step HBX.out (pw_below_drewN (Below.refl _ _) _))⟩
                    case measure => simp [intOf]; omega
            · obtain rfl : k = lh.length := by omega
              have HB3 := Lib.hid (HB2.out.later HBW.out)
              have HRL3 := Lib.hid (HRL.out.below HBW.out)
              clear HB2 HRL
              go_wp2_with fail
              go_loopw [22] (fun i W => ∃ k : Nat, k ≤ l.length ∧ i = .int .i64 k ∧ Hid (Below W3.heap.size W3 W)) (fun i _ => l.length - (intOf i).toNat)
              case atStart => exact ⟨0, Nat.zero_le _, rfl, Lib.hid (Below.refl _ _)⟩
              case round =>
                obtain ⟨k, hk, rfl, HBU⟩ := hrel
                by_cases hltu : k < l.length
                · have hbh := HB3.out.later HBU.out
                  obtain ⟨ad, B1, d1, rfl, h0, h1, hd1', hR1⟩ := at_T41 hbh.links (k : Int) (by omega) (by omega)
                  rw [Int.toNat_natCast] at h0 h1
                  have hm : rd_T41 l (k : Int) ∈ l := by rw [rd41_at hltu]; exact List.getElem_mem hltu
                  obtain ⟨y, hy⟩ : ∃ y, y = rd_T41 l (k : Int) := ⟨_, rfl⟩
                  rw [← hy] at hm h0 h1 hR1 hd1'
                  have hRl := HLEN.out.2 y hm
                  obtain ⟨at_, hat⟩ : ∃ a, a = y.f0 := ⟨_, rfl⟩
                  obtain ⟨R, hR⟩ : ∃ R, R = y.f1 := ⟨_, rfl⟩
                  have hin : n % 1024 ∈ R → at_ ∈ lh := fun h => (HHL.out at_).2 (.one (List.mem_singleton.2 rfl) ((succs_G2 l _ _).2 ⟨y, hm, hat.symm, by rw [← hR]; exact h⟩))
                  rw [← hat] at h0
                  rw [← hR] at h1 hR1 hd1' hRl
                  have HHR := Lib.hid (has_any B1 d1 R (n % 1024) wr (ri hR1))
                  have HHA := Lib.hid (has_any Al cl lh at_ wr (HRL3.out.below HBU.out))
                  obtain ⟨rr, hrr⟩ : ∃ rr, rr = idx R (n % 1024) := ⟨_, rfl⟩
                  obtain ⟨aa, haa⟩ : ∃ aa, aa = idx lh at_ := ⟨_, rfl⟩
                  rw [← hrr] at HHR
                  rw [← haa] at HHA
                  have hr1 : -1 ≤ rr ∧ rr ≤ 60 := by have := idx_lo R (n % 1024); rw [hrr]; omega
                  have ha1 : -1 ≤ aa ∧ aa ≤ 1024 := by have := idx_lo lh at_; rw [haa]; omega
                  have hr2 := hr1.1
                  have hr3 := hr1.2
                  have ha2 := ha1.1
                  have ha3 := ha1.2
                  have hcase : (decide (rr ≥ 0) = false) ∨ (decide (rr ≥ 0) = true ∧ decide (aa < 0) = false) := by
                    by_cases h : n % 1024 ∈ R
                    · have q1 : 0 ≤ rr := by rw [hrr]; exact idx_mem.2 h
                      have q2 : 0 ≤ aa := by rw [haa]; exact idx_mem.2 (hin h)
                      exact .inr ⟨by simp; omega, by simp; omega⟩
                    · have q1 : rr = -1 := by rw [hrr]; exact idx_none h
                      exact .inl (by simp; omega)
                  clear hm hy hR1 hd1' hat hR hin hrr haa hr1 ha1 hbh
                  rcases hcase with hca | ⟨hca, hcb⟩
                  · go_wp2_with fail
                    refine HHR.out.mono ?_
                    rintro e w' ⟨rfl, rfl⟩
                    go_wp2_with fail
                    go_roundw
                    case rel => exact ⟨k + 1, by omega, by go_num, HBU⟩
                    case measure => simp [intOf]; omega
                  · go_wp2_with fail
                    refine HHR.out.mono ?_
                    rintro e w' ⟨rfl, rfl⟩
                    go_wp2_with fail
                    refine HHA.out.mono ?_
                    rintro e w' ⟨rfl, rfl⟩
                    go_wp2_with fail
                    go_roundw
                    case rel => exact ⟨k + 1, by omega, by go_num, HBU⟩
                    case measure => simp [intOf]; omega
                · have HBZ := Lib.hid ((HB3.out.later HBU.out).below)
                  clear HB3 HRL3 HBU
                  go_wp2_with fail
                  refine (alive_any _).mono ?_
                  rintro e w9 ⟨rfl, hb9⟩
                  have HB9 := Lib.hid (below_step HBZ.out hb9)
                  clear hb9
                  go_wp2_with fail
                  go_ret
                  exact ⟨rfl, HB9.out⟩

end Go.Proofs.Ytdloopgdohjedaa
