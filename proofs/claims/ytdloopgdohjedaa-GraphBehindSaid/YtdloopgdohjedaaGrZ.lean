/-
  Graph: Order: the walk.
-/
import Derived.Test.YtdloopgdohjedaaGrY
set_option linter.unusedVariables false
set_option linter.unusedSimpArgs false
namespace Go.Proofs.Ytdloopgdohjedaa
open Go.RowKit Go.Maps Go.Shelf Go.Proofs.YtdloopgdohjedaaW.PrintWords PGraphTells

theorem nd_le : ∀ {a b : List Int}, a.Nodup → (∀ x ∈ a, x ∈ b) → a.length ≤ b.length
  | [], _, _, _ => Nat.zero_le _
  | x :: a, b, h, hs => by
    have h1 := List.nodup_cons.1 h
    have hx := hs x (by simp)
    have ih := nd_le (b := b.erase x) h1.2 (fun y hy => (List.mem_erase_of_ne (by rintro rfl; exact h1.1 hy)).2 (hs y (by simp [hy])))
    rw [List.length_erase_of_mem hx] at ih
    have := List.length_pos_of_mem hx
    rw [List.length_cons]
    omega
/-- 'ready[1:]'. -/
theorem cut1b {w : World} {base : Nat} {A : Option Addr} {c : Nat} {t : Int} {ts : List Int} (h : Kd.Q (Kd.int .i64) 3 w base (fun _ => True) (.slice A (t :: ts).length c) (t :: ts)) :
    ∃ A', (∀ W : World, (Instr.slice 23 (.slice A (t :: ts).length c) (some (.int .i64 1)) none none).run Try.prog W = .ok (.slice A' ts.length (c - 1)) W) ∧ Kd.Q (Kd.int .i64) 3 w base (fun _ => True) (.slice A' ts.length (c - 1)) ts ∧ ∀ n c' : Nat, (Value.slice A' n c').ownBlock = (Value.slice A (t :: ts).length c).ownBlock := by
  obtain ⟨i0, hi, hsz⟩ := info3_parts
  have h1 := fun W => cut_from (P := Try.prog) 23 3 .i64 Try.underlying23 hi 1 hsz A (t :: ts).length c 1 (by omega) (by simp; omega) W
  have h2 := Kd.Q_drop (k := 1) h (by simp)
  have e1 : (t :: ts).length - 1 = ts.length := by simp
  have e2 : (t :: ts).drop 1 = ts := rfl
  rw [e1, e2] at h2
  refine ⟨_, fun W => ?_, h2, fun n c' => ?_⟩
  · have := h1 W
    simp only [Int.toNat_one, e1] at this
    exact this
  · split
    · cases A <;> rfl
    · cases A with
      | none => rfl
      | some a => simp [Value.ownBlock]; unfold Addr.add; split <;> rfl
def slen (v : Value) : Nat := match v with | .slice _ n _ => n | _ => 0
/-- What Order answers. -/
def OrderAre (plain : List Int) (m1 m2 : GM) (w : World) (e : Ending) (w' : World) : Prop := ∃ wt out, ORuns plain m1 m2 wt [] out ∧ RowIs out w e w'

set_option maxRecDepth 100000 in
set_option maxHeartbeats 8000000 in
theorem order_any (b : Nat) (m1 m2 : GM) (w : World) (hg : Gr w b m1 m2) (hG : Good m1 m2) (hI : Inv m1 m2) (hrl : ∀ x, (rd1 m1 x).length ≤ 2000) (hrf : ∀ x, ∀ y ∈ rd1 m1 x, fitB y = true) (p : Int → Bool) (hp : ∀ n, p n = true ↔ HangP m2 [n] n) (plain : List Int) (hpl : plain = (keysM m1).filter fun n => !p n) :
    Calls Try.prog 15 #[.pointer (some ⟨b + 1 + 1, 0, none⟩)] w (OrderAre plain m1 m2 w) := by
  have hmm := @run_makeMap Try.prog
  have hlen : (keysM m1).length ≤ 1000 := by simpa [keysM] using hG.len
  have hN := nodes_any b m1 m2 w hg hG.rise hG.len
  have hC := fun W (h : Gr W b m1 m2) => cyclic_any b m1 m2 W h hG p hp
  have HPL := Lib.hid hpl
  clear hpl
  have hfil : ((keysM m1).filter fun x => !((keysM m1).filter p).contains x) = plain := by
    rw [HPL.out]
    refine List.filter_congr fun x hx => ?_
    simp [hx]
  have hD := fun v k W => deleteFunc_any 32 #[.pointer (some ⟨k, 0, none⟩)] (enters_of Try.func32 (by kernel_rfl) rfl) (fun n => ((keysM m1).filter p).contains n) (fun _ => True) w.heap.size v (keysM m1) W (fun _ _ => trivial)
  rw [hfil] at hD
  obtain ⟨cy, hcy⟩ : ∃ cy, cy = (keysM m1).filter p := ⟨_, rfl⟩
  rw [← hcy] at hC hD
  have HCY := Lib.hid hcy
  clear hcy hfil
  go_enter Try.func15, Try.ntmps15
  go_wp2_with (first
    | (go_at_call 11; refine hN.mono ?_; rintro e w1 ⟨v1, rfl, ho1, hb1⟩)
    | (go_at_call 13; refine (hC w1 (hg.later hb1)).mono ?_; rintro e w2 ⟨v2, rfl, ho2, hb2⟩; obtain ⟨A2, c2, rfl, hR2⟩ := own_reads ho2)
    | (go_at_call 28
       have hb3 : Below w2.heap.size w2 (w2.alloc (.cells #[.slice A2 cy.length c2] 23)) := below_alloc (Below.refl _ _) _
       have hlt1 : ∀ j, v1.ownBlock = some j → j < w1.heap.size := own_lt ho1
       refine (hD v1 w2.heap.size (w2.alloc (.cells #[.slice A2 cy.length c2] 23))
         (pred32 w2.heap.size cy A2 c2 _ _ (ReadsInt.below hR2 hb3) (by simp) (fun e => by have := hlt1 _ e.symm; have := hb2.size; omega) (fun ad e1 e2 => by have := own_base ho2 ad.block (by rw [e1]; rfl); have := hlt1 _ e2.symm; omega))
         (by have := hb1.size; have := hb2.size; simp; omega) (pw_own_below (pw_own_below ho1 hb2) hb3) hlen).mono ?_
       rintro e w3 ⟨v3, rfl, ho3, hg3, hv3⟩
       obtain ⟨A3, c3, rfl, hR3⟩ := own_reads ho3)
    | go_in)
  have hw3 : Below w.heap.size w w3 := ((below_alloc (below_step hb1 hb2) _).grown hg3 (by have := hb1.size; have := hb2.size; simp; omega) (fun j hj => own_base ho1 j hj))
  have hg3' := hg.later hw3
  have hpn : plain.Nodup := by rw [HPL.out]; exact (hG.rise.imp (fun h => by omega)).filter _
  have hpf : ∀ x ∈ plain, fitB x = true := by
    intro x hx
    rw [HPL.out] at hx
    exact hG.keys x ((List.mem_filter.1 hx).1)
  have hpl : plain.length ≤ 1000 := by
    rw [HPL.out]
    exact Nat.le_trans (List.length_filter_le _ _) hlen
  have HOS0 : Hid (OS w3 (w3.alloc (.map #[] 0)) [] [] (.slice none 0 0)) := Lib.hid ⟨World.ownsMap_made _ _ _ _, q_of_own (own_nil _ _ _ _), below_alloc (Below.refl _ _) _⟩
  clear hN hC hD ho1 ho2 ho3 hb1 hb2 hg3 hv3 hR2
  have HW3 := Lib.hid hw3
  have HG3 := Lib.hid hg3'
  have HR3 := Lib.hid hR3
  have HPN := Lib.hid hpn
  have HPF := Lib.hid hpf
  clear hw3 hg3' hR3 hpn hpf
  go_loopw [6, 27] (fun vt i W => ∃ k : Nat, k ≤ plain.length ∧ i = .int .i64 k ∧ Hid (OS w3 W (iniN plain m1 (plain.take k)).1 (iniN plain m1 (plain.take k)).2 vt)) (fun _ i _ => plain.length - (intOf i).toNat)
  case atStart => exact ⟨0, Nat.zero_le _, rfl, HOS0⟩
  case round =>
    obtain ⟨k, hk, rfl, HOS⟩ := hrel
    obtain ⟨W1, hW1⟩ : ∃ W1 : World, W1 = wr := ⟨_, rfl⟩
    subst hW1
    by_cases hlt : k < plain.length
    · have hos := HOS.out
      obtain ⟨ad3, rfl, hc3⟩ := (ReadsInt.below HR3.out hos.below).at_ (k : Int) (by omega) (by omega)
      rw [Int.toNat_natCast] at hc3
      obtain ⟨n, hn⟩ : ∃ n, n = rd plain (k : Int) := ⟨_, rfl⟩
      rw [← hn] at hc3
      have hnp : n ∈ plain := by rw [hn]; exact rd_mem hlt
      have hfn := HPF.out n hnp
      have ht0 : W1.cell? ⟨b + 1 + 1, 0, none⟩ = some (.map (some b)) := pw_cell_below hos.below HG3.out.cell0
      obtain ⟨A8, c8, hlook8, hR8⟩ := HG3.out.look1 (fit_wf hfn)
      have hlook := hlook8 W1 (hos.below.block _ (by have := HG3.out.lt; omega))
      obtain ⟨R, hR⟩ : ∃ R, R = rd1 m1 n := ⟨_, rfl⟩
      change (Instr.lookup 44 (.map (some b)) (.int .i64 n) false).run Try.prog W1 = .ok (.slice A8 (rd1 m1 n).length c8) W1 at hlook
      change ReadsInt w3 .i64 A8 (rd1 m1 n).length (rd1 m1 n) at hR8
      rw [← hR] at hlook hR8
      have hRl : R.length ≤ 2000 := by rw [hR]; exact hrl n
      have hRf : ∀ y ∈ R, fitB y = true := by rw [hR]; exact hrf n
      have hsl := len_iniN (plain := plain) (m1 := m1) hrl (plain.take k)
      rw [List.length_take] at hsl
      have hini := ini_is plain m1 (ns := plain.take k) (HPN.out.sublist (List.take_sublist _ _))
      have hz0 : wt0 (iniN plain m1 (plain.take k)).1 n = 0 := by
        rw [hini.wt, if_neg]
        intro hin
        obtain ⟨j, hj, e⟩ := List.mem_iff_getElem.1 hin
        rw [List.length_take] at hj
        rw [List.getElem_take] at e
        have e2 : plain[k] = n := by rw [hn]; simp [rd, List.getD_eq_getElem?_getD, hlt]
        have := (List.getElem_inj (h₀ := by omega) (h₁ := hlt) HPN.out).1 (e.trans e2.symm)
        omega
      have hrsl := hini.len
      rw [List.length_take] at hrsl
      have hrss := hini.srtd
      have hnext : iniN plain m1 (plain.take (k + 1)) = ini1 plain m1 (iniN plain m1 (plain.take k)) n := by
        have e2 : n = plain[k] := by rw [hn]; simp [rd, List.getD_eq_getElem?_getD, hlt]
        rw [List.take_succ_eq_append_getElem hlt, iniN_snoc, e2]
      obtain ⟨st, hst⟩ : ∃ st, st = iniN plain m1 (plain.take k) := ⟨_, rfl⟩
      rw [← hst] at hsl hz0 hrsl hrss hnext HOS
      have HR8 := Lib.hid hR8
      have HN := Lib.hid hn
      have HRR := Lib.hid hR
      have HST := Lib.hid hst
      have HZ0 := Lib.hid hz0
      have HNX := Lib.hid hnext
      have HSS := Lib.hid hrss
      have HRF := Lib.hid hRf
      clear hlook8 hR8 hn hR hst hz0 hnext hrss hini hos hRf
      go_wp2
      go_loopw [38] (fun i W' => ∃ j : Nat, j ≤ R.length ∧ i = .int .i64 j ∧ Hid (OS w3 W' (cntN plain n st.1 (R.take j)) st.2 u6)) (fun i _ => R.length - (intOf i).toNat)
      case atStart => exact ⟨0, Nat.zero_le _, rfl, HOS⟩
      case round =>
        obtain ⟨j, hj, rfl, HJ⟩ := hrel
        by_cases hltj : j < R.length
        · have hos := HJ.out
          obtain ⟨ad8, rfl, hc8⟩ := (ReadsInt.below HR8.out hos.below).at_ (j : Int) (by omega) (by omega)
          rw [Int.toNat_natCast] at hc8
          obtain ⟨x, hx⟩ : ∃ x, x = rd R (j : Int) := ⟨_, rfl⟩
          rw [← hx] at hc8
          have hR3 := ReadsInt.below HR3.out hos.below
          have hcon := fun W => contains_any (some ad3) c3 plain x W
          have hnx := cntN_snoc plain n st.1 R hltj
          rw [← hx] at hnx
          obtain ⟨sm, hsm⟩ : ∃ sm, sm = cntN plain n st.1 (R.take j) := ⟨_, rfl⟩
          have hlen1 := len_cntN plain n (R.take j) st.1
          rw [List.length_take, ← hsm] at hlen1
          have hwv := wt0_cntN plain n n (R.take j) st.1
          rw [if_pos rfl, HZ0.out, ← hsm] at hwv
          have hwb : ((R.take j).filter plain.contains).length ≤ j := Nat.le_trans (List.length_filter_le _ _) (List.length_take_le _ _)
          obtain ⟨wv, hwv2⟩ : ∃ wv, wv = wt0 sm n := ⟨_, rfl⟩
          have hw1 : 0 ≤ wv := by omega
          have hw2 : wv ≤ 2000 := by omega
          rw [← hsm] at hos hnx
          have HOSJ := Lib.hid hos
          have hown := hos.wts
          have HX := Lib.hid hx
          have HNJ := Lib.hid hnx
          have HSM := Lib.hid hsm
          have HWV := Lib.hid hwv2
          have hkn := key3 n hfn
          have hwf1 : (Lit.int .i64 (wv + 1)).wf = true := WalkArith.wf_i64 (by omega)
          have HWF := Lib.hid hwf1
          clear hx hnx hsm hwv hwv2 hwb hos HJ hwf1
          by_cases hin : plain.contains x = true
          · have hcon1 := fun W (h : ReadsInt W .i64 (some ad3) plain.length plain) => hcon W h
            simp only [hin] at hcon1
            have HIN := Lib.hid hin
            clear hcon hin
            go_wp2_with (first
              | (go_at_call 33; refine (hcon1 _ hR3).mono ?_; rintro e w' ⟨rfl, rfl⟩)
              | (at_lookup; refine wpList_lookup_own_int _ rfl _ _ 61 rfl 3 3 .i64 law3 Try.underlying61 Try.underlying3 (zero3 _) w3.heap.size sm.length _ rfl hown _ _ rfl hkn ?_; intro c0 hat hwc; obtain rfl : c0 = wv := (at_iz hat).trans HWV.out.symm; clear hat)
              | (at_mapUpdate; refine wpList_mapUpdate_own _ rfl _ _ _ 61 rfl 3 3 law3 Try.underlying61 (plainElem Try.prog 3) w3.heap.size sm.length _ rfl hown (by unfold maxLen; omega) _ _ _ rfl rfl hkn (ilit (c0 + 1)) [] (plainElem_int Try.underlying3 HWF.out) ?_; intro w4 hown4 hgr4)
              | go_in)
            go_roundw
            case rel =>
              refine ⟨j + 1, by omega, by go_num, Lib.hid ?_⟩
              rw [HNJ.out]
              unfold cnt1
              rw [if_pos HIN.out, ← HWV.out]
              exact HOSJ.out.put hown4 hgr4
            case measure => simp [intOf]; omega
          · have hin' : plain.contains x = false := by simpa using hin
            simp only [hin'] at hcon
            have HIN := Lib.hid hin'
            clear hin hin'
            go_wp2_with (first
              | (go_at_call 33; refine (hcon _ hR3).mono ?_; rintro e w' ⟨rfl, rfl⟩)
              | go_in)
            go_roundw
            case rel =>
              refine ⟨j + 1, by omega, by go_num, Lib.hid ?_⟩
              rw [HNJ.out]
              unfold cnt1
              rw [if_neg (by rw [HIN.out]; simp)]
              exact HOSJ.out
            case measure => simp [intOf]; omega
        · obtain rfl : j = R.length := by omega
          have hos := HJ.out
          rw [List.take_length] at hos
          have hlen1 := len_cntN plain n R st.1
          have hnx := HNX.out
          unfold ini1 at hnx
          rw [← HRR.out] at hnx
          obtain ⟨sm, hsm⟩ : ∃ sm, sm = cntN plain n st.1 R := ⟨_, rfl⟩
          have hwv := wt0_cntN plain n n R st.1
          rw [if_pos rfl, HZ0.out, ← hsm] at hwv
          have hwb : (R.filter plain.contains).length ≤ R.length := List.length_filter_le _ _
          rw [← hsm] at hos hnx hlen1
          obtain ⟨wv, hwv2⟩ : ∃ wv, wv = wt0 sm n := ⟨_, rfl⟩
          rw [← hwv2] at hnx
          have hw1 : 0 ≤ wv := by omega
          have hw2 : wv ≤ 2000 := by omega
          have hown := hos.wts
          have hQ := hos.rdy
          have hsz := hos.lt
          have hkn := key3 n hfn
          have HOSJ := Lib.hid hos
          have HNJ := Lib.hid hnx
          have HSM := Lib.hid hsm
          have HWV := Lib.hid hwv2
          have HQ := Lib.hid hQ
          clear hnx hsm hwv hwv2 hwb hos HJ hQ
          by_cases hz : wv = 0
          · have HZ := Lib.hid hz
            have hzb : (wv == 0) = true := beq_iff_eq.2 hz
            clear hz
            go_wp2_with (first
              | (at_lookup; refine wpList_lookup_own_int _ rfl _ _ 61 rfl 3 3 .i64 law3 Try.underlying61 Try.underlying3 (zero3 _) w3.heap.size sm.length _ rfl hown _ _ rfl hkn ?_; intro c0 hat hwc; obtain rfl : c0 = wv := (at_iz hat).trans HWV.out.symm; clear hat)
              | (go_at_call 34; refine (with_any (w3.heap.size + 1) _ st.2 n _ hsz (by omega) HQ.out HSS.out).mono ?_; rintro e w4 ⟨v4, rfl, hQ4, hg4, hat4⟩)
              | go_in)
            go_roundw
            case rel =>
              refine ⟨k + 1, by omega, by go_num, Lib.hid ?_⟩
              rw [HNJ.out]
              rw [if_pos HZ.out]
              exact HOSJ.out.with_ hQ4 hg4
            case measure => simp [intOf]; omega
          · have HZ := Lib.hid hz
            have hzb : (wv == 0) = false := beq_eq_false_iff_ne.2 hz
            clear hz
            go_wp2_with (first
              | (at_lookup; refine wpList_lookup_own_int _ rfl _ _ 61 rfl 3 3 .i64 law3 Try.underlying61 Try.underlying3 (zero3 _) w3.heap.size sm.length _ rfl hown _ _ rfl hkn ?_; intro c0 hat hwc; obtain rfl : c0 = wv := (at_iz hat).trans HWV.out.symm; clear hat)
              | go_in)
            go_roundw
            case rel =>
              refine ⟨k + 1, by omega, by go_num, Lib.hid ?_⟩
              rw [HNJ.out]
              rw [if_neg HZ.out]
              exact HOSJ.out
            case measure => simp [intOf]; omega
    · obtain rfl : k = plain.length := by omega
      have hos := HOS.out
      rw [List.take_length] at hos
      have hl0 := len_iniN (plain := plain) (m1 := m1) hrl plain
      have HOT0 : Hid (OT w3 W1 (iniN plain m1 plain).1 (iniN plain m1 plain).2 [] u6 (.slice none 0 0)) := Lib.hid ⟨hos, Kd.R_nil _ _ _ _ _, fun k hk => by cases hk⟩
      have HL0 := Lib.hid hl0
      clear hos HOS HOS0 hl0
      go_wp2
      go_loopw [6, 11] (fun vt vo W => ∃ wt rs out, Hid (ORuns plain m1 m2 wt rs out) ∧ Hid (OT w3 W wt rs out vt vo) ∧ wt.length ≤ 2000000 + out.length * 2000 ∧ slen vo = out.length) (fun _ vo _ => plain.length - slen vo)
      case atStart => exact ⟨_, _, _, Lib.hid .start, HOT0, by have := HL0.out; omega, rfl⟩
      case round =>
        obtain ⟨wt, rs, out, HRU, HOT, hwl, hso⟩ := hrel
        obtain ⟨W2, hW2⟩ : ∃ W2 : World, W2 = wr := ⟨_, rfl⟩
        subst hW2
        have hinv := oruns_inv hI HPN.out (fun x => Nat.le_trans (hrl x) (by omega)) HRU.out
        have hol : out.length ≤ plain.length := nd_le hinv.ond hinv.sub
        have hrsl : rs.length ≤ plain.length := nd_le hinv.nodup (fun x hx => ((hinv.mem x).1 hx).1)
        have HINV := Lib.hid hinv
        have HSO := Lib.hid hso
        clear hinv hso
        cases rs with
        | nil =>
          obtain ⟨A6, c6, rfl, hc6, hC6⟩ := Kd.Q_reads (kq_of_q HOT.out.os.rdy)
          clear hC6 hc6
          go_wp2
          go_ret
          refine ⟨wt, out, HRU.out, _, rfl, own_weaken HOT.out.own (by have := HW3.out.size; omega), below_step HW3.out HOT.out.os.below⟩
        | cons t ts =>
          have hQ6 := kq_of_q HOT.out.os.rdy
          obtain ⟨A6, c6, hv6, hc6, hC6⟩ := Kd.Q_reads hQ6
          rw [hv6] at hQ6
          obtain ⟨ad6, hA6, hcell6⟩ := (ri hC6).2.2 (by simp)
          subst hA6
          have hcell0 : W2.cell? ad6 = some (.int .i64 t) := by
            have := hcell6 0 (by simp)
            simpa [Addr.add_zero'] using this
          obtain ⟨A7, hcut, hQ7, hob7⟩ := cut1b hQ6
          have hot7 : OT w3 W2 wt ts out (.slice A7 ts.length (c6 - 1)) u11 := ⟨⟨HOT.out.os.wts, q_of_kq hQ7, HOT.out.os.below⟩, HOT.out.out, fun k hk => by rw [hob7, ← hv6]; exact HOT.out.apart k hk⟩
          have ht1 : W2.cell? ⟨b + 1 + 1, 1, none⟩ = some (.map (some (b + 1))) := pw_cell_below HOT.out.os.below HG3.out.cell1
          have htp : t ∈ plain := ((HINV.out.mem t).1 (by simp)).1
          have hft := HPF.out t htp
          obtain ⟨A8, c8, hlook8, hR8⟩ := HG3.out.look2 (fit_wf hft)
          have hgl := HG3.out.lt
          obtain ⟨N, hN⟩ : ∃ N, N = (t :: ts).length := ⟨_, rfl⟩
          have hN1 : ((0 : Int) < (N : Int)) := by rw [hN]; simp only [List.length_cons]; omega
          rw [← hN] at hcut
          have hcutW := hcut W2
          obtain ⟨R, hRR⟩ : ∃ R, R = succs m2 t := ⟨_, rfl⟩
          rw [← hRR] at hlook8 hR8
          have hRf : ∀ x ∈ R, fitB x = true := by rw [hRR]; exact hG.fit t
          have hRn : R.Nodup := by rw [hRR]; exact hI.snd t
          obtain ⟨Av, cv, hvo, hRv⟩ := own_reads HOT.out.own
          rw [← hN] at hv6
          subst hv6
          have hvo' := Lib.hid hvo
          subst hvo
          have HOT7 := Lib.hid hot7
          have HLK := Lib.hid hlook8
          have HR8 := Lib.hid hR8
          have HRF := Lib.hid hRf
          have HRN := Lib.hid hRn
          have HRR := Lib.hid hRR
          have HN := Lib.hid hN
          have hsz : w3.heap.size + 1 ≤ W2.heap.size := HOT.out.lt
          have HL : Hid ((out.length + 1) * 8 ≤ 140737488355328) := Lib.hid (by omega)
          clear hQ6 hC6 hcell6 hQ7 hob7 hot7 hlook8 hR8 hRf hRn hRR hN hcut hRv HOT hc6 hvo'
          go_wp2_with (first
            | (at_builtin; refine Kd.R_append (Kd.int .i64) (w0 := W2) (w3.heap.size + 1) rfl (.tmp 66) (.tmp 68) 23 3 (.int .i64 0) 8 rfl Try.underlying23 PGraphTells.info3 rfl (by decide) (by decide) (.slice Av out.length cv) out t [.int .i64 t] (fun _ => True) (fun _ => False) rfl rfl rfl (fun _ h => h.elim) (fun _ _ => trivial) HOT7.out.out (Below.refl _ _) hsz HL.out ?_; intro v4 w4 hR4 hb4 hgr4 hat4
               have HOT4 := Lib.hid (HOT7.out.app hR4 hgr4 hat4)
               have ht4 := pw_cell_below HOT4.out.os.below HG3.out.cell1
               have hlook4 := HLK.out w4 (HOT4.out.os.below.block _ (by omega)))
            | go_in)
          obtain ⟨V7, hV7⟩ : ∃ V7, V7 = Value.slice A7 ts.length (c6 - 1) := ⟨_, rfl⟩
          have HV4 := Lib.hid hgr4
          have HAT4 := Lib.hid hat4
          have hwd := fun xs : List Int => len_decN plain xs (wt, ts)
          have hsd := fun xs : List Int => decN_srtd plain xs (wt, ts) (List.pairwise_cons.1 HINV.out.srtd).2
          have HWD := Lib.hid hwd
          have HSD := Lib.hid hsd
          have hRlen : R.length ≤ 1024 := by
            have : R.length ≤ (List.range 1024).length := by
              have h1 := nd_le (a := R) (b := (List.range 1024).map Int.ofNat) HRN.out (fun x hx => by
                have := HRF.out x hx
                simp [fitB] at this
                refine List.mem_map.2 ⟨x.toNat, List.mem_range.2 (by omega), ?_⟩
                show ((x.toNat : Nat) : Int) = x
                omega)
              simpa using h1
            simp at this
            omega
          clear hR4 hb4 hgr4 hat4 hwd hsd hV7 V7 hlook4
          go_loopw [6, 77] (fun vt i W' => ∃ j : Nat, j ≤ R.length ∧ i = .int .i64 j ∧ Hid (OT w3 W' (decN plain (wt, ts) (R.take j)).1 (decN plain (wt, ts) (R.take j)).2 (out ++ [t]) vt v4)) (fun _ i _ => R.length - (intOf i).toNat)
          case atStart => exact ⟨0, Nat.zero_le _, rfl, HOT4⟩
          case round =>
            obtain ⟨j, hj, rfl, HJ⟩ := hrel
            by_cases hltj : j < R.length
            · have hot := HJ.out
              obtain ⟨ad8, rfl, hc8⟩ := (ReadsInt.below HR8.out hot.os.below).at_ (j : Int) (by omega) (by omega)
              rw [Int.toNat_natCast] at hc8
              obtain ⟨x, hx⟩ : ∃ x, x = rd R (j : Int) := ⟨_, rfl⟩
              rw [← hx] at hc8
              have hxR : x ∈ R := by rw [hx]; exact rd_mem hltj
              have hfx := HRF.out x hxR
              have hR3 := ReadsInt.below HR3.out hot.os.below
              have hcon := fun W => contains_any A3 c3 plain x W
              have hnx := decN_snoc plain (wt, ts) R hltj
              rw [← hx] at hnx
              have hlow := HINV.out.low x
              have hwv := decN_wt plain x (R.take j) (wt, ts) (HRN.out.sublist (List.take_sublist _ _))
              have hl1 := HWD.out (R.take j)
              have hs1 := HSD.out (R.take j)
              rw [List.length_take] at hl1
              obtain ⟨st, hst⟩ : ∃ st, st = decN plain (wt, ts) (R.take j) := ⟨_, rfl⟩
              rw [← hst] at hot hnx hwv hl1 hs1
              have hl2 : st.1.length ≤ 5000000 := by
                have h1 : st.1.length ≤ wt.length + min j R.length := hl1
                have h2 : wt.length ≤ 2000000 + out.length * 2000 := hwl
                have h3 : min j R.length ≤ R.length := Nat.min_le_right _ _
                have h4 : out.length ≤ 1000 := Nat.le_trans hol hpl
                exact Nat.le_trans h1 (Nat.le_trans (Nat.add_le_add h2 h3) (by omega))
              have hl3 : st.2.length ≤ 5000 := by
                have h1 : st.2.length ≤ ts.length + (R.take j).length := hs1.2
                have h2 : ts.length + 1 ≤ 1000 := by simp only [List.length_cons] at hrsl; omega
                have h3 : (R.take j).length ≤ 1024 := by rw [List.length_take]; omega
                omega
              have hs2 := hs1.1
              clear hl1 hs1
              obtain ⟨wv, hwv2⟩ : ∃ wv, wv = wt0 st.1 x := ⟨_, rfl⟩
              have hwv3 : wv = wt0 wt x - (if x ∈ R.take j then 1 else 0) := by rw [hwv2, hwv]
              have hw1 : -5000 ≤ wv := by split at hwv3 <;> omega
              have hw2 : wv ≤ 200000 := by split at hwv3 <;> omega
              have hown := hot.os.wts
              have hkx := key3 x hfx
              have hwf1 : (Lit.int .i64 (wv - 1)).wf = true := WalkArith.wf_i64 (by omega)
              have HOTJ := Lib.hid hot
              have HX := Lib.hid hx
              have HNJ := Lib.hid hnx
              have HST := Lib.hid hst
              have HWV := Lib.hid hwv2
              have HWF := Lib.hid hwf1
              have HS2 := Lib.hid hs2
              have HAT : Hid (∀ c0 : Int, ((iz st.1).put (.int .i64 x) (ilit (wv - 1))).atKey (.int .i64 x) (ilit 0) = ilit c0 → c0 = wv - 1) := Lib.hid (fun c0 h => by
                rw [gmap_put] at h
                have := at_iz h
                rw [getM_put, if_pos rfl] at this
                exact this)
              clear hot hx hnx hst hwv hwv2 hwv3 hwf1 hlow hs2 HJ hxR
              by_cases hz : wv - 1 = 0
              · have HZ := Lib.hid hz
                have hzb : ((wv - 1) == 0) = true := beq_iff_eq.2 hz
                clear hz
                have hsz4 := HOTJ.out.lt
                by_cases hin : plain.contains x = true
                · simp only [hin] at hcon
                  have HIN := Lib.hid hin
                  clear hin
                  go_wp2_with (first
                    | (at_lookup; refine wpList_lookup_own_int _ rfl _ _ 61 rfl 3 3 .i64 law3 Try.underlying61 Try.underlying3 (zero3 _) w3.heap.size st.1.length _ rfl hown _ _ rfl hkx ?_; intro c0 hat hwc; obtain rfl : c0 = wv := (at_iz hat).trans HWV.out.symm; clear hat)
                    | (at_mapUpdate; refine wpList_mapUpdate_own _ rfl _ _ _ 61 rfl 3 3 law3 Try.underlying61 (plainElem Try.prog 3) w3.heap.size st.1.length _ rfl hown (by unfold maxLen; omega) _ _ _ rfl rfl hkx (ilit (c0 - 1)) [] (plainElem_int Try.underlying3 HWF.out) ?_; intro w5 hown5 hgr5; have HOT5 := Lib.hid (HOTJ.out.put hown5 hgr5))
                    | (at_lookup; refine wpList_lookup_own_int _ rfl _ _ 61 rfl 3 3 .i64 law3 Try.underlying61 Try.underlying3 (zero3 _) w3.heap.size (st.1.length + 1) _ rfl hown5 _ _ rfl hkx ?_; intro c1 hat hwc1; obtain rfl : c1 = c0 - 1 := HAT.out _ hat; clear hat)
                    | (go_at_call 33; refine (hcon _ (ReadsInt.below HR3.out HOT5.out.os.below)).mono ?_; rintro e w' ⟨rfl, rfl⟩)
                    | (go_at_call 34; refine (with_any (w3.heap.size + 1) _ st.2 x _ HOT5.out.lt hl3 HOT5.out.os.rdy HS2.out).mono ?_; rintro e w6 ⟨v6, rfl, hQ6, hg6, hat6⟩)
                    | go_in)
                  go_roundw
                  case rel =>
                    refine ⟨j + 1, by omega, by go_num, Lib.hid ?_⟩
                    rw [HNJ.out]
                    unfold dec1
                    rw [← HWV.out, if_pos ⟨HZ.out, HIN.out⟩]
                    exact HOT5.out.with_ hQ6 hg6 hat6
                  case measure => simp [intOf]; omega
                · have hin' : plain.contains x = false := by simpa using hin
                  simp only [hin'] at hcon
                  have HIN := Lib.hid hin'
                  clear hin hin'
                  go_wp2_with (first
                    | (at_lookup; refine wpList_lookup_own_int _ rfl _ _ 61 rfl 3 3 .i64 law3 Try.underlying61 Try.underlying3 (zero3 _) w3.heap.size st.1.length _ rfl hown _ _ rfl hkx ?_; intro c0 hat hwc; obtain rfl : c0 = wv := (at_iz hat).trans HWV.out.symm; clear hat)
                    | (at_mapUpdate; refine wpList_mapUpdate_own _ rfl _ _ _ 61 rfl 3 3 law3 Try.underlying61 (plainElem Try.prog 3) w3.heap.size st.1.length _ rfl hown (by unfold maxLen; omega) _ _ _ rfl rfl hkx (ilit (c0 - 1)) [] (plainElem_int Try.underlying3 HWF.out) ?_; intro w5 hown5 hgr5; have HOT5 := Lib.hid (HOTJ.out.put hown5 hgr5))
                    | (at_lookup; refine wpList_lookup_own_int _ rfl _ _ 61 rfl 3 3 .i64 law3 Try.underlying61 Try.underlying3 (zero3 _) w3.heap.size (st.1.length + 1) _ rfl hown5 _ _ rfl hkx ?_; intro c1 hat hwc1; obtain rfl : c1 = c0 - 1 := HAT.out _ hat; clear hat)
                    | (go_at_call 33; refine (hcon _ (ReadsInt.below HR3.out HOT5.out.os.below)).mono ?_; rintro e w' ⟨rfl, rfl⟩)
                    | go_in)
                  go_roundw
                  case rel =>
                    refine ⟨j + 1, by omega, by go_num, Lib.hid ?_⟩
                    rw [HNJ.out]
                    unfold dec1
                    rw [← HWV.out, if_neg (by rw [HIN.out]; simp)]
                    exact HOT5.out
                  case measure => simp [intOf]; omega
              · have HZ := Lib.hid hz
                have hzb : ((wv - 1) == 0) = false := beq_eq_false_iff_ne.2 hz
                clear hz hcon
                go_wp2_with (first
                  | (at_lookup; refine wpList_lookup_own_int _ rfl _ _ 61 rfl 3 3 .i64 law3 Try.underlying61 Try.underlying3 (zero3 _) w3.heap.size st.1.length _ rfl hown _ _ rfl hkx ?_; intro c0 hat hwc; obtain rfl : c0 = wv := (at_iz hat).trans HWV.out.symm; clear hat)
                  | (at_mapUpdate; refine wpList_mapUpdate_own _ rfl _ _ _ 61 rfl 3 3 law3 Try.underlying61 (plainElem Try.prog 3) w3.heap.size st.1.length _ rfl hown (by unfold maxLen; omega) _ _ _ rfl rfl hkx (ilit (c0 - 1)) [] (plainElem_int Try.underlying3 HWF.out) ?_; intro w5 hown5 hgr5; have HOT5 := Lib.hid (HOTJ.out.put hown5 hgr5))
                  | (at_lookup; refine wpList_lookup_own_int _ rfl _ _ 61 rfl 3 3 .i64 law3 Try.underlying61 Try.underlying3 (zero3 _) w3.heap.size (st.1.length + 1) _ rfl hown5 _ _ rfl hkx ?_; intro c1 hat hwc1; obtain rfl : c1 = c0 - 1 := HAT.out _ hat; clear hat)
                  | go_in)
                go_roundw
                case rel =>
                  refine ⟨j + 1, by omega, by go_num, Lib.hid ?_⟩
                  rw [HNJ.out]
                  unfold dec1
                  rw [← HWV.out, if_neg (fun h => HZ.out h.1)]
                  exact HOT5.out
                case measure => simp [intOf]; omega
            · obtain rfl : j = R.length := by omega
              have hot := HJ.out
              rw [List.take_length] at hot
              have hrun' := HRU.out.step
              rw [← HRR.out] at hrun'
              have hl1 := HWD.out R
              have hinv' := oruns_inv hI HPN.out (fun x => Nat.le_trans (hrl x) (by omega)) hrun'
              have hol' : (out ++ [t]).length ≤ plain.length := nd_le hinv'.ond hinv'.sub
              have HOT8 := Lib.hid hot
              have HR' := Lib.hid hrun'
              have HL1 := Lib.hid hl1
              have HOL := Lib.hid hol'
              clear hot hrun' hl1 hinv' hol' HJ
              obtain ⟨Ae, ce, hve, _⟩ := own_reads HOT8.out.own
              have HVE := Lib.hid hve
              clear hve
              go_wp2
              go_roundw
              case rel =>
                refine ⟨_, _, _, HR', HOT8, ?_, ?_⟩
                · have h1 : (decN plain (wt, ts) R).1.length ≤ wt.length + R.length := HL1.out
                  have h2 : wt.length ≤ 2000000 + out.length * 2000 := hwl
                  rw [List.length_append, List.length_singleton]
                  exact Nat.le_trans h1 (Nat.le_trans (Nat.add_le_add h2 hRlen) (by omega))
                · rw [HVE.out]; rfl
              case measure =>
                have := HOL.out
                have e1 := HSO.out
                rw [List.length_append, List.length_singleton] at this
                have e2 : slen v4 = out.length + 1 := by rw [HVE.out]; simp [slen]
                omega

end Go.Proofs.Ytdloopgdohjedaa
