/-
  Branch's laws: the walk of BranchPlays.
-/
import Derived.Test.YtfkidokcdagljaaBrH
import Derived.OpenShut
import Derived.StillTailTactics
import Derived.Deep.RegionWith
set_option linter.unusedVariables false
set_option linter.unusedSimpArgs false
namespace Go.Proofs.Ytfkidokcdagljaa
open Go.RowKit Go.Maps Go.WideMaps Go.WideElems Go.Sort Go.Shelf Go.Proofs.YtfkidokcdagljaaW.PrintWords PBranchPlays

theorem rel_below {w wr w' : World} {t bm : Nat} {m : Tb} {v : Value} (h : Rel w t bm m v wr) (hb : Below wr.heap.size wr w') : Rel w t bm m v w' :=
  ⟨h.1, h.2.1.below hb, Kd.R_below h.2.2.1 hb, below_then h.2.2.2.1 h.2.2.2.1.size hb, h.2.2.2.2.1, h.2.2.2.2.2⟩
theorem rel_same {w wr : World} {t bm : Nat} {m : Tb} {v : Value} (h : Rel w t bm m v wr) : ∃ A c, v = .slice A m.length c ∧ Calls Try.prog 14 #[.pointer (some ⟨t, 0, none⟩), .slice A m.length c] wr fun e w' => e = .returned (.bool true) ∧ Below wr.heap.size wr w' := by
  obtain ⟨A, c, rfl, hc, hC⟩ := Kd.R_reads h.2.2.1
  rw [refB_length] at hc hC ⊢
  have := h.1.len
  exact ⟨A, c, rfl, same_true t bm m A c wr h.2.1 h.1.srt (by omega) hc hC⟩
theorem ref_drop {w wr wa : World} {t bm : Nat} {m : Tb} {v : Value} {nm : ByteArray} (h : Rel w t bm m v wr) (hm : Moved wr wa t bm (opDrop m nm.data.toList).1) :
    Calls Try.prog 9 #[v, .string nm] wa fun e w' => ∃ v2, e = .returned (.tuple #[v2, .int .i64 (opDrop m nm.data.toList).2]) ∧ Rel w t bm (opDrop m nm.data.toList).1 v2 w' := by
  have ra := rel_one h hm
  have hl := h.1.len
  obtain ⟨k, hk⟩ := (drop_ev m (by omega) nm).rounds
  refine (gridironref17_Drop.calls k (Free t bm) v (refB m) nm _ _ w wa ra.2.2 ra.2.1 hk).mono ?_
  rintro e wb ⟨v2, rfl, hv2, hb2, hk2⟩
  exact ⟨v2, rfl, rel_two (good_drop h.1 _) ra.1 ra.2.2 h.2.2.2.2.1 h.2.2.2.2.2 hv2 hb2 hk2⟩
theorem ref_set {w wr wa : World} {t bm : Nat} {m : Tb} {v : Value} {nm : ByteArray} {x : Int} (h : Rel w t bm m v wr) (hm : Moved wr wa t bm (opSet m nm x).1) :
    Calls Try.prog 13 #[v, .string nm, .int .i64 x] wa fun e w' => ∃ v2, e = .returned (.tuple #[v2, .int .i64 (opSet m nm x).2]) ∧ Rel w t bm (opSet m nm x).1 v2 w' := by
  have ra := rel_one h hm
  have hl := h.1.len
  obtain ⟨k, hk⟩ := (set_ev m (by omega) nm x).rounds
  refine (gridironref17_Set.calls k (Free t bm) v (refB m) nm x _ _ w wa ra.2.2 ra.2.1 hk).mono ?_
  rintro e wb ⟨v2, rfl, hv2, hb2, hk2⟩
  exact ⟨v2, rfl, rel_two (good_set h.1 _ _) ra.1 ra.2.2 h.2.2.2.2.1 h.2.2.2.2.2 hv2 hb2 hk2⟩
theorem Moved.drew {w w' : World} {t bm : Nat} {m : Tb} (h : Moved w w' t bm m) : Moved w w'.drew t bm m :=
  ⟨h.tab.below ((Below.refl _ _).drew), h.grown.trans (grown_of_below ((Below.refl _ _).drew) _)⟩
theorem ref_head {w wr : World} {t bm : Nat} {m : Tb} {v : Value} {nm : ByteArray} (h : Rel w t bm m v wr) :
    Calls Try.prog 11 #[v, .string nm] wr fun e w' => e = .returned (.tuple #[.int .i64 (opHead m nm.data.toList).1, .int .i64 (opHead m nm.data.toList).2]) ∧ Rel w t bm m v w' := by
  have hl := h.1.len
  obtain ⟨k, hk⟩ := (head_ev m (by omega) nm).rounds
  obtain ⟨A, c, rfl, hc, hC⟩ := Kd.R_reads h.2.2.1
  refine (gridironref17_Head.calls k A c (refB m) nm _ _ wr hC hc hk).mono ?_
  rintro e wb ⟨rfl, hd⟩
  exact ⟨rfl, rel_below h hd.below⟩

/-- What an act's parts may be. -/
def ActOk (x : S30) : Prop := (Lit.int .u8 x.f0).wf = true ∧ x.f1.size ≤ maxLen ∧ (Lit.int .i64 x.f2).wf = true
def Ends (w : World) (e : Ending) (w' : World) : Prop := e = .returned (.bool true) ∧ Below w.heap.size w w'

theorem act_at {w wr : World} {A : Option Addr} {l : List S30} (hC : Kd.C k30 w A l.length l) (hb : Below w.heap.size w wr) {k : Nat} (hk : k < l.length) :
    ∃ ad, A = some ad ∧ wr.cell? (ad.add (k * 3)) = some (.int .u8 l[k].f0) ∧ wr.cell? ⟨(ad.add (k * 3)).block, (ad.add (k * 3)).off + 1, none⟩ = some (.string l[k].f1) ∧
      wr.cell? ⟨(ad.add (k * 3)).block, (ad.add (k * 3)).off + 2, none⟩ = some (.int .i64 l[k].f2) := by
  obtain ⟨ad, rfl, h1, h2, h3⟩ := at_T30 hC (k : Int) (by omega) (by omega)
  have e : rd_T30 l (k : Int) = l[k] := by simp [rd_T30, List.getD_eq_getElem?_getD, hk]
  rw [e] at h1 h2 h3
  exact ⟨ad, rfl, pw_cell_below hb h1, pw_cell_below hb h2, pw_cell_below hb h3⟩

theorem act_more {w wr : World} {ad : Addr} {l : List S30} (hC : Kd.C k30 w (some ad) l.length l) (hb : Below w.heap.size w wr) {k : Nat} (hk : k < l.length) {kd v : Int} {nm : ByteArray} (hx : (⟨kd, nm, v⟩ : S30) = l[k]) :
    wr.cell? (ad.add (k * 3)) = some (.int .u8 kd) ∧ wr.cell? ⟨(ad.add (k * 3)).block, (ad.add (k * 3)).off + 1, none⟩ = some (.string nm) ∧ wr.cell? ⟨(ad.add (k * 3)).block, (ad.add (k * 3)).off + 2, none⟩ = some (.int .i64 v) := by
  obtain ⟨ad', e, h1, h2, h3⟩ := act_at hC hb hk
  injection e with e
  subst e
  rw [← hx] at h1 h2 h3
  exact ⟨h1, h2, h3⟩
theorem fits_any {A : Option Addr} {c : Nat} {l : List S30} {w : World} (hC : Kd.C k30 w A l.length l) (hc : l.length ≤ c) :
    ∃ r : Bool, (r = true → l.length ≤ 100) ∧ Calls Try.prog 5 #[.slice A l.length c] w fun e w' => e = .returned (.bool r) ∧ Drawn0 w w' := by
  obtain ⟨k, r, h, hr⟩ := fits_ev l
  exact ⟨r, hr, gridironlaw17_fits.calls k A c l r w hC hc h⟩

set_option maxRecDepth 100000 in
set_option maxHeartbeats 4000000 in
theorem plays_any (A : Option Addr) (c : Nat) (l : List S30) (s : ByteArray) (w : World) (hC : Kd.C k30 w A l.length l) (hc : l.length ≤ c) (hl : ∀ x ∈ l, ActOk x) (hs : s.size ≤ maxLen) :
    Calls Try.prog 3 #[.slice A l.length c, .string s] w (Ends w) := by
  obtain ⟨r, hr, hfits⟩ := fits_any hC hc
  have HC := Lib.hid hC
  have HL := Lib.hid hl
  clear hC hl
  cases r with
  | false =>
    clear hr
    go_enter Try.func3, Try.ntmps3
    go_wp2_with fail
    refine hfits.mono ?_
    rintro e w1 ⟨rfl, hd⟩
    go_wp2_with fail
    refine (alive_any _).mono ?_
    rintro e w2 ⟨rfl, hb⟩
    go_wp2_with fail
    go_ret
    exact ⟨rfl, below_then hd.below hd.below.size hb⟩
  | true =>
    have hlen := hr rfl
    clear hr
    by_cases hsz : (100 : Int) < (s.size : Int)
    · go_enter Try.func3, Try.ntmps3
      go_wp2_with fail
      refine hfits.mono ?_
      rintro e w1 ⟨rfl, hd⟩
      go_wp2_with fail
      refine (alive_any _).mono ?_
      rintro e w2 ⟨rfl, hb⟩
      go_wp2_with fail
      go_ret
      exact ⟨rfl, below_then hd.below hd.below.size hb⟩
    · go_enter Try.func3, Try.ntmps3
      go_wp2_with fail
      refine hfits.mono ?_
      rintro e w1 ⟨rfl, hd⟩
      clear hfits
      go_wp2_with fail
      refine (new_any _).mono ?_
      rintro e w2 ⟨rfl, ht, hb, hs2⟩
      have hb1 := hd.below
      clear hd
      have hrel0 : Rel w1 (w1.heap.size + 1) w1.heap.size [] (.slice none 0 0) w2 := ⟨good_nil, ht, Kd.R_nil _ _ _ _ _, hb, by omega, Nat.le_refl _⟩
      have HC1 := Lib.hid (Kd.C_below HC.out hb1)
      clear HC ht hb hs2
      obtain ⟨t, bm, et, ebm⟩ : ∃ t bm, t = w1.heap.size + 1 ∧ bm = w1.heap.size := ⟨_, _, rfl, rfl⟩
      rw [← et, ← ebm] at hrel0
      rw [← et]
      clear et ebm
      go_wp2_with fail
      go_loopw [7, 8] (fun v i wr => ∃ (k : Nat) (m : Tb), k ≤ l.length ∧ i = .int .i64 k ∧ Hid (Rel w1 t bm m v wr)) (fun _ i _ => l.length - (intOf i).toNat)
      case atStart => exact ⟨0, [], Nat.zero_le _, rfl, Lib.hid hrel0⟩
      case round =>
        obtain ⟨k, m, hk, rfl, HR⟩ := hrel
        clear hrel0
        by_cases hlt : k < l.length
        · obtain ⟨ad, rfl, hc0, hc1, hc2⟩ := act_at HC1.out HR.out.2.2.2.1 hlt
          have hx := HL.out _ (List.getElem_mem hlt)
          obtain ⟨x, hxe⟩ : ∃ x, x = l[k] := ⟨_, rfl⟩
          rw [← hxe] at hx
          obtain ⟨kd, nm, hv⟩ := x
          have HX := Lib.hid hxe
          clear hxe hc0 hc1 hc2
          obtain ⟨hkd, hnm, hhv⟩ := hx
          simp only at hkd hnm hhv
          have h0 := bounds_u8 hkd
          have hm := HR.out.1.len
          obtain ⟨hc0, hc1, hc2⟩ := act_more HC1.out HR.out.2.2.2.1 hlt HX.out
          by_cases h3 : (kd % 5 == 3) = true
          · go_wp2_with fail
            refine (drop_any t bm m nm _ HR.out.2.1 hnm).mono ?_
            rintro e wa ⟨rfl, hta⟩
            have hb1 := (rel_one HR.out hta.moved).2.2
            clear hc0 hc1 hc2
            obtain ⟨hc0, hc1, hc2⟩ := act_more HC1.out hb1 hlt HX.out
            go_wp2_with fail
            refine (ref_drop HR.out hta.moved).mono ?_
            rintro e wb ⟨v2, rfl, hrb⟩
            obtain ⟨A2, c2, rfl, hsame⟩ := rel_same hrb
            go_wp2_with fail
            refine hsame.mono ?_
            rintro e wc ⟨rfl, hbc⟩
            have HRC := Lib.hid (rel_below hrb hbc)
            clear hsame hrb hta HR hc0 hc1 hc2 hb1 h3
            go_wp2_with fail
            go_roundw
            case rel => exact ⟨k + 1, _, by omega, by go_num, HRC⟩
            case measure => simp [intOf]; omega
          · by_cases h4 : (kd % 5 == 4) = true
            · go_wp2_with fail
              refine (head_any t bm m nm _ HR.out.2.1 hnm).mono ?_
              rintro e wa ⟨rfl, rfl⟩
              go_wp2_with fail
              refine (ref_head HR.out).mono ?_
              rintro e wb ⟨rfl, hrb⟩
              go_wp2_with fail
              obtain ⟨A2, c2, rfl, hsame⟩ := rel_same hrb
              refine hsame.mono ?_
              rintro e wc ⟨rfl, hbc⟩
              have HRC := Lib.hid (rel_below hrb hbc)
              clear hsame hrb HR hc0 hc1 hc2 h3 h4
              go_wp2_with fail
              go_roundw
              case rel => exact ⟨k + 1, _, by omega, by go_num, HRC⟩
              case measure => simp [intOf]; omega
            · have hlt' : (k : Int) < (l.length : Int) := by omega
              go_wp2_with fail
              go_still_tail 11, (by kernel_rfl)
              have HRD := rel_below HR.out ((Below.refl wr.heap.size wr).drew)
              change wpList _ _ _ _ _ wr.drew
              generalize wr.drew = wd at HRD ⊢
              clear hc0 hc1 hc2
              go_wp2_with fail
              refine (set_any t bm m nm hv _ HRD.2.1 hnm (by unfold maxLen; omega) hhv).mono ?_
              rintro e wa ⟨rfl, hta⟩
              have hb1 := (rel_one HRD hta).2.2
              obtain ⟨hc0, hc1, hc2⟩ := act_more HC1.out hb1 hlt HX.out
              go_wp2_with fail
              have hset := ref_set HRD hta.drew
              go_region_with (go_at_call 13; refine hset.mono ?_; rintro e wb ⟨v2, rfl, hrb⟩)
              all_goals clear hset
              all_goals obtain ⟨A2, c2, rfl, hsame⟩ := rel_same hrb
              all_goals go_wp2_with fail
              all_goals refine hsame.mono ?_
              all_goals rintro e wc ⟨rfl, hbc⟩
              all_goals have HRC := Lib.hid (rel_below hrb hbc)
              all_goals clear hsame hrb hta HR hc0 hc1 hc2 hb1 h3 h4 HRD
              all_goals go_wp2_with fail
              all_goals go_roundw
              all_goals first
                | exact ⟨k + 1, _, by omega, by go_num, HRC⟩
                | (simp [intOf]; omega)
        · have hbz := HR.out.2.2.2.1
          have hbz := below_then hb1 hb1.size hbz
          clear hb1
          obtain ⟨kr, hkr⟩ := (right_ev s).rounds
          go_wp2_with fail
          refine (head_nil s _).mono ?_
          rintro e wa ⟨rfl, rfl⟩
          go_wp2_with fail
          refine (alive_any _).mono ?_
          rintro e wa ⟨rfl, hba⟩
          have hbz := below_then hbz hbz.size hba
          clear hba
          go_wp2_with fail
          refine (right_any s _ hs).mono ?_
          rintro e wb ⟨rfl, hbb⟩
          have hbz := below_then hbz hbz.size hbb
          clear hbb
          go_wp2_with fail
          refine (gridironref17_Right.calls kr s _ _ hkr).mono ?_
          rintro e wc ⟨rfl, hd⟩
          have hbz := below_then hbz hbz.size hd.below
          clear hd
          go_wp2_with fail
          refine (set_nil s _ _).mono ?_
          rintro e wd ⟨rfl, rfl⟩
          go_wp2_with fail
          refine (drop_nil s _).mono ?_
          rintro e wd ⟨rfl, rfl⟩
          go_wp2_with fail
          refine (names_nil _).mono ?_
          rintro e wd ⟨rfl, rfl⟩
          go_wp2_with fail
          refine (heads_nil _).mono ?_
          rintro e wd ⟨rfl, rfl⟩
          go_wp2_with fail
          go_ret
          exact ⟨rfl, hbz⟩

end Go.Proofs.Ytfkidokcdagljaa
