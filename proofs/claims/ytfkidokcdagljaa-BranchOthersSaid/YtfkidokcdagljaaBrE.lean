/-
  Branch's table: the walk of Heads.
-/
import Derived.Test.YtfkidokcdagljaaBrD
set_option linter.unusedVariables false
set_option linter.unusedSimpArgs false
namespace Go.Proofs.Ytfkidokcdagljaa
open Go.RowKit Go.Maps Go.WideMaps Go.WideElems Go.Sort Go.Shelf Go.Proofs.YtfkidokcdagljaaW.PrintWords

def headsB (m : Tb) : List Int := m.map (·.2)
theorem srt_get {m : Tb} (hs : Srt m) {k : Nat} {p : List UInt8 × Int} (hk : m[k]? = some p) : getB m p.1 = some p.2 := by
  unfold getB
  induction m generalizing k with
  | nil => simp at hk
  | cons q m ih =>
    have hs' : Srt m := (List.pairwise_cons.1 hs).2
    have hq := (List.pairwise_cons.1 hs).1
    cases k with
    | zero =>
      simp at hk; subst hk
      simp
    | succ k =>
      simp only [List.getElem?_cons_succ] at hk
      have hmem : p ∈ m := List.mem_of_getElem? hk
      have hlt : q.1 < p.1 := hq p.1 (List.mem_map.2 ⟨p, hmem, rfl⟩)
      have hne : (q.1 == p.1) = false := by
        cases h : (q.1 == p.1)
        · rfl
        · rw [beq_iff_eq] at h; rw [h] at hlt; exact absurd hlt (List.lt_irrefl _)
      rw [List.find?_cons_of_neg (by simp [hne])]
      exact ih hs' hk

theorem heads_nil (w : World) : Calls Try.prog 18 #[.pointer none] w fun e w' => e = .returned (.slice none 0 0) ∧ w = w' := by
  go_enter Try.func18, Try.ntmps18
  go_wp2_with (first
    | (go_at_call 17; refine (names_nil _).mono ?_; rintro e w' ⟨rfl, rfl⟩)
    | go_in)
  refine wp_loop_rounds 1 ?_
  rw [rounds_succ]
  go_wp2
  go_ret
  exact ⟨rfl, rfl⟩

def HeadsAre (m : Tb) (w : World) (e : Ending) (w' : World) : Prop := ∃ v, e = .returned v ∧ Kd.R (Kd.int .i64) 3 w' w.heap.size (fun k => w.heap.size ≤ k) v (headsB m) ∧ Below w.heap.size w w'

theorem info3 : (Try.prog.info? 3).map (fun i => (i.zero, i.size, i.bytes)) = some (some (.int .i64 0), 1, 8) := by kernel_rfl
theorem names_reads {m : Tb} {w2 : World} {B : Nat} {ok : Nat → Prop} {v : Value} (hv : Kd.R Kd.string 9 w2 B ok v (namesB m)) : ∃ A c, v = .slice A m.length c ∧ m.length ≤ c ∧ ReadsOf Value.string ByteArray.empty w2 A m.length (namesB m) := by
  obtain ⟨A, c, rfl, hc, hC⟩ := Kd.R_reads hv
  have hR := Kd.reads_of_C (d := ByteArray.empty) hC
  have hlen : (namesB m).length = m.length := by simp [namesB]
  rw [hlen] at hR hc ⊢
  exact ⟨A, c, rfl, hc, hR⟩
theorem names_at {m : Tb} {w2 wr : World} {A : Option Addr} (hR : ReadsOf Value.string ByteArray.empty w2 A m.length (namesB m)) (hb : Below w2.heap.size w2 wr) {k : Nat} (hk : k < m.length) :
    ∃ ad, A = some ad ∧ wr.cell? (ad.add k) = some (.string (keyB m[k])) := by
  obtain ⟨ad, rfl, hc⟩ := hR.2.2 (by omega)
  refine ⟨ad, rfl, (pw_cell_below hb (hc k hk)).trans ?_⟩
  simp [namesB, List.getD_eq_getElem?_getD, hk]
theorem tab_key {w : World} {t bm : Nat} {m : Tb} (ht : Tab w t bm m) {k : Nat} (hk : k < m.length) : (keyB m[k]).size ≤ maxLen := by
  have := strKeys_le ht.own Try.underlying9 m[k].1 (by rw [strKeys_mapOf]; exact List.mem_map.2 ⟨m[k], List.getElem_mem hk, rfl⟩)
  simpa [keyB, ByteArray.size] using this

set_option maxHeartbeats 1000000 in
theorem heads_any (t bm : Nat) (m : Tb) (w : World) (ht : Tab w t bm m) (hs : Srt m) (hm : m.length ≤ 1000) :
    Calls Try.prog 18 #[.pointer (some ⟨t, 0, none⟩)] w (HeadsAre m w) := by
  have HS := Lib.hid hs
  clear hs
  go_enter Try.func18, Try.ntmps18
  go_wp2_with (first
    | (go_at_call 17; refine (names_any t bm m _ ht HS.out hm).mono ?_; rintro e w2 ⟨v, rfl, hv, hb⟩; obtain ⟨A, c, rfl, hc, hR⟩ := names_reads hv; clear hv)
    | go_in)
  have ht2 := ht.below hb
  have HR := Lib.hid hR
  have HT := Lib.hid ht2
  clear hR ht2
  go_loopw [3, 9] (fun o i wr => ∃ k : Nat, k ≤ m.length ∧ i = .int .i64 k ∧ wr.ownsRow w2.heap.size 3 1 o ((headsB m).take k).length (nums .i64 ((headsB m).take k)) ∧ Below w2.heap.size w2 wr) (fun _ i _ => m.length - (intOf i).toNat)
  case atStart => exact ⟨0, Nat.zero_le _, rfl, own_nil _ _ _ _, Below.refl _ _⟩
  case round =>
    obtain ⟨k, hk, rfl, ho, hbr⟩ := hrel
    by_cases hlt : k < m.length
    · obtain ⟨ad, rfl, hcell⟩ := names_at HR.out hbr hlt
      have htr := HT.out.below hbr
      have hcell2 := htr.cell
      have hown := htr.own
      have hsz := tab_key htr hlt
      have hkey := keyOf_string_mk Try.underlying9 hsz
      obtain ⟨nm, hnm⟩ : ∃ nm, nm = keyB m[k] := ⟨_, rfl⟩
      rw [← hnm] at hcell hkey
      have hg : getB m nm.data.toList = some m[k].2 := by
        have := srt_get HS.out (List.getElem?_eq_getElem hlt)
        rw [hnm]
        simpa [keyB] using this
      obtain ⟨h0, hh0⟩ : ∃ h0, h0 = m[k].2 := ⟨_, rfl⟩
      rw [← hh0] at hg
      have hl : (((headsB m).take k).length + 1) * 8 ≤ 140737488355328 := by
        have := List.length_take_le k (headsB m)
        omega
      have HL := Lib.hid hl
      clear hl
      have HG := Lib.hid hg
      have HH := Lib.hid hh0
      clear hg hnm hsz htr hh0
      go_wp2_with (first
        | (at_lookup; refine wpList_lookup_own_int _ rfl _ _ 47 rfl 9 3 .i64 law9 Try.underlying47 Try.underlying3 (zero3 _) bm m.length _ rfl hown _ _ rfl hkey ?_; intro c0 hat hwc; obtain rfl := at_some HG.out hat; clear hat)
        | (at_builtin; refine print_append_num (w0 := w2) w2.heap.size rfl (.tmp 13) (.tmp 20) 43 3 .i64 8 rfl Try.underlying43 info3 (by decide) _ ((headsB m).take k) _ rfl rfl ho hbr hbr.size HL.out ?_; intro v1 w1 ho1 hb1 hg1 hat1)
        | go_in)
      go_roundw
      case rel =>
        refine ⟨k + 1, by omega, by go_num, ?_, hb1⟩
        have e : (headsB m).take (k + 1) = (headsB m).take k ++ [c0] := by
          rw [List.take_succ_eq_append_getElem (by simpa [headsB] using hlt), HH.out]
          simp [headsB]
        rw [e]
        exact ho1
      case measure => simp [intOf]; omega
    · obtain rfl : k = m.length := by omega
      go_wp2
      go_ret
      have e : (headsB m).take m.length = headsB m := List.take_of_length_le (by simp [headsB])
      rw [e] at ho
      exact ⟨_, rfl, Kd.R_of_own (ownsRow_base_a ho hb.size) (fun k hk => own_base (ownsRow_base_a ho hb.size) k hk), below_then hb hb.size hbr⟩

end Go.Proofs.Ytfkidokcdagljaa
