/-
  Branch's table: the walk of Set.
-/
import Derived.Test.YtfkidokcdagljaaBrB
set_option linter.unusedVariables false
set_option linter.unusedSimpArgs false
namespace Go.Proofs.Ytfkidokcdagljaa
open Go.RowKit Go.Maps Go.WideMaps Go.WideElems

/-- What becomes of a table, new blocks beside it. -/
structure Moved (w w' : World) (t bm : Nat) (m' : Tb) : Prop where
  tab : Tab w' t bm m'
  grown : w.grownBy w' (some bm)
theorem Turned.moved {w w' : World} {t bm : Nat} {m' : Tb} (h : Turned w w' t bm m') : Moved w w' t bm m' := ⟨h.tab, h.turned.grown⟩
theorem grown_of_below {w w1 : World} (h : Below w.heap.size w w1) (row : Option Nat) : w.grownBy w1 row := ⟨h.os, h.tape, h.output, h.size, fun i hi _ => h.block i hi⟩
theorem Tab.below {w w' : World} {t bm : Nat} {m : Tb} (h : Tab w t bm m) (hb : Below w.heap.size w w') : Tab w' t bm m :=
  h.kept (grown_of_below hb none) (by simp) (by simp)

theorem set_nil (nm : ByteArray) (v : Int) (w : World) : Calls Try.prog 12 #[.pointer none, .string nm, .int .i64 v] w fun e w' => e = .returned (.int .i64 1) ∧ w = w' := by
  go_enter Try.func12, Try.ntmps12
  go_wp2
  go_ret
  exact ⟨rfl, rfl⟩

set_option maxHeartbeats 1000000 in
theorem set_wrong (t bm : Nat) (m : Tb) (nm : ByteArray) (v : Int) (w : World) (ht : Tab w t bm m) (hn : nm.size ≤ maxLen) (hr : rightB nm = false) :
    Calls Try.prog 12 #[.pointer (some ⟨t, 0, none⟩), .string nm, .int .i64 v] w fun e w' => e = .returned (.int .i64 1) ∧ Moved w w' t bm m := by
  go_enter Try.func12, Try.ntmps12
  go_wp2_with (first
    | (go_at_call 15; refine (right_any nm _ hn).mono ?_; rintro e w' ⟨rfl, hb⟩)
    | go_in)
  go_ret
  exact ⟨rfl, ht.below hb, grown_of_below hb _⟩

def mustB (m : Tb) (k : List UInt8) : Prop := (getB m k).isSome ∨ m.length < 16
theorem has_is {m : Tb} {k : List UInt8} {b : Bool} (h : (getB m k).isSome = b) : Maps.has (mapOf m) (.string k) = b := by rw [has_mapOf, h]

set_option maxHeartbeats 1000000 in
theorem set_full (t bm : Nat) (m : Tb) (nm : ByteArray) (v : Int) (w : World) (ht : Tab w t bm m) (hn : nm.size ≤ maxLen) (hr : rightB nm = true) (hg : getB m nm.data.toList = none) (hl : 16 ≤ m.length) :
    Calls Try.prog 12 #[.pointer (some ⟨t, 0, none⟩), .string nm, .int .i64 v] w fun e w' => e = .returned (.int .i64 3) ∧ Moved w w' t bm m := by
  have hkey := keyOf_string_mk Try.underlying9 hn
  have hh := has_none hg
  have hsz : (16 : Int) ≤ (Maps.size (mapOf m) : Int) := by rw [size_mapOf]; omega
  have HG := Lib.hid hg
  clear hg hl
  go_enter Try.func12, Try.ntmps12
  go_wp2_with (first
    | (go_at_call 15; refine (right_any nm _ hn).mono ?_; rintro e w' ⟨rfl, hb⟩; have ht1 := ht.below hb; have hcell := ht1.cell; have hown := ht1.own; have hlen := fun ty => hown.len Try.underlying47 ty)
    | (at_lookup; refine wpList_lookup_own_ok_int _ rfl _ _ 47 rfl 9 3 .i64 law9 Try.underlying47 Try.underlying3 (zero3 _) bm m.length _ rfl hown _ _ rfl hkey ?_; intro c hat hwc; obtain rfl := at_none HG.out hat; clear hat)
    | go_in)
  go_ret
  exact ⟨rfl, ht1, grown_of_below hb _⟩

theorem Moved.of {w w1 w2 : World} {t bm n : Nat} {m m' : Tb} (hb : Below w.heap.size w w1) (ht1 : Tab w1 t bm m) (ho : w2.ownsMap Try.prog 9 (plainElem Try.prog 3) bm n (mapOf m')) (ht : w1.mapTurned w2 bm) : Moved w w2 t bm m' :=
  ⟨(ht1.turn ho ht).tab, (grown_of_below hb _).trans ht.grown⟩

set_option maxHeartbeats 1000000 in
theorem set_had (t bm : Nat) (m : Tb) (nm : ByteArray) (v : Int) (w : World) (ht : Tab w t bm m) (hn : nm.size ≤ maxLen) (hm : m.length < maxLen) (hv : (Lit.int .i64 v).wf = true) (hr : rightB nm = true) (h : Int) (hg : getB m nm.data.toList = some h) :
    Calls Try.prog 12 #[.pointer (some ⟨t, 0, none⟩), .string nm, .int .i64 v] w fun e w' => e = .returned (.int .i64 0) ∧ Moved w w' t bm (putB m nm.data.toList v) := by
  have hkey := keyOf_string_mk Try.underlying9 hn
  have hh := has_some hg
  have HG := Lib.hid hg
  clear hg
  go_enter Try.func12, Try.ntmps12
  go_wp2_with (first
    | (go_at_call 15; refine (right_any nm _ hn).mono ?_; rintro e w' ⟨rfl, hb⟩; have ht1 := ht.below hb; have hcell := ht1.cell; have hown := ht1.own; have hlen := fun ty => hown.len Try.underlying47 ty)
    | (at_lookup; refine wpList_lookup_own_ok_int _ rfl _ _ 47 rfl 9 3 .i64 law9 Try.underlying47 Try.underlying3 (zero3 _) bm m.length _ rfl hown _ _ rfl hkey ?_; intro c hat hwc; obtain rfl := at_some HG.out hat; clear hat)
    | (at_mapUpdate; refine wpList_mapUpdate_in _ rfl _ _ _ 47 rfl 9 3 law9 Try.underlying47 _ bm m.length _ rfl hown hm _ _ _ rfl rfl hkey _ [] (plainElem_int Try.underlying3 hv) ?_; intro w1 hown1 hturn1)
    | go_in)
  go_ret
  exact ⟨rfl, Moved.of hb ht1 (mapOf_put m _ v ▸ hown1) hturn1⟩

set_option maxHeartbeats 1000000 in
theorem set_new (t bm : Nat) (m : Tb) (nm : ByteArray) (v : Int) (w : World) (ht : Tab w t bm m) (hn : nm.size ≤ maxLen) (hl : m.length < 16) (hv : (Lit.int .i64 v).wf = true) (hr : rightB nm = true) (hg : getB m nm.data.toList = none) :
    Calls Try.prog 12 #[.pointer (some ⟨t, 0, none⟩), .string nm, .int .i64 v] w fun e w' => e = .returned (.int .i64 0) ∧ Moved w w' t bm (putB m nm.data.toList v) := by
  have hkey := keyOf_string_mk Try.underlying9 hn
  have hh := has_none hg
  have HG := Lib.hid hg
  have hm : m.length < maxLen := by unfold maxLen; omega
  have hsz : (Maps.size (mapOf m) : Int) < (16 : Int) := by rw [size_mapOf]; omega
  clear hg hl
  go_enter Try.func12, Try.ntmps12
  go_wp2_with (first
    | (go_at_call 15; refine (right_any nm _ hn).mono ?_; rintro e w' ⟨rfl, hb⟩; have ht1 := ht.below hb; have hcell := ht1.cell; have hown := ht1.own; have hlen := fun ty => hown.len Try.underlying47 ty)
    | (at_lookup; refine wpList_lookup_own_ok_int _ rfl _ _ 47 rfl 9 3 .i64 law9 Try.underlying47 Try.underlying3 (zero3 _) bm m.length _ rfl hown _ _ rfl hkey ?_; intro c hat hwc; obtain rfl := at_none HG.out hat; clear hat)
    | (at_mapUpdate; refine wpList_mapUpdate_in _ rfl _ _ _ 47 rfl 9 3 law9 Try.underlying47 _ bm m.length _ rfl hown hm _ _ _ rfl rfl hkey _ [] (plainElem_int Try.underlying3 hv) ?_; intro w1 hown1 hturn1)
    | go_in)
  go_ret
  exact ⟨rfl, Moved.of hb ht1 (mapOf_put m _ v ▸ hown1) hturn1⟩

def opSet (m : Tb) (nm : ByteArray) (v : Int) : Tb × Int :=
  if rightB nm = false then (m, 1) else if (getB m nm.data.toList) = none ∧ 16 ≤ m.length then (m, 3) else (putB m nm.data.toList v, 0)
theorem set_any (t bm : Nat) (m : Tb) (nm : ByteArray) (v : Int) (w : World) (ht : Tab w t bm m) (hn : nm.size ≤ maxLen) (hm : m.length < maxLen) (hv : (Lit.int .i64 v).wf = true) :
    Calls Try.prog 12 #[.pointer (some ⟨t, 0, none⟩), .string nm, .int .i64 v] w fun e w' => e = .returned (.int .i64 (opSet m nm v).2) ∧ Moved w w' t bm (opSet m nm v).1 := by
  unfold opSet
  cases hr : rightB nm with
  | false => simpa using set_wrong t bm m nm v w ht hn hr
  | true =>
    cases hg : getB m nm.data.toList with
    | none =>
      by_cases hl : 16 ≤ m.length
      · simpa [hl] using set_full t bm m nm v w ht hn hr hg hl
      · simpa [hl] using set_new t bm m nm v w ht hn (by omega) hv hr hg
    | some h => simpa using set_had t bm m nm v w ht hn hm hv hr h hg

end Go.Proofs.Ytfkidokcdagljaa
