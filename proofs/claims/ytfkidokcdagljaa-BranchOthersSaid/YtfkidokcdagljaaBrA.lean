/-
  Branch's table: what a block holds, and the walks of New, Head, Drop, Set.
-/
import Derived.Test.YtfkidokcdagljaaProg
import Derived.Maps.OwnSet
import Derived.WalkKit
import Derived.WalkLawsBesides
import Derived.WalkSpells
import Derived.BigQuiet
import Derived.Deep.QuietTactic
import Derived.KernelRfl
import Derived.Lib.Hide
set_option linter.unusedVariables false
set_option linter.unusedSimpArgs false
namespace Go.Proofs.Ytfkidokcdagljaa
open Go.RowKit Go.Maps Go.WideMaps Go.WideElems

abbrev i64 {H : Type} (n : Int) : DataW H := .lit (.int .i64 n)
/-- A table's contents. -/
abbrev Tb := List (List UInt8 × Int)
def ent (p : List UInt8 × Int) : Lit × DataW Unit := (.string p.1, i64 p.2)
def mapOf (m : Tb) : DataW Unit := .map (m.map ent)
def insB (x : List UInt8 × Int) : Tb → Tb
  | [] => [x]
  | y :: r => if bytesBefore x.1 y.1 then x :: y :: r else y :: insB x r
def delB (m : Tb) (k : List UInt8) : Tb := m.filter fun p => !(p.1 == k)
def putB (m : Tb) (k : List UInt8) (h : Int) : Tb := insB (k, h) (delB m k)
def getB (m : Tb) (k : List UInt8) : Option Int := (m.find? fun p => p.1 == k).map (·.2)

theorem mapOf_del (m : Tb) (k : List UInt8) : (mapOf m).del (.string k) = mapOf (delB m k) := by
  unfold mapOf DataW.del delB
  simp only [DataW.map.injEq]
  induction m with
  | nil => rfl
  | cons p m ih =>
    simp only [List.map_cons, List.filter_cons, ent, Lit.sameKey]
    split <;> simp_all [ent, Lit.sameKey]
theorem map_ins (x : List UInt8 × Int) (m : Tb) : DataW.insert (ent x) (m.map ent) = (insB x m).map ent := by
  induction m with
  | nil => rfl
  | cons y r ih =>
    simp only [List.map_cons, DataW.insert, insB, ent, Lit.before]
    by_cases h : bytesBefore x.1 y.1 = true
    · simp [h, ent]
    · simpa [h, ent] using ih
theorem mapOf_put (m : Tb) (k : List UInt8) (h : Int) : (mapOf m).put (.string k) (i64 h) = mapOf (putB m k h) := by
  have e := mapOf_del m k
  unfold mapOf DataW.del at e
  simp only [DataW.map.injEq] at e
  unfold mapOf DataW.put putB
  simp only [DataW.map.injEq]
  rw [e]
  exact map_ins (k, h) _
theorem has_mapOf (m : Tb) (k : List UInt8) : Maps.has (mapOf m) (.string k) = (getB m k).isSome := by
  unfold mapOf Maps.has getB
  induction m with
  | nil => rfl
  | cons p m ih =>
    have e : (ent p).1.sameKey (.string k) = (p.1 == k) := rfl
    simp only [List.map_cons, List.any_cons, e, List.find?_cons]
    cases h : (p.1 == k)
    · simpa using ih
    · simp
theorem at_mapOf (m : Tb) (k : List UInt8) : (mapOf m).atKey (.string k) (i64 0) = i64 ((getB m k).getD 0) := by
  unfold mapOf DataW.atKey getB
  induction m with
  | nil => rfl
  | cons p m ih =>
    have e : (ent p).1.sameKey (.string k) = (p.1 == k) := rfl
    simp only [List.map_cons, e, List.find?_cons]
    cases h : (p.1 == k)
    · simpa using ih
    · simp [ent]
theorem size_mapOf (m : Tb) : Maps.size (mapOf m) = m.length := by simp [mapOf, Maps.size]

theorem law9 : Keyed Try.prog 9 := string_keyed Try.underlying9
theorem zero3 (w : World) : (zeroValue 3).run Try.prog w = .ok (.int .i64 0) w := by kernel_rfl

/-- Block t is a table with the contents m. -/
structure Tab (w : World) (t bm : Nat) (m : Tb) : Prop where
  blk : w.heap[t]? = some (.cells #[.map (some bm)] 49 (0, 0))
  own : w.ownsMap Try.prog 9 (plainElem Try.prog 3) bm m.length (mapOf m)

theorem Tab.ne {w : World} {t bm : Nat} {m : Tb} (h : Tab w t bm m) : bm ≠ t := by
  obtain ⟨es, clock, hb, _⟩ := h.own
  intro e; subst e
  have := h.blk
  rw [hb] at this
  cases this
theorem Tab.cell {w : World} {t bm : Nat} {m : Tb} (h : Tab w t bm m) : w.cell? ⟨t, 0, none⟩ = some (.map (some bm)) := by
  have := h.blk
  simp [World.cell?, this]

theorem at_some {m : Tb} {k : List UInt8} {h c : Int} (hg : getB m k = some h) (hat : (mapOf m).atKey (.string k) (i64 0) = i64 c) : c = h := by
  rw [at_mapOf, hg] at hat
  simp at hat
  exact hat.symm
theorem has_some {m : Tb} {k : List UInt8} {h : Int} (hg : getB m k = some h) : Maps.has (mapOf m) (.string k) = true := by rw [has_mapOf, hg]; rfl
theorem has_none {m : Tb} {k : List UInt8} (hg : getB m k = none) : Maps.has (mapOf m) (.string k) = false := by rw [has_mapOf, hg]; rfl
theorem at_none {m : Tb} {k : List UInt8} {c : Int} (hg : getB m k = none) (hat : (mapOf m).atKey (.string k) (i64 0) = i64 c) : c = 0 := by
  rw [at_mapOf, hg] at hat
  simp at hat
  exact hat.symm

theorem new_any (w : World) : Calls Try.prog 7 #[] w fun e w' => e = .returned (.pointer (some ⟨w.heap.size + 1, 0, none⟩)) ∧ Tab w' (w.heap.size + 1) w.heap.size [] ∧ Below w.heap.size w w' ∧ w'.heap.size = w.heap.size + 2 := by
  have hmm := @run_makeMap Try.prog
  go_enter Try.func7, Try.ntmps7
  go_wp2
  go_ret
  refine ⟨rfl, ⟨?_, ?_⟩, ?_, ?_⟩
  · have := heap_alloc_new (w.alloc (Obj.map #[] 0)) (Obj.cells #[Value.map (some w.heap.size)] 49)
    simpa using this
  · exact (World.ownsMap_made _ _ _ _).alloc _
  · exact ((Below.refl _ _).alloc (Nat.le_refl _) _).alloc (by simp) _
  · simp

theorem head_nil (nm : ByteArray) (w : World) : Calls Try.prog 10 #[.pointer none, .string nm] w fun e w' => e = .returned (.tuple #[.int .i64 0, .int .i64 1]) ∧ w = w' := by
  go_enter Try.func10, Try.ntmps10
  go_wp2
  go_ret2
  exact ⟨rfl, rfl⟩

theorem head_some (t bm : Nat) (m : Tb) (nm : ByteArray) (w : World) (ht : Tab w t bm m) (hn : nm.size ≤ maxLen) (h : Int) (hg : getB m nm.data.toList = some h) :
    Calls Try.prog 10 #[.pointer (some ⟨t, 0, none⟩), .string nm] w fun e w' => e = .returned (.tuple #[.int .i64 h, .int .i64 0]) ∧ w = w' := by
  have hkey := keyOf_string_mk Try.underlying9 hn
  have hcell := ht.cell
  have hown := ht.own
  have hh := has_some hg
  have HG := Lib.hid hg
  clear hg
  go_enter Try.func10, Try.ntmps10
  go_wp2_with (first
    | (at_lookup; refine wpList_lookup_own_ok_int _ rfl _ _ 47 rfl 9 3 .i64 law9 Try.underlying47 Try.underlying3 (zero3 _) bm m.length _ rfl hown _ _ rfl hkey ?_; intro c hat hwc; obtain rfl := at_some HG.out hat; clear hat)
    | go_in)
  go_ret2
  exact ⟨rfl, rfl⟩

theorem head_none (t bm : Nat) (m : Tb) (nm : ByteArray) (w : World) (ht : Tab w t bm m) (hn : nm.size ≤ maxLen) (hg : getB m nm.data.toList = none) :
    Calls Try.prog 10 #[.pointer (some ⟨t, 0, none⟩), .string nm] w fun e w' => e = .returned (.tuple #[.int .i64 0, .int .i64 4]) ∧ w = w' := by
  have hkey := keyOf_string_mk Try.underlying9 hn
  have hcell := ht.cell
  have hown := ht.own
  have hh := has_none hg
  have HG := Lib.hid hg
  clear hg
  go_enter Try.func10, Try.ntmps10
  go_wp2_with (first
    | (at_lookup; refine wpList_lookup_own_ok_int _ rfl _ _ 47 rfl 9 3 .i64 law9 Try.underlying47 Try.underlying3 (zero3 _) bm m.length _ rfl hown _ _ rfl hkey ?_; intro c hat hwc; obtain rfl := at_none HG.out hat; clear hat)
    | go_in)
  go_ret2
  exact ⟨rfl, rfl⟩

def opHead (m : Tb) (k : List UInt8) : Int × Int := match getB m k with | some h => (h, 0) | none => (0, 4)
theorem head_any (t bm : Nat) (m : Tb) (nm : ByteArray) (w : World) (ht : Tab w t bm m) (hn : nm.size ≤ maxLen) :
    Calls Try.prog 10 #[.pointer (some ⟨t, 0, none⟩), .string nm] w fun e w' => e = .returned (.tuple #[.int .i64 (opHead m nm.data.toList).1, .int .i64 (opHead m nm.data.toList).2]) ∧ w = w' := by
  unfold opHead
  cases hg : getB m nm.data.toList with
  | none => exact head_none t bm m nm w ht hn hg
  | some h => exact head_some t bm m nm w ht hn h hg

/-- What becomes of a table's world. -/
structure Turned (w w' : World) (t bm : Nat) (m' : Tb) : Prop where
  tab : Tab w' t bm m'
  turned : w.mapTurned w' bm
theorem own_len {w : World} {bm n : Nat} {m : Tb} (h : w.ownsMap Try.prog 9 (plainElem Try.prog 3) bm n (mapOf m)) : w.ownsMap Try.prog 9 (plainElem Try.prog 3) bm m.length (mapOf m) := by
  obtain ⟨es, clock, hb, hf, hs, hD⟩ := h
  refine ⟨es, clock, hb, hf, ?_, hD⟩
  have := congrArg Maps.size hD
  rw [size_mapOf] at this
  rw [this]
  simp only [Maps.size]
  rw [length_read]
  exact Nat.le_refl _
theorem Tab.turn {w w' : World} {t bm n : Nat} {m m' : Tb} (h : Tab w t bm m) (ho : w'.ownsMap Try.prog 9 (plainElem Try.prog 3) bm n (mapOf m')) (ht : w.mapTurned w' bm) : Turned w w' t bm m' :=
  ⟨⟨(ht.grown.block t (Array.getElem?_eq_some_iff.1 h.blk).1 (by have := h.ne; simp; omega)).trans h.blk, own_len ho⟩, ht⟩
theorem Tab.kept {w w' : World} {t bm : Nat} {m : Tb} (h : Tab w t bm m) {row : Option Nat} (hg : w.grownBy w' row) (h1 : some t ≠ row) (h2 : some bm ≠ row) : Tab w' t bm m :=
  ⟨(hg.block t (Array.getElem?_eq_some_iff.1 h.blk).1 h1).trans h.blk, h.own.kept hg h2⟩

def opDrop (m : Tb) (k : List UInt8) : Tb × Int := if (getB m k).isSome then (delB m k, 0) else (m, 4)
theorem drop_some (t bm : Nat) (m : Tb) (nm : ByteArray) (w : World) (ht : Tab w t bm m) (hn : nm.size ≤ maxLen) (h : Int) (hg : getB m nm.data.toList = some h) :
    Calls Try.prog 8 #[.pointer (some ⟨t, 0, none⟩), .string nm] w fun e w' => e = .returned (.int .i64 0) ∧ Turned w w' t bm (delB m nm.data.toList) := by
  have hkey := keyOf_string_mk Try.underlying9 hn
  have hcell := ht.cell
  have hown := ht.own
  have HG := Lib.hid hg
  clear hg
  go_enter Try.func8, Try.ntmps8
  go_wp2_with (first
    | (go_at_call 10; refine (head_some t bm m nm _ ht hn h HG.out).mono ?_; rintro e w' ⟨rfl, rfl⟩)
    | (at_delete; refine wpList_delete_own _ rfl _ _ 47 9 rfl 3 law9 Try.underlying47 _ bm m.length _ rfl hown _ _ rfl hkey ?_; intro w1 hown1 hturn1)
    | go_in)
  go_ret
  exact ⟨rfl, ht.turn (mapOf_del m _ ▸ hown1) hturn1⟩


theorem drop_none (t bm : Nat) (m : Tb) (nm : ByteArray) (w : World) (ht : Tab w t bm m) (hn : nm.size ≤ maxLen) (hg : getB m nm.data.toList = none) :
    Calls Try.prog 8 #[.pointer (some ⟨t, 0, none⟩), .string nm] w fun e w' => e = .returned (.int .i64 4) ∧ Turned w w' t bm m := by
  have HG := Lib.hid hg
  clear hg
  go_enter Try.func8, Try.ntmps8
  go_wp2_with (first
    | (go_at_call 10; refine (head_none t bm m nm _ ht hn HG.out).mono ?_; rintro e w' ⟨rfl, rfl⟩)
    | go_in)
  go_ret
  exact ⟨rfl, ht, ht.own.turned_refl⟩
theorem drop_nil (nm : ByteArray) (w : World) : Calls Try.prog 8 #[.pointer none, .string nm] w fun e w' => e = .returned (.int .i64 1) ∧ w = w' := by
  go_enter Try.func8, Try.ntmps8
  go_wp2_with (first
    | (go_at_call 10; refine (head_nil nm _).mono ?_; rintro e w' ⟨rfl, rfl⟩)
    | go_in)
  go_ret
  exact ⟨rfl, rfl⟩
theorem drop_any (t bm : Nat) (m : Tb) (nm : ByteArray) (w : World) (ht : Tab w t bm m) (hn : nm.size ≤ maxLen) :
    Calls Try.prog 8 #[.pointer (some ⟨t, 0, none⟩), .string nm] w fun e w' => e = .returned (.int .i64 (opDrop m nm.data.toList).2) ∧ Turned w w' t bm (opDrop m nm.data.toList).1 := by
  unfold opDrop
  cases hg : getB m nm.data.toList with
  | none => exact drop_none t bm m nm w ht hn hg
  | some h => exact drop_some t bm m nm w ht hn h hg

end Go.Proofs.Ytfkidokcdagljaa
