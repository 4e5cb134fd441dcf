/-
  Graph: New: the walk.
-/
import Derived.Test.YtdloopgdohjedaaGrM
import Derived.StillTailTactics
import Derived.Deep.RegionHeld3
import Derived.Deep.AppendLies
import Derived.BigQuiet
import Derived.Deep.QuietTactic
set_option linter.unusedVariables false
set_option linter.unusedSimpArgs false
namespace Go.Proofs.Ytdloopgdohjedaa
open Go.RowKit Go.Maps Go.Shelf Go.ChangeShapes Go.Proofs.YtdloopgdohjedaaW.PrintWords PGraphTells

def okL (x : S41) : Bool := fitB x.f0 && !(x.f1.any fun n => !fitB n)

abbrev GM := List (Int × List Int)
def dz (zs : List Int) : DataW Unit := if zs = [] then .nil else .slice (lits .i64 zs) []
abbrev gz (m : GM) : DataW Unit := gmap dz m
def G1 (l : List S41) : GM := l.foldl (fun m x => putM m x.f0 (rising x.f1)) []
def addR (m : GM) (a : Int) (ns : List Int) : GM := ns.foldl (fun m n => putM m n (((getM m n).getD []) ++ [a])) m
def G2 (l : List S41) : GM := l.foldl (fun m x => addR m x.f0 (rising x.f1)) []
def dup (l : List S41) (i : Nat) : Bool := (getM (G1 (l.take i)) (rd_T41 l (i : Int)).f0).isSome

theorem law3 : Keyed Try.prog 3 := int_keyed Try.underlying3
theorem zero23 (w : World) : (zeroValue 23).run Try.prog w = .ok (.slice none 0 0) w := by kernel_rfl

/-- A graph in memory. -/
structure Gr (w : World) (b : Nat) (m1 m2 : GM) : Prop where
  blk : w.heap[b + 1 + 1]? = some (.cells #[.map (some b), .map (some (b + 1))] 46 (0, 0))
  one : ∃ n, n ≤ 100000 ∧ w.ownsGroups Try.prog 3 (b + 3) 3 .i64 b n (gz m1)
  other : ∃ n, n ≤ 100000 ∧ w.ownsGroups Try.prog 3 (b + 3) 3 .i64 (b + 1) n (gz m2)

/-- What New answers. -/
def NewAre (l : List S41) (w : World) (e : Ending) (w' : World) : Prop :=
  ((l.all okL = false ∧ e = .returned (.tuple #[.pointer none, .int .i64 1])) ∨
   (l.all okL = true ∧ (∃ i, i < l.length ∧ dup l i = true) ∧ e = .returned (.tuple #[.pointer none, .int .i64 5])) ∨
   (l.all okL = true ∧ (∀ i, i < l.length → dup l i = false) ∧ ∃ b, e = .returned (.tuple #[.pointer (some ⟨b + 1 + 1, 0, none⟩), .int .i64 0]) ∧ w.heap.size ≤ b ∧ Gr w' b (G1 l) (G2 l))) ∧ Below w.heap.size w w'

/-! ### Groups -/
theorem made0 {w : World} {b base : Nat} (h : w.heap[b]? = some (.map #[] 0)) (hb : b < base) : w.ownsGroups (H := Unit) Try.prog 3 base 3 .i64 b 0 (gz []) :=
  ⟨#[], 0, h, ⟨by simp, Go.MapKept.stamped_empty 0, by simp⟩, Nat.le_refl _, rfl, hb, by simp, by simp⟩
theorem groups_mono {w : World} {base b n n' : Nat} {D : DataW Unit} (h : w.ownsGroups Try.prog 3 base 3 .i64 b n D) (hn : n ≤ n') : w.ownsGroups Try.prog 3 base 3 .i64 b n' D := by
  obtain ⟨es, clock, h1, h2, h3, h4, h5, h6, h7⟩ := h
  exact ⟨es, clock, h1, h2, Nat.le_trans h3 hn, h4, h5, fun x hx zs ho => Nat.le_trans (h6 x hx zs ho) hn, h7⟩
theorem groups_lt {w : World} {base b n : Nat} {D : DataW Unit} (h : w.ownsGroups Try.prog 3 base 3 .i64 b n D) : b < w.heap.size := by
  obtain ⟨es, clock, h1, _⟩ := h
  exact (Array.getElem?_eq_some_iff.1 h1).1
theorem groups_below {w w' : World} {base b n : Nat} {D : DataW Unit} (h : w.ownsGroups Try.prog 3 base 3 .i64 b n D) (hb : Below w.heap.size w w') : w'.ownsGroups Try.prog 3 base 3 .i64 b n D :=
  h.kept (grown_of_below hb none) (by simp) (fun es clock hb x hx => by cases x.val.ownBlock <;> simp)
theorem groups_map {w : World} {base b n : Nat} {D : DataW Unit} (h : w.ownsGroups Try.prog 3 base 3 .i64 b n D) : w.ownsMap Try.prog 3 (rowElem w base 3 .i64) b n D := by
  obtain ⟨es, clock, h1, h2, h3, h4, _⟩ := h
  exact ⟨es, clock, h1, h2, h3, h4⟩
theorem shuns_below {w w' : World} {base b n : Nat} {D : DataW Unit} {No : Nat → Prop} (h : w.Shuns b No) (ho : w.ownsGroups Try.prog 3 base 3 .i64 b n D) (hb : Below w.heap.size w w') : w'.Shuns b No :=
  h.kept (grown_of_below hb none) (groups_lt ho) (by simp)
/-- What is read at a key is what the list of pairs has there. -/
theorem dz_inj {w : World} {base : Nat} {v : Value} {zs zs' : List Int} (ho : w.ownsInts base 3 .i64 v zs) (h : dz zs' = rowDatum .i64 v zs) : zs = zs' := by
  unfold dz at h
  rcases ho.datum (H := Unit) with ⟨h1, h2⟩ | h1
  · rw [h1] at h
    split at h
    · rw [h2]; symm; assumption
    · cases h
  · rw [h1] at h
    split at h
    · cases h
    · simp only [DataW.slice.injEq, and_true] at h
      unfold lits at h
      exact ((List.map_inj_right (fun a b hab => by simpa using hab)).1 h).symm
theorem at_getM {w : World} {base : Nat} {v : Value} {zs : List Int} {m : GM} {k : Int} (ho : w.ownsInts base 3 .i64 v zs) (h : (gz m).atKey (.int .i64 k) .nil = rowDatum .i64 v zs) : zs = (getM m k).getD [] := by
  rw [gmap_at] at h
  refine dz_inj ho ?_
  rw [← h]
  cases hg : getM m k <;> rfl

theorem okL_false {l : List S41} {k : Nat} (hk : k < l.length) (h : okL (rd_T41 l (k : Int)) = false) : l.all okL = false := by
  rw [List.all_eq_false]
  refine ⟨l[k], List.getElem_mem hk, ?_⟩
  have e : rd_T41 l (k : Int) = l[k] := by simp [rd_T41, List.getD_eq_getElem?_getD, hk]
  rw [← e, h]
  simp
theorem okL_true {l : List S41} (h : ∀ j, j < l.length → okL (rd_T41 l (j : Int)) = true) : l.all okL = true := by
  rw [List.all_eq_true]
  intro x hx
  obtain ⟨k, hk, rfl⟩ := List.mem_iff_getElem.1 hx
  have e : rd_T41 l (k : Int) = l[k] := by simp [rd_T41, List.getD_eq_getElem?_getD, hk]
  rw [← e]
  exact h k hk


theorem ri {w : World} {A : Option Addr} {n : Nat} {xs : List Int} (h : (Kd.int .i64).C w A n xs) : ReadsInt w .i64 A n xs := Kd.reads_of_C (enc := Value.int .i64) (d := (0 : Int)) (h1 := fun _ => rfl) h

theorem cell_grown {w w' : World} {row : Option Nat} (hg : w.grownBy w' row) {a : Addr} {v : Value} (hc : w.cell? a = some v) (hne : some a.block ≠ row) : w'.cell? a = some v := by
  have h := hg.block a.block (World.block_lt_of_cell? w a hc) hne
  unfold World.cell? at hc ⊢
  rw [h]
  exact hc
theorem srt_len (l : List Int) : (srt l).length = l.length := by simp [srt]
theorem sorted_at {W2 W : World} (hb : Below W2.heap.size W2 W) {A : Option Addr} {zs : List Int} (hR : ReadsInt W2 .i64 A zs.length zs) (hl : zs.length ≤ 1000) (c : Nat) :
    Calls Try.prog 24 #[vArg W.heap.size] (W.alloc (.cells #[.slice A zs.length c] 23)) fun e w' => ∃ v, e = .returned v ∧ w'.ownsRow W2.heap.size 3 1 v (srt zs).length (nums .i64 (srt zs)) ∧ (v = .slice none 0 0 ↔ zs = []) ∧ Below W2.heap.size W2 w' := by
  have hb1 : Below W2.heap.size W2 (W.alloc (.cells #[.slice A zs.length c] 23)) := below_alloc hb _
  refine (callsIn_wide.1 (sortedVals 5 (by omega) W.heap.size c A zs _ (ReadsInt.below hR hb1) hl (by simp))).mono ?_
  rintro e w' ⟨v, rfl, ho, hn, hb2⟩
  rw [srt_len]
  exact ⟨v, rfl, own_weaken ho hb1.size, hn, below_step hb1 hb2⟩
theorem rising_fit {x : S41} (h : okL x = true) : ∀ z ∈ rising x.f1, fitB z = true := by
  intro z hz
  have hz' := ((rising_spec x.f1).2 z).1 hz
  simp only [okL, Bool.and_eq_true, Bool.not_eq_true', List.any_eq_false] at h
  simpa using h.2 z hz'
theorem rising_len (l : List Int) : (rising l).length ≤ l.length := by
  have := comp_len (srt l)
  rw [srt_len] at this
  exact this
theorem rising_nil {l : List Int} (h : rising l = []) : l = [] := by
  cases l with
  | nil => rfl
  | cons a l =>
    have := ((rising_spec (a :: l)).2 a).2 (by simp)
    rw [h] at this
    cases this
theorem nil_own {w : World} {B n : Nat} {v : Value} {xs : List Value} (ho : w.ownsRow B 3 1 v n xs) (h : v.ownBlock = none) : v = .slice none 0 0 := by
  rcases ho.2 with ⟨rfl, _⟩ | ⟨g, cap, cur, rfl, _⟩
  · rfl
  · cases h
theorem len_at {l : List S41} {k : Nat} (h : ∀ x ∈ l, x.f1.length ≤ 60) (hk : k < l.length) : (rd_T41 l (k : Int)).f1.length ≤ 60 := by
  have e : rd_T41 l (k : Int) = l[k] := by simp [rd_T41, List.getD_eq_getElem?_getD, hk]
  rw [e]
  exact h _ (List.getElem_mem hk)
theorem okL_at {l : List S41} {k : Nat} (h : l.all okL = true) (hk : k < l.length) : okL (rd_T41 l (k : Int)) = true := by
  have e : rd_T41 l (k : Int) = l[k] := by simp [rd_T41, List.getD_eq_getElem?_getD, hk]
  rw [e]
  exact List.all_eq_true.1 h _ (List.getElem_mem hk)

/-- The world behind New's first line. -/
def newW (w : World) : World := ((w.alloc (.map #[] 0)).alloc (.map #[] 0)).alloc (.cells #[.map (some w.heap.size), .map (some (w.heap.size + 1))] 46)
theorem newW_size (w : World) : (newW w).heap.size = w.heap.size + 3 := by simp [newW]
theorem newW_below (w : World) : Below w.heap.size w (newW w) := (((Below.refl _ w).alloc (Nat.le_refl _) _).alloc (by simp) _).alloc (by simp; omega) _

/-- A look-up hangs on the map's block alone. -/
theorem look_any (c : Bool) {t E : TypeId} (ht : Try.prog.underlying t = some (.map 3 E)) {z : Value} (hz : ∀ w, (zeroValue E).run Try.prog w = .ok z w) {R : Value → Option (DataW Unit × List MemPlace)} {b clock : Nat} {es : Array MapEntry}
    (F : WideElems.Fit Try.prog 3 R es clock) {key : Value} {kl : Lit} (hkey : keyOf Try.prog 3 key = some kl) :
    ∃ r, ∀ w : World, w.heap[b]? = some (.map es clock) → (Instr.lookup t (.map (some b)) key c).run Try.prog w = .ok r w := by
  have isK : ∀ {v : Value} {l : Lit}, keyOf Try.prog 3 v = some l → MapKept.IsKey (.int .i64) v := fun {v l} h => by
    have h' : mapKey Try.prog 3 v = some l := by rw [← h]; simp [keyOf, Try.underlying3]
    obtain ⟨d', hd', h1, h2⟩ := WideShapes.mapKey_isKey h'
    rw [Try.underlying3] at hd'
    cases hd'
    exact h1
  have hks : ∀ y ∈ es.toList, MapKept.IsKey (.int .i64) y.key := fun y hy => by
    obtain ⟨l, hl⟩ := F.keys y hy
    exact isK hl
  rcases MapKept.findNow_spec (isK hkey) es.toList 0 hks with ⟨h1, h2⟩ | ⟨j, e0, h1, h2, h3⟩
  · exact ⟨if c then .tuple #[z, .bool false] else z, fun w hb => by simp [Instr.lookup, run_underlying ht, MapKept.run_getObj_map hb, law3.check w _ hkey, MapKept.run_findKey Try.underlying3 h1, hz w, Result.andThen]⟩
  · exact ⟨if c then .tuple #[e0.val, .bool true] else e0.val, fun w hb => by simp [Instr.lookup, run_underlying ht, MapKept.run_getObj_map hb, law3.check w _ hkey, MapKept.run_findKey Try.underlying3 h1, Result.andThen]⟩
theorem groups_look (c : Bool) {t : TypeId} (ht : Try.prog.underlying t = some (.map 3 23)) {w : World} {base b n : Nat} {D : DataW Unit} (h : w.ownsGroups Try.prog 3 base 3 .i64 b n D) {key : Value} {kl : Lit} (hkey : keyOf Try.prog 3 key = some kl)
    {r : Value} (hr : (Instr.lookup t (.map (some b)) key c).run Try.prog w = .ok r w) {w' : World} (hs : w'.heap[b]? = w.heap[b]?) : (Instr.lookup t (.map (some b)) key c).run Try.prog w' = .ok r w' := by
  obtain ⟨es, clock, hb, F, _⟩ := h
  obtain ⟨r', hr'⟩ := look_any (b := b) c ht zero23 F hkey
  have := hr' w hb
  rw [hr] at this
  cases this
  exact hr' w' (hs.trans hb)

/-- At loop 2's head. -/
structure GI (w wr : World) (b : Nat) (m1 m2 : GM) (n1 n2 : Nat) : Prop where
  blk : wr.heap[b + 1 + 1]? = some (.cells #[.map (some b), .map (some (b + 1))] 46 (0, 0))
  one : wr.ownsGroups Try.prog 3 (b + 3) 3 .i64 b n1 (gz m1)
  other : wr.ownsGroups Try.prog 3 (b + 3) 3 .i64 (b + 1) n2 (gz m2)
  apart : ∃ T : Nat → Prop, wr.Shuns b T ∧ wr.Shuns (b + 1) (fun k => ¬ T k)
  below : Below w.heap.size w wr
theorem GI.later {w wr w' : World} {b : Nat} {m1 m2 : GM} {n1 n2 : Nat} (h : GI w wr b m1 m2 n1 n2) (hb : Below wr.heap.size wr w') : GI w w' b m1 m2 n1 n2 := by
  obtain ⟨T, h1, h2⟩ := h.apart
  exact ⟨(hb.block _ (Array.getElem?_eq_some_iff.1 h.blk).1).trans h.blk, groups_below h.one hb, groups_below h.other hb, ⟨T, shuns_below h1 h.one hb, shuns_below h2 h.other hb⟩, below_step h.below hb⟩
theorem GI.cell0 {w wr : World} {b : Nat} {m1 m2 : GM} {n1 n2 : Nat} (h : GI w wr b m1 m2 n1 n2) : wr.cell? ⟨b + 1 + 1, 0, none⟩ = some (.map (some b)) := by
  have := h.blk
  simp [World.cell?, this]
theorem GI.cell1 {w wr : World} {b : Nat} {m1 m2 : GM} {n1 n2 : Nat} (h : GI w wr b m1 m2 n1 n2) : wr.cell? ⟨b + 1 + 1, 1, none⟩ = some (.map (some (b + 1))) := by
  have := h.blk
  simp [World.cell?, this]
theorem key3 (n : Int) (h : fitB n = true) : keyOf Try.prog 3 (.int .i64 n) = some (.int .i64 n) := keyOf_int_mk Try.underlying3 (WalkArith.wf_i64 (by simp [fitB] at h; omega))


theorem GI.mono {w wr : World} {b : Nat} {m1 m2 : GM} {n1 n2 n1' n2' : Nat} (h : GI w wr b m1 m2 n1 n2) (h1 : n1 ≤ n1') (h2 : n2 ≤ n2') : GI w wr b m1 m2 n1' n2' := ⟨h.blk, groups_mono h.one h1, groups_mono h.other h2, h.apart, h.below⟩
theorem G1_succ {l : List S41} {k : Nat} (hk : k < l.length) : G1 (l.take (k + 1)) = putM (G1 (l.take k)) (rd_T41 l (k : Int)).f0 (rising (rd_T41 l (k : Int)).f1) := by
  have e : rd_T41 l (k : Int) = l[k] := by simp [rd_T41, List.getD_eq_getElem?_getD, hk]
  unfold G1
  rw [List.take_succ_eq_append_getElem hk, List.foldl_append, e]
  rfl
theorem G2_succ {l : List S41} {k : Nat} (hk : k < l.length) : G2 (l.take (k + 1)) = addR (G2 (l.take k)) (rd_T41 l (k : Int)).f0 (rising (rd_T41 l (k : Int)).f1) := by
  have e : rd_T41 l (k : Int) = l[k] := by simp [rd_T41, List.getD_eq_getElem?_getD, hk]
  unfold G2
  rw [List.take_succ_eq_append_getElem hk, List.foldl_append, e]
  rfl
theorem fit_wf {n : Int} (h : fitB n = true) : (Lit.int .i64 n).wf = true := WalkArith.wf_i64 (by simp [fitB] at h; omega)
theorem nil_none {w : World} {base : Nat} {u : Value} {zs : List Int} (ho : w.ownsInts base 3 .i64 u zs) (h : (.nil : DataW Unit) = rowDatum .i64 u zs) : u.ownBlock = none := by
  rcases ho.1.2 with ⟨rfl, _⟩ | ⟨g, cap, cur, rfl, _⟩
  · rfl
  · cases h
theorem dz_row {w : World} {base : Nat} {v : Value} {zs : List Int} (ho : w.ownsInts base 3 .i64 v zs) (hz : zs = [] → v.ownBlock = none) : rowDatum (H := Unit) .i64 v zs = dz zs := by
  unfold dz
  split
  · rename_i h
    rcases ho.1.2 with ⟨rfl, _⟩ | ⟨g, cap, cur, rfl, _⟩
    · rfl
    · cases hz h
  · rename_i h
    exact ho.datum_pos h
/-- The store by the way back, and who shuns what. -/
theorem back_shuns {w0 w1 : World} {base b n : Nat} {D : DataW Unit} {a : Int} (ha : fitB a = true) {u v' : Value} {zs zs' : List Int} {No : Nat → Prop} (hown0 : w0.ownsGroups Try.prog 3 base 3 .i64 b n D) (hn : n < maxLen) (hu : w0.ownsInts base 3 .i64 u zs)
    (hback : w0.groupBack Try.prog 44 3 base 3 .i64 b n D (.int .i64 a) (.int .i64 a) u) (hsh : w0.Shuns b No) (hno : ∀ g, v'.ownBlock = some g → ¬ No g)
    (hgr : w0.grownBy w1 u.ownBlock) (hown' : w1.ownsInts base 3 .i64 v' zs') (hl' : zs'.length ≤ n + 1) (hloc : v'.ownBlock = u.ownBlock ∨ ∃ g, v'.ownBlock = some g ∧ w0.heap.size ≤ g) :
    ∃ w2, (Instr.mapUpdate 44 (.map (some b)) (.int .i64 a) v').run Try.prog w1 = .ok () w2 ∧ w2.ownsGroups Try.prog 3 base 3 .i64 b (n + 1) (D.put (.int .i64 a) (rowDatum .i64 v' zs')) ∧ w1.grownBy w2 (some b) ∧ w2.Shuns b No := by
  obtain ⟨w2, hrun, r1, r2⟩ := hback w1 v' zs' hgr hown' hl' hloc
  refine ⟨w2, hrun, r1, r2, ?_⟩
  obtain ⟨es, clock, hb, F, hs, _, hbb, _⟩ := hown0
  have hblt : b < w0.heap.size := (Array.getElem?_eq_some_iff.1 hb).1
  have hb1 : w1.heap[b]? = some (.map es clock) := (hgr.block b hblt (fun e1 => by have := (hu.1.lt b e1.symm).1; omega)).trans hb
  obtain ⟨es', clock', hb2, hwho⟩ := stored_who law3 Try.underlying44 hb1 F (Nat.lt_of_le_of_lt hs hn) (key3 a ha) hrun
  intro es2 clock2 hb2' y hy g hyg
  obtain ⟨rfl, rfl⟩ : es' = es2 ∧ clock' = clock2 := by rw [hb2] at hb2'; simpa using hb2'
  rcases hwho y hy with ⟨hy0, _⟩ | ⟨_, hval⟩
  · exact hsh es clock hb y hy0 g hyg
  · exact hno g (hval ▸ hyg)

/-- v avoids what the groups of block b shun. -/
def Off (W : World) (b : Nat) (v : Value) : Prop := ∀ No : Nat → Prop, W.Shuns b No → ∀ g, v.ownBlock = some g → ¬ No g
theorem Off.same {W W' : World} {b : Nat} {v : Value} (h : Off W b v) (hs : W'.heap[b]? = W.heap[b]?) : Off W' b v := fun No hn g hg => h No (fun es clock hb => hn es clock (hs.trans hb)) g hg
theorem off_at {w : World} {base b n : Nat} {D : DataW Unit} (hown : w.ownsGroups Try.prog 3 base 3 .i64 b n D) {key : Value} {kl : Lit} (hkey : keyOf Try.prog 3 key = some kl) {v : Value} (hr : (Instr.lookup 44 (.map (some b)) key false).run Try.prog w = .ok v w) : Off w b v := by
  obtain ⟨es, clock, hb, F, _⟩ := hown
  rcases Maps.fit_look false law3 Try.underlying44 (zero23 _) hb F hkey with ⟨hrun', _, _⟩ | ⟨e0, y, hm0, _, hrun', _, _, _⟩
  · rw [hr] at hrun'
    obtain rfl : v = .slice none 0 0 := by simpa using hrun'
    intro _ _ g hg'
    cases hg'
  · rw [hr] at hrun'
    obtain rfl : v = e0.val := by simpa using hrun'
    exact fun No hs g hg' => hs es clock hb e0 hm0 g hg'
theorem GI.off_ne {w W : World} {b : Nat} {m1 m2 : GM} {n1 n2 : Nat} (hg : GI w W b m1 m2 n1 n2) {v u : Value} (h1 : Off W b v) (h2 : Off W (b + 1) u) : v.ownBlock = none ∨ v.ownBlock ≠ u.ownBlock := by
  obtain ⟨T, hs1, hs2⟩ := hg.apart
  cases hv : v.ownBlock with
  | none => exact .inl rfl
  | some g =>
    refine .inr (fun e => ?_)
    exact h2 _ hs2 g e.symm (h1 _ hs1 g hv)
theorem addR_succ (m : GM) (a : Int) (R : List Int) {j : Nat} (hj : j < R.length) : addR m a (R.take (j + 1)) = putM (addR m a (R.take j)) (rd R (j : Int)) (((getM (addR m a (R.take j)) (rd R (j : Int))).getD []) ++ [a]) := by
  have e : rd R (j : Int) = R[j] := by simp [rd, List.getD_eq_getElem?_getD, hj]
  unfold addR
  rw [List.take_succ_eq_append_getElem hj, List.foldl_append, e]
  rfl

/-- The first map's new entry. -/
theorem GI.store1 {w W w5 : World} {b : Nat} {m1 m2 : GM} {n1 n2 : Nat} (hg : GI w W b m1 m2 n1 n2) (hB : w.heap.size ≤ b) (hn1 : n1 < maxLen) {a : Int} (ha : fitB a = true) (hno : getM m1 a = none) (hb5 : Below W.heap.size W w5)
    {v' : Value} {zs' : List Int} (ho : w5.ownsRow W.heap.size 3 1 v' zs'.length (nums .i64 zs')) (hz : zs' = [] → v'.ownBlock = none) (hwf : ∀ z ∈ zs', fitB z = true) (hlen : zs'.length ≤ n1 + 1) :
    ∃ w6, (Instr.mapUpdate 44 (.map (some b)) (.int .i64 a) v').run Try.prog w5 = .ok () w6 ∧ GI w w6 b (putM m1 a zs') m2 (n1 + 1) n2 ∧ w5.grownBy w6 (some b) := by
  obtain ⟨T, hs1, hs2⟩ := hg.apart
  obtain ⟨u, zs, _, hat, hoi, _, hback⟩ := hg.one.at law3 Try.underlying44 (zero23 _) hn1 (key3 a ha)
  have hun : u.ownBlock = none := nil_none hoi (by rw [← hat, gmap_at, hno])
  have hbl : b + 3 ≤ W.heap.size := by
    have := (Array.getElem?_eq_some_iff.1 hg.blk).1
    omega
  have hoi' : w5.ownsInts (b + 3) 3 .i64 v' zs' := ⟨own_weaken ho hbl, fun z hz => fit_wf (hwf z hz)⟩
  have hs1' : W.Shuns b (fun k => T k ∧ k < W.heap.size) := hs1.reno hg.one (fun g hg => .inl hg.1)
  have hs2' : W.Shuns (b + 1) (fun k => ¬ (T k ∧ k < W.heap.size)) := hs2.reno hg.other (fun g hg => by
    by_cases h : g < W.heap.size
    · exact .inl (fun ht => hg ⟨ht, h⟩)
    · exact .inr (by omega))
  obtain ⟨w6, hrun, hown6, hgr6, hsh6⟩ := back_shuns ha hg.one hn1 hoi hback hs1' (fun g e hT => by have := own_base ho g e; omega) (grown_of_below hb5 _) hoi' hlen (by
    cases hv : v'.ownBlock with
    | none => exact .inl hun.symm
    | some g => exact .inr ⟨g, rfl, own_base ho g hv⟩)
  rw [dz_row hoi' hz, gmap_put] at hown6
  have hot5 := groups_below hg.other hb5
  have hsh5 := shuns_below hs2' hg.other hb5
  refine ⟨w6, hrun, ⟨?_, hown6, ?_, ⟨_, hsh6, ?_⟩, ?_⟩, hgr6⟩
  · refine (hgr6.block _ ?_ ?_).trans ((hb5.block _ (by omega)).trans hg.blk)
    · have := hb5.size; omega
    · intro e; injection e with e; omega
  · exact hot5.kept hgr6 (by intro e; injection e with e; omega) (hot5.rowsAbove (fun j hj => by cases hj; omega))
  · exact hsh5.kept hgr6 (groups_lt hot5) (by intro e; injection e with e; omega)
  · exact (below_step hg.below hb5).grown hgr6 (below_step hg.below hb5).size (fun j hj => by cases hj; exact hB)

/-- The second map's entry, one longer. -/
theorem GI.store2 {w W w5 : World} {b : Nat} {m1 m2 : GM} {n1 n2 : Nat} (hg : GI w W b m1 m2 n1 n2) (hB : w.heap.size ≤ b) (hn2 : n2 < maxLen) {a : Int} (ha : fitB a = true) {u v' : Value} {zs zs' : List Int} (hoi : W.ownsInts (b + 3) 3 .i64 u zs)
    (hback : W.groupBack Try.prog 44 3 (b + 3) 3 .i64 (b + 1) n2 (gz m2) (.int .i64 a) (.int .i64 a) u) (hu : ∀ No : Nat → Prop, W.Shuns (b + 1) No → ∀ g, u.ownBlock = some g → ¬ No g)
    (hgr : W.grownBy w5 u.ownBlock) (hown' : w5.ownsInts (b + 3) 3 .i64 v' zs') (hz : zs' ≠ []) (hl' : zs'.length ≤ n2 + 1) (hloc : v'.ownBlock = u.ownBlock ∨ ∃ g, v'.ownBlock = some g ∧ W.heap.size ≤ g) :
    ∃ w6, (Instr.mapUpdate 44 (.map (some (b + 1))) (.int .i64 a) v').run Try.prog w5 = .ok () w6 ∧ GI w w6 b m1 (putM m2 a zs') n1 (n2 + 1) ∧ w5.grownBy w6 (some (b + 1)) := by
  obtain ⟨T, hs1, hs2⟩ := hg.apart
  have hbl : b + 3 ≤ W.heap.size := by
    have := (Array.getElem?_eq_some_iff.1 hg.blk).1
    omega
  have hs1' : W.Shuns b (fun k => T k ∨ W.heap.size ≤ k) := hs1.reno hg.one (fun g hg => hg.imp id id)
  have hs2' : W.Shuns (b + 1) (fun k => ¬ (T k ∨ W.heap.size ≤ k)) := hs2.reno hg.other (fun g hg => .inl (fun ht => hg (.inl ht)))
  have hub : ∀ g, u.ownBlock = some g → T g := fun g e => by
    have := hu _ hs2 g e
    simpa using this
  obtain ⟨w6, hrun, hown6, hgr6, hsh6⟩ := back_shuns ha hg.other hn2 hoi hback hs2' (fun g e hT => by
    rcases hloc with h | ⟨g', h, hle⟩
    · exact hT (.inl (hub g (h ▸ e)))
    · rw [h] at e; cases e; exact hT (.inr hle)) hgr hown' hl' hloc
  rw [dz_row hown' (fun h => absurd h hz), gmap_put] at hown6
  have hbu : ∀ j, j < b + 3 → some j ≠ u.ownBlock := fun j hj e => by have := (hoi.1.lt j e.symm).1; omega
  have hone5 : w5.ownsGroups Try.prog 3 (b + 3) 3 .i64 b n1 (gz m1) := hg.one.kept hgr (hbu b (by omega)) (hs1.rowsOff hub)
  have hsh5 := hs1'.kept hgr (groups_lt hg.one) (hbu b (by omega))
  have hb5 : Below w.heap.size w w5 := hg.below.grown hgr hg.below.size (fun j hj => by have := (hoi.1.lt j hj).1; omega)
  refine ⟨w6, hrun, ⟨?_, ?_, hown6, ⟨_, ?_, hsh6⟩, ?_⟩, hgr6⟩
  · refine (hgr6.block _ ?_ ?_).trans ((hgr.block _ (by omega) (hbu _ (by omega))).trans hg.blk)
    · have := hgr.size; omega
    · intro e; injection e with e; omega
  · exact hone5.kept hgr6 (by intro e; injection e with e; omega) (hone5.rowsAbove (fun j hj => by cases hj; omega))
  · exact hsh5.kept hgr6 (groups_lt hone5) (by intro e; injection e with e; omega)
  · exact hb5.grown hgr6 hb5.size (fun j hj => by cases hj; omega)

set_option maxRecDepth 100000 in
set_option maxHeartbeats 4000000 in
theorem new_any (A : Option Addr) (c : Nat) (l : List S41) (w : World) (hC : Kd.C k41 w A l.length l) (hl : l.length ≤ 60) (hr : ∀ x ∈ l, x.f1.length ≤ 60) :
    Calls Try.prog 7 #[.slice A l.length c] w (NewAre l w) := by
  have hmm := @run_makeMap Try.prog
  have hsz := newW_size w
  go_enter Try.func7, Try.ntmps7
  go_wp2
  rw [show ((w.alloc (.map #[] 0)).alloc (.map #[] 0)).alloc (.cells #[.map (some w.heap.size), .map (some (w.heap.size + 1))] 46) = newW w from rfl]
  go_loopw [6, 19] (fun _ i wr => ∃ k : Nat, k ≤ l.length ∧ i = .int .i64 k ∧ Below (newW w).heap.size (newW w) wr ∧ Hid (∀ j, j < k → okL (rd_T41 l (j : Int)) = true)) (fun _ i _ => l.length - (intOf i).toNat)
  case atStart => exact ⟨0, Nat.zero_le _, rfl, Below.refl _ _, Lib.hid (fun j h => absurd h (Nat.not_lt_zero _))⟩
  case round =>
    obtain ⟨k, hk, rfl, hbr, HO⟩ := hrel
    by_cases hlt : k < l.length
    · have hbw : Below w.heap.size w wr := below_then (newW_below w) (by omega) hbr
      obtain ⟨ad, A1, c1, rfl, h0, h1, hc1, hC1⟩ := at_T41 (Kd.C_below hC hbw) (k : Int) (by omega) (by omega)
      rw [Int.toNat_natCast] at h0 h1
      obtain ⟨x, hx⟩ : ∃ x, x = rd_T41 l (k : Int) := ⟨_, rfl⟩
      rw [← hx] at h0 h1 hc1 hC1
      have HX := Lib.hid hx
      clear hx
      have hbox0 : (wr.alloc (.cells #[.int .i64 x.f0, .slice A1 x.f1.length c1] 41)).cell? ⟨wr.heap.size, 0, none⟩ = some (.int .i64 x.f0) := by simp
      have hbox1 : (wr.alloc (.cells #[.int .i64 x.f0, .slice A1 x.f1.length c1] 41)).cell? ⟨wr.heap.size, 1, none⟩ = some (.slice A1 x.f1.length c1) := by simp
      by_cases hf : fitB x.f0 = true
      · cases ha : x.f1.any fun n => !fitB n with
        | true =>
          go_wp2_with (first
            | (go_at_call 20; refine (fit20 x.f0 _).mono ?_; rintro e w1 ⟨rfl, hb1⟩; have hbox1' := pw_cell_below hb1 hbox1)
            | (go_at_call 21; refine (containsFunc_any A1 c1 x.f1 _ (ReadsInt.below (ri hC1) (below_then (below_alloc (Below.refl _ _) _) (by simp) hb1))).mono ?_; rw [ha]; rintro e w2 ⟨rfl, hb2⟩)
            | go_in)
          go_ret2
          refine ⟨.inl ⟨okL_false hlt (by rw [← HX.out]; simp [okL, ha]), rfl⟩, ?_⟩
          exact below_step (below_step (below_alloc hbw _) hb1) hb2
        | false =>
          go_wp2_with (first
            | (go_at_call 20; refine (fit20 x.f0 _).mono ?_; rintro e w1 ⟨rfl, hb1⟩; have hbox1' := pw_cell_below hb1 hbox1)
            | (go_at_call 21; refine (containsFunc_any A1 c1 x.f1 _ (ReadsInt.below (ri hC1) (below_then (below_alloc (Below.refl _ _) _) (by simp) hb1))).mono ?_; rw [ha]; rintro e w2 ⟨rfl, hb2⟩)
            | go_in)
          go_roundw
          case rel =>
            refine ⟨k + 1, by omega, by go_num, below_step (below_step (below_alloc hbr _) hb1) hb2, Lib.hid (fun j hj => ?_)⟩
            by_cases e : j = k
            · subst e; rw [← HX.out]; simp [okL, ha, hf]
            · exact HO.out j (by omega)
          case measure => simp [intOf]; omega
      · have hf' : fitB x.f0 = false := by simpa using hf
        go_wp2_with (first
            | (go_at_call 20; refine (fit20 x.f0 _).mono ?_; rintro e w1 ⟨rfl, hb1⟩)
            | go_in)
        go_ret2
        refine ⟨.inl ⟨okL_false hlt (by rw [← HX.out]; simp [okL, hf']), rfl⟩, ?_⟩
        exact below_step (below_alloc hbw _) hb1
    · obtain rfl : k = l.length := by omega
      have hall := Lib.hid (okL_true HO.out)
      clear HO hlt hk
      go_wp2
      go_loopw [35] (fun i wr => ∃ k : Nat, k ≤ l.length ∧ i = .int .i64 k ∧ Hid (GI w wr w.heap.size (G1 (l.take k)) (G2 (l.take k)) (60 + k) (60 * k)) ∧ Hid (∀ j, j < k → dup l j = false)) (fun i _ => l.length - (intOf i).toNat)
      case atStart =>
        refine ⟨0, Nat.zero_le _, rfl, Lib.hid ?_, Lib.hid (fun j h => absurd h (Nat.not_lt_zero _))⟩
        have h0 : (newW w).heap[w.heap.size]? = some (.map #[] 0) := by
          unfold newW
          exact (Below.heap_alloc _ _ _ (by simp; omega)).trans ((Below.heap_alloc _ _ _ (by simp)).trans (World.alloc_heap_new w _))
        have h1 : (newW w).heap[w.heap.size + 1]? = some (.map #[] 0) := by
          unfold newW
          have := World.alloc_heap_new (w.alloc (.map #[] 0)) (.map #[] 0)
          rw [World.size_alloc] at this
          exact (Below.heap_alloc _ _ _ (by simp)).trans this
        have h2 : (newW w).heap[w.heap.size + 1 + 1]? = some (.cells #[.map (some w.heap.size), .map (some (w.heap.size + 1))] 46 (0, 0)) := by
          unfold newW
          have := World.alloc_heap_new ((w.alloc (.map #[] 0)).alloc (.map #[] 0)) (.cells #[.map (some w.heap.size), .map (some (w.heap.size + 1))] 46 )
          rw [World.size_alloc, World.size_alloc] at this
          exact this
        have hnew : GI w (newW w) w.heap.size [] [] 0 0 := ⟨h2, made0 h0 (by omega), made0 h1 (by omega), ⟨fun _ => False, fun es clock hb x hx => by
          rw [h0] at hb; cases hb; simp at hx, fun es clock hb x hx => by rw [h1] at hb; cases hb; simp at hx⟩, newW_below w⟩
        exact (hnew.later hbr).mono (by omega) (by omega)
      case round =>
        clear hbr
        obtain ⟨k, hk, rfl, HG, HD⟩ := hrel
        by_cases hlt : k < l.length
        · have hg := HG.out
          have hbw := hg.below
          obtain ⟨ad, A1, c1, rfl, h0, h1, hc1, hC1⟩ := at_T41 (Kd.C_below hC hbw) (k : Int) (by omega) (by omega)
          rw [Int.toNat_natCast] at h0 h1
          obtain ⟨x, hx⟩ : ∃ x, x = rd_T41 l (k : Int) := ⟨_, rfl⟩
          rw [← hx] at h0 h1 hc1 hC1
          have HX := Lib.hid hx
          clear hx
          have hbox0 : (wr.alloc (.cells #[.int .i64 x.f0, .slice A1 x.f1.length c1] 41)).cell? ⟨wr.heap.size, 0, none⟩ = some (.int .i64 x.f0) := by simp
          have hbox1 : (wr.alloc (.cells #[.int .i64 x.f0, .slice A1 x.f1.length c1] 41)).cell? ⟨wr.heap.size, 1, none⟩ = some (.slice A1 x.f1.length c1) := by simp
          obtain ⟨W1, hW1⟩ : ∃ W1, W1 = wr.alloc (.cells #[.int .i64 x.f0, .slice A1 x.f1.length c1] 41) := ⟨_, rfl⟩
          have hb1 : Below wr.heap.size wr W1 := by rw [hW1]; exact below_alloc (Below.refl _ _) _
          have hs1 : W1.heap.size = wr.heap.size + 1 := by rw [hW1]; simp
          have hk1 : W1.heap[wr.heap.size]? = some (.cells #[.int .i64 x.f0, .slice A1 x.f1.length c1] 41 (0, 0)) := by rw [hW1]; exact World.alloc_heap_new wr _
          rw [← hW1] at hbox0 hbox1
          have HW := Lib.hid hW1
          clear hW1
          have hg1 := hg.later hb1
          have ht0 := hg1.cell0
          have ht1 := hg1.cell1
          have hok : okL x = true := by rw [HX.out]; exact okL_at hall.out hlt
          have hfit : fitB x.f0 = true := by
            have := hok
            simp only [okL, Bool.and_eq_true] at this
            exact this.1
          obtain ⟨u0, hlook⟩ := hg1.one.atOk law3 Try.underlying44 (zero23 _) (key3 x.f0 hfit)
          have hdd : (getM (G1 (l.take k)) x.f0).isSome = dup l k := by unfold dup; rw [HX.out]
          rw [gmap_has, hdd] at hlook
          replace hlook := fun n => groups_look true Try.underlying44 hg1.one (key3 x.f0 hfit) hlook (w' := W1.drewN n) rfl
          cases hd : dup l k with
          | true =>
            rw [hd] at hlook
            go_wp2_with fail
            rw [← HW.out]
            go_big_quiet (fail)
            go_wp2
            go_ret2
            exact ⟨.inr (.inl ⟨hall.out, ⟨k, hlt, hd⟩, rfl⟩), by exact pw_below_drewN (below_step hbw hb1) nq⟩
          | false =>
            rw [hd] at hlook
            go_wp2_with fail
            rw [← HW.out]
            go_big_quiet (fail)
            have hb2 : Below W1.heap.size W1 (W1.drewN nq) := pw_below_drewN (Below.refl _ _) nq
            have hbox0 := pw_cell_below hb2 hbox0
            have hbox1 := pw_cell_below hb2 hbox1
            have hg2 := hg1.later hb2
            have hC2 := ReadsInt.below (ReadsInt.below (ri hC1) hb1) hb2
            have hw2 : wr.heap.size < (W1.drewN nq).heap.size := by show _ < W1.heap.size; omega
            generalize W1.drewN nq = W2 at *
            clear hlook ht0 ht1 hg1
            have ht0 := hg2.cell0
            have ht1 := hg2.cell1
            have hno : getM (G1 (l.take k)) x.f0 = none := by
              have := hdd.trans hd
              cases h : getM (G1 (l.take k)) x.f0
              · rfl
              · rw [h] at this; cases this
            have hlx : x.f1.length ≤ 60 := by rw [HX.out]; exact len_at hr hlt
            have hwr : w.heap.size + 1 + 1 < wr.heap.size := (Array.getElem?_eq_some_iff.1 hg.blk).1
            go_wp2_with fail
            go_region_held3 (fun w' => w'.cell? ⟨w.heap.size + 1 + 1, 0, none⟩ = some (.map (some w.heap.size)) ∧ w'.cell? ⟨wr.heap.size, 0, none⟩ = some (.int .i64 x.f0) ∧ w'.cell? ⟨wr.heap.size, 1, none⟩ = some (.slice A1 x.f1.length c1))
              (first
                | go_keep
                | (exact ⟨cell_grown hgr6 (pw_cell_below hbS ht0) (by simp; omega), cell_grown hgr6 (pw_cell_below hbS hbox0) (by simp; omega), cell_grown hgr6 (pw_cell_below hbS hbox1) (by simp; omega)⟩)
                | (exact ⟨pw_cell_below hbS ht0, pw_cell_below hbS hbox0, pw_cell_below hbS hbox1⟩))
              (first
                | (go_at_call 25; refine (values_any _ _ _ _).mono ?_; rintro e w3 ⟨rfl, rfl⟩)
                | (go_at_call 24; refine (sorted_at (below_drew1 (Below.refl _ W2)) hC2 (by omega) c1).mono ?_; rintro e w4 ⟨v4, rfl, ho4, hn4, hbS⟩)
                | (go_at_call 23
                   refine (compact_any v4 W2.heap.size (srt x.f1) w4 ho4 (by rw [srt_len]; omega) hbS.size).mono ?_
                   rintro e w5 ⟨v5, rfl, ho5, hgr5, hv5⟩
                   have hbS : Below W2.heap.size W2 w5 := hbS.grown hgr5 hbS.size (fun j hj => own_base ho4 j hj)
                   obtain ⟨w6, hrun6, hg6, hgr6⟩ := hg2.store1 (Nat.le_refl _) (by unfold maxLen; omega) hfit hno hbS ho5 (fun h => by rw [hv5, hn4.2 (rising_nil h)]; rfl) (rising_fit hok) (Nat.le_trans (rising_len _) (by omega))))
            have hk6 : w6.heap[wr.heap.size]? = some (.cells #[.int .i64 x.f0, .slice A1 x.f1.length c1] 41 (0, 0)) := by
              refine (hgr6.block _ ?_ ?_).trans ((hbS.block _ hw2).trans ((hb2.block _ (by omega)).trans hk1))
              · have := hbS.size; omega
              · intro e; injection e with e; omega
            have hbx0 : w6.cell? ⟨wr.heap.size, 0, none⟩ = some (.int .i64 x.f0) := cell_grown hgr6 (pw_cell_below hbS hbox0) (by simp; omega)
            have hw6 : wr.heap.size < w6.heap.size := World.block_lt_of_cell? w6 ⟨wr.heap.size, 0, none⟩ hbx0
            clear hbox0 hbox1 ht0 ht1 ho4 ho5 hgr5 hv5 hn4 hbS hrun6 hgr6 hC2 hg2 hb2
            have ht0 := hg6.cell0
            obtain ⟨v7, zs7, hrun7, hat7, ho7, _, _⟩ := hg6.one.at law3 Try.underlying44 (zero23 _) (by unfold maxLen; omega) (key3 x.f0 hfit)
            have hz7 : zs7 = rising x.f1 := by
              have := at_getM ho7 hat7
              rw [getM_put, if_pos rfl] at this
              exact this
            subst hz7
            obtain ⟨A7, c7, rfl⟩ := own_slice ho7.1
            have hlook := fun n => groups_look false Try.underlying44 hg6.one (key3 x.f0 hfit) hrun7 (w' := w6.drewN n) rfl
            have hl7 := Nat.le_trans (rising_len x.f1) hlx
            have hrf := rising_fit hok
            have hoff7 := off_at hg6.one (key3 x.f0 hfit) hrun7
            go_wp2_with fail
            go_big_quiet (fail)
            obtain ⟨R, hR⟩ : ∃ R, R = rising x.f1 := ⟨_, rfl⟩
            obtain ⟨B8, hB8⟩ : ∃ B8, B8 = wr.heap.size := ⟨_, rfl⟩
            have hb7 : Below w6.heap.size w6 (w6.drewN nq) := pw_below_drewN (Below.refl _ _) nq
            have hg7 := hg6.later hb7
            have ho7' : (w6.drewN nq).ownsInts (w.heap.size + 3) 3 .i64 (.slice A7 (rising x.f1).length c7) (rising x.f1) := ho7.kept (grown_of_below hb7 none) (by cases A7 <;> simp [Value.ownBlock])
            have hoff7' : Off (w6.drewN nq) w.heap.size (.slice A7 (rising x.f1).length c7) := hoff7.same rfl
            have hbx7 : (w6.drewN nq).heap[wr.heap.size]? = some (.cells #[.int .i64 x.f0, .slice A1 x.f1.length c1] 41 (0, 0)) := hk6
            clear hk6 hk1
            change GI w (w6.drewN nq) w.heap.size (putM (G1 (l.take k)) x.f0 (rising x.f1)) (G2 (l.take k)) (60 + k + 1) (60 * k) at hg7
            generalize w6.drewN nq = W7 at *
            clear ho7 hrun7 hat7 hoff7 hlook hg6 hb7 hbx0 ht0
            rw [← hR] at ho7' hoff7' hg7 hl7 hrf ⊢
            rw [← hB8] at hbx7 hw6 hwr ⊢
            have HR := Lib.hid hR
            have HB8 := Lib.hid hB8
            clear hR hB8
            go_wp2_with fail
            go_loopw [69] (fun i W => ∃ j : Nat, j ≤ R.length ∧ i = .int .i64 j ∧ Hid (GI w W w.heap.size (putM (G1 (l.take k)) x.f0 R) (addR (G2 (l.take k)) x.f0 (R.take j)) (60 + k + 1) (60 * k + j)) ∧ Hid (W.ownsInts (w.heap.size + 3) 3 .i64 (.slice A7 R.length c7) R) ∧ Hid (Off W w.heap.size (.slice A7 R.length c7)) ∧ Hid (W.heap[B8]? = some (.cells #[.int .i64 x.f0, .slice A1 x.f1.length c1] 41 (0, 0)))) (fun i _ => R.length - (intOf i).toNat)
            case atStart => exact ⟨0, Nat.zero_le _, rfl, Lib.hid hg7, Lib.hid ho7', Lib.hid hoff7', Lib.hid hbx7⟩
            case round =>
              clear hg7 ho7' hoff7' hbx7
              obtain ⟨j, hj, rfl, HG7, HO7, HF7, HX7⟩ := hrel
              by_cases hlt2 : j < R.length
              · have hgW := HG7.out
                have ht1 := hgW.cell1
                have hbx : wr.cell? ⟨B8, 0, none⟩ = some (.int .i64 x.f0) := by simp [World.cell?, HX7.out]
                obtain ⟨A7', c7', he7, hR7⟩ := own_reads HO7.out.1
                injection he7 with he7 _ he7c
                subst he7; subst he7c
                obtain ⟨ad7, rfl, hc7⟩ := hR7.at_ (j : Int) (by omega) (by omega)
                rw [Int.toNat_natCast] at hc7
                obtain ⟨n, hn⟩ : ∃ n, n = rd R (j : Int) := ⟨_, rfl⟩
                rw [← hn] at hc7
                have hfn : fitB n = true := by rw [hn]; exact hrf _ (by simp [rd, List.getD_eq_getElem?_getD, hlt2])
                have HN := Lib.hid hn
                clear hn
                obtain ⟨u, zs, hrunu, hatu, hou, hzl, hback⟩ := hgW.other.at law3 Try.underlying44 (zero23 _) (by unfold maxLen; omega) (key3 n hfn)
                have hoffu := off_at hgW.other (key3 n hfn) hrunu
                have hl2 : ∀ W' : World, W'.heap[w.heap.size + 1]? = wr.heap[w.heap.size + 1]? → (Instr.lookup 44 (.map (some (w.heap.size + 1))) (.int .i64 n) false).run Try.prog W' = .ok u W' := fun W' h => groups_look false Try.underlying44 hgW.other (key3 n hfn) hrunu h
                have hb1lt := groups_lt hgW.other
                have hlA := hl2 wr.drew rfl
                have hlB := hl2 ((wr.alloc (.cells #[.int .i64 x.f0] 3)).drew) (Below.heap_alloc _ _ _ hb1lt)
                have hlC := hl2 (wr.drew.alloc (.cells #[.int .i64 x.f0] 3)) (Below.heap_alloc _ _ _ hb1lt)
                obtain ⟨i0, hi, hz0, hz1, hz2⟩ := info_parts PGraphTells.info3
                have hB8lt : B8 < wr.heap.size := World.block_lt_of_cell? wr ⟨B8, 0, none⟩ hbx
                have hbl : w.heap.size + 3 ≤ wr.heap.size := by
                  have := (Array.getElem?_eq_some_iff.1 hgW.blk).1
                  omega
                have hne8 : some B8 ≠ u.ownBlock := by
                  rcases hou.1.2 with ⟨rfl, _⟩ | ⟨g, cap, cur, rfl, _, hh, _⟩
                  · simp [Value.ownBlock]
                  · intro e
                    obtain rfl : B8 = g := by simpa [Value.ownBlock] using e
                    rw [HX7.out] at hh
                    cases hh
                have hnet : some (w.heap.size + 1 + 1) ≠ u.ownBlock := fun e => by have := (hou.1.lt _ e.symm).1; omega
                have hzs := at_getM hou hatu
                have HBK := Lib.hid hback
                have HZS := Lib.hid hzs
                clear hl2 hrunu hatu hback hzs
                go_wp2_with fail
                go_region_held3 (fun w' => w'.cell? ⟨w.heap.size + 1 + 1, 1, none⟩ = some (.map (some (w.heap.size + 1))) ∧ w'.cell? ⟨B8, 0, none⟩ = some (.int .i64 x.f0))
                  (first
                    | exact ⟨hcd1, hcd2⟩
                    | exact ⟨hcc1, hcc2⟩
                    | go_keep)
                  ((refine step_append_lies _ (by rfl) _ _ 23 (by rfl) (w.heap.size + 3) 3 i0 (.int .i64 0) 1 8 Try.underlying23 hi hz0 hz1 hz2 rfl (by omega) u zs.length (zs.map (Value.int .i64)) (by rfl) ((hou.1.alloc _).drew)
                      ⟨wr.heap.size, 0, none⟩ 1 1 [.int .i64 x.f0] (by rfl) (by rfl) (World.news_of_block (cs := #[.int .i64 x.f0]) (t := 3) (fr := (0, 0)) (heap_alloc_new wr _)) (by simp [Value.oneCell'])
                      (by omega) (by unfold maxLen; omega) (by omega) (by simp; omega) (wr.heap.size + 1) (by simp) ?_
                    intro g cap w1 hown1 hgrow hat hlt1
                    have hgr0 : wr.grownBy w1 u.ownBlock := (grown_of_below (below_alloc (below_drew1 (Below.refl _ wr)) _) _).trans hgrow
                    have hcc1 := cell_grown hgr0 ht1 hnet
                    have hcc2 := cell_grown hgr0 hbx hne8
                    obtain ⟨w6, hrun6, hg6, hgr6⟩ := hgW.store2 (Nat.le_refl _) (by unfold maxLen; omega) hfn hou HBK.out hoffu hgr0 (hou.appended hown1 (fit_wf hfit)) (by simp) (by simp; omega) (hat.elim (fun e => .inl e.symm) (fun e => .inr ⟨g, rfl, by omega⟩))
                    have hcd1 := cell_grown hgr6 hcc1 (by simp)
                    have hcd2 := cell_grown hgr6 hcc2 (by simp; omega)))
                all_goals
                  go_wp2_with fail
                  go_roundw
                  case rel =>
                    have hb1ne : some w.heap.size ≠ u.ownBlock := fun e => by have := (hou.1.lt _ e.symm).1; omega
                    refine ⟨j + 1, by omega, by go_num, Lib.hid ?_, Lib.hid ?_, Lib.hid ?_, Lib.hid ?_⟩
                    · rw [addR_succ _ _ _ hlt2, ← HN.out, ← HZS.out]
                      exact hg6
                    · exact (HO7.out.kept hgr0 (hgW.off_ne HF7.out hoffu)).kept hgr6 (by
                        cases hA : (Value.slice (some ad7) R.length c7).ownBlock with
                        | none => exact .inl rfl
                        | some g7 =>
                          refine .inr (fun e => ?_)
                          have := (HO7.out.1.lt g7 hA).1
                          injection e with e
                          omega)
                    · exact HF7.out.same ((hgr6.block _ (by have := hgr0.size; omega) (by intro e; injection e with e; omega)).trans (hgr0.block _ (by omega) hb1ne))
                    · exact (hgr6.block _ (by have := hgr0.size; omega) (by intro e; injection e with e; omega)).trans ((hgr0.block _ hB8lt hne8).trans HX7.out)
                  case measure => simp [intOf]; omega
              · obtain rfl : j = R.length := by omega
                rw [List.take_length] at HG7
                go_wp2_with fail
                go_roundw
                case rel =>
                  refine ⟨k + 1, by omega, by go_num, Lib.hid ?_, Lib.hid ?_⟩
                  · rw [G1_succ hlt, G2_succ hlt, ← HX.out, ← HR.out]
                    exact HG7.out.mono (by omega) (by omega)
                  · intro i hi
                    by_cases e : i = k
                    · subst e; exact hd
                    · exact HD.out i (by omega)
                case measure => simp [intOf]; omega
        · obtain rfl : k = l.length := by omega
          rw [List.take_length] at HG
          go_wp2_with fail
          go_ret2
          refine ⟨.inr (.inr ⟨hall.out, HD.out, w.heap.size, rfl, Nat.le_refl _, ⟨HG.out.blk, ⟨_, by omega, HG.out.one⟩, ⟨_, by omega, HG.out.other⟩⟩⟩), HG.out.below⟩
end Go.Proofs.Ytdloopgdohjedaa
