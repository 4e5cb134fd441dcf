/-
  Graph: with: slices.Insert at a row that may begin inside its block.
-/
import Derived.Test.YtdloopgdohjedaaGrS
import Derived.Shelf.Slices.Empties
set_option linter.unusedVariables false
set_option linter.unusedSimpArgs false
namespace Go.Proofs.Ytdloopgdohjedaa
open Go.RowKit Go.Maps Go.Shelf Go.Proofs.YtdloopgdohjedaaW.PrintWords PGraphTells

/-- What an insertion leaves. -/
def Put (B : Nat) (w : World) (v : Value) (xs : List Int) (e : Ending) (w' : World) : Prop :=
  ∃ v', e = .returned v' ∧ QRow w' B 3 1 v' xs.length (nums .i64 xs) ∧ w.grownBy w' v.ownBlock ∧ (v'.ownBlock = v.ownBlock ∨ ∃ g, v'.ownBlock = some g ∧ w.heap.size ≤ g)

theorem nums_one (zs : List Int) : ∀ u ∈ nums .i64 zs, u.oneCell' = true := by
  intro u hu
  simp only [nums, List.mem_map] at hu
  obtain ⟨q, _, rfl⟩ := hu
  rfl

/-- A new row. -/
theorem q_new (w : World) (B : Nat) (hB : B ≤ w.heap.size) (xs : List Int) (cs : Array Value) (cap : Nat) (hc : xs.length ≤ cap) (hm : cap ≤ maxLen) (hs : cs.size = cap) (ht : cs.toList.take xs.length = nums .i64 xs) :
    QRow (w.alloc (.cells cs 3)) B 3 1 (.slice (some ⟨w.heap.size, 0, none⟩) xs.length cap) xs.length (nums .i64 xs) := by
  refine ⟨by simp [nums], .inr ⟨w.heap.size, 0, cap, cs, by simp, hB, World.alloc_heap_new w _, hc, by omega, by omega, ?_⟩⟩
  simpa using ht

theorem cells_var {w : World} {vb : Nat} {x : Int} (hv : w.heap[vb]? = some (.cells #[.int .i64 x] 3 (0, 0))) : ∀ j u, [Value.int .i64 x][j]? = some u → w.cell? ⟨vb, 0 + j, none⟩ = some u := by
  intro j u hu
  cases j with
  | zero => simp at hu; subst hu; simp [World.cell?, hv]
  | succ j => simp at hu

/-- At the end, no room. -/
theorem insert_end_grow (B : Nat) (A : Option Addr) (c : Nat) (zs : List Int) (x : Int) (vb : Nat) (w : World) (hB : B ≤ w.heap.size) (hc : zs.length ≤ c) (hr : c < zs.length + 1) (hl : zs.length ≤ 5000) (hR : ReadsInt w .i64 A zs.length zs)
    (hA : ∀ a, A = some a → ∀ j u, (nums .i64 zs)[j]? = some u → w.cell? (a.add j) = some u) (hv : w.heap[vb]? = some (.cells #[.int .i64 x] 3 (0, 0))) :
    Calls Try.prog 46 #[.slice A zs.length c, .int .i64 (zs.length : Nat), .slice (some ⟨vb, 0, none⟩) 1 1] w (Put B w (.slice A zs.length c) (zs ++ [x])) := by
  have h := Any2.slices_Insert_int_end_grow Try.insert A zs.length c vb 0 1 1 (nums .i64 zs) [.int .i64 x] w (by omega) hc hr (by omega) (by simp [nums]) rfl
    (fun e => by
      subst e
      rcases Nat.eq_zero_or_pos zs.length with h | h
      · exact h
      · obtain ⟨ad, e, _⟩ := hR.2.2 h; cases e) hA (cells_var hv) (by simp [Value.oneCell'])
  refine h.mono ?_
  rintro e w' ⟨rfl, rfl⟩
  have hge := grownCap_ge w (zs.length + 1) c 3
  have hle := grownCap_le_maxLen w (zs.length + 1) c 3 (by unfold maxLen; omega)
  change Put B w (.slice A zs.length c) (zs ++ [x]) (.returned (.slice (some ⟨w.heap.size, 0, none⟩) (zs.length + 1) (grownCap w (zs.length + 1) c 3))) (w.drew.alloc (.cells ((nums .i64 zs ++ [Value.int .i64 x]).toArray ++ Builtin.zeroCells (Value.int .i64 0).cells (grownCap w (zs.length + 1) c 3 - (zs.length + 1))) 3))
  generalize grownCap w (zs.length + 1) c 3 = G at *
  have hq := q_new w.drew B hB (zs ++ [x]) ((nums .i64 zs ++ [Value.int .i64 x]).toArray ++ Builtin.zeroCells (Value.int .i64 0).cells (G - (zs.length + 1))) G (by simpa using hge) hle
    (by simp [nums, Builtin.zeroCells, Value.cells]; omega) (by
      rw [Array.toList_append, List.take_append_of_le_length (by simp [nums])]
      rw [nums_append]
      exact List.take_of_length_le (by simp [nums]))
  refine ⟨_, rfl, ?_, ?_, .inr ⟨w.heap.size, rfl, Nat.le_refl _⟩⟩
  · have e : (zs ++ [x]).length = zs.length + 1 := by simp
    rw [e] at hq ⊢
    exact hq
  · exact grown_of_below (below_alloc (below_drew1 (Below.refl _ w)) _) _

/-- What a run of cells written inside a row leaves. -/
theorem q_written {w : World} {B g off cap : Nat} {cur : Array Value} (hb : B ≤ g) (hh : w.heap[g]? = some (.cells cur 3 (0, 0))) (hm : off + cap ≤ maxLen) (hcs : cur.size = off + cap)
    (W : World) (o : Nat) (vs : List Value) (hW : W.heap = w.heap) (xs : List Int) (hx : xs.length ≤ cap) (ho : off ≤ o) (hv : o + vs.length ≤ cur.size)
    (ht : ((cur.toList.take o ++ vs ++ cur.toList.drop (o + vs.length)).drop off).take xs.length = nums .i64 xs) :
    QRow (W.setCells g o vs) B 3 1 (.slice (some ⟨g, off, none⟩) xs.length cap) xs.length (nums .i64 xs) := by
  obtain ⟨cur', e1, e2, e3⟩ := setCells_row (g := g) (e := 3) vs o W cur (by rw [hW]; exact hh) hv
  refine ⟨by simp [nums], .inr ⟨g, off, cap, cur', by simp, hb, e1, hx, hm, by omega, ?_⟩⟩
  rw [e3]
  simpa using ht

/-- At the end, room. -/
theorem insert_end_room (B g off c : Nat) (cur : Array Value) (zs : List Int) (x : Int) (vb : Nat) (w : World) (hb : B ≤ g) (hh : w.heap[g]? = some (.cells cur 3 (0, 0))) (hc : zs.length + 1 ≤ c) (hm : off + c ≤ maxLen) (hcs : cur.size = off + c)
    (ht : (cur.toList.drop off).take zs.length = nums .i64 zs) (hv : w.heap[vb]? = some (.cells #[.int .i64 x] 3 (0, 0))) :
    Calls Try.prog 46 #[.slice (some ⟨g, off, none⟩) zs.length c, .int .i64 (zs.length : Nat), .slice (some ⟨vb, 0, none⟩) 1 1] w (Put B w (.slice (some ⟨g, off, none⟩) zs.length c) (zs ++ [x])) := by
  have h := Any2.slices_Insert_int_end_room Try.insert g off zs.length c vb 0 1 1 [.int .i64 x] w (by omega) hc (by unfold maxLen at hm; omega) rfl
    (fun j hj => by
      have hlt : off + zs.length + j < cur.size := by omega
      simp [World.cell?, hh, hlt]) (fun j hj => by simp [World.frozen?, hh]) (cells_var hv) (by simp [Value.oneCell'])
  refine h.mono ?_
  rintro e w' ⟨rfl, rfl⟩
  have hcl : cur.toList.length = off + c := by rw [Array.length_toList]; exact hcs
  have hq := q_written hb hh hm hcs w (off + zs.length) [Value.int .i64 x] rfl (zs ++ [x]) (by simpa using hc) (by omega) (by simp; omega) (by
    rw [List.append_assoc, List.drop_append_of_le_length (by rw [List.length_take, hcl]; omega), List.drop_take]
    rw [show off + zs.length - off = zs.length by omega, ht, nums_append, ← List.append_assoc]
    exact List.take_left' (by simp [nums]))
  obtain ⟨s1, s2, s3, s4⟩ := setCells_same g [Value.int .i64 x] (off + zs.length) w
  refine ⟨_, rfl, ?_, ⟨s1, s2, s3, by rw [s4]; exact Nat.le_refl _, fun k _ hk => setCells_far _ _ k (fun he => hk (by rw [he]; rfl))⟩, .inl rfl⟩
  have e : (zs ++ [x]).length = zs.length + 1 := by simp
  rw [e] at hq ⊢
  exact hq

def insAt (zs : List Int) (i : Nat) (x : Int) : List Int := zs.take i ++ x :: zs.drop i
theorem insAt_len (zs : List Int) {i : Nat} (h : i ≤ zs.length) (x : Int) : (insAt zs i x).length = zs.length + 1 := by
  simp [insAt]
  omega
/-- Inside, room. -/
theorem insert_shift (B g off c i : Nat) (cur : Array Value) (zs : List Int) (x : Int) (vb : Nat) (w : World) (hi : i < zs.length) (hb : B ≤ g) (hh : w.heap[g]? = some (.cells cur 3 (0, 0))) (hc : zs.length + 1 ≤ c) (hm : off + c ≤ maxLen) (hcs : cur.size = off + c)
    (ht : (cur.toList.drop off).take zs.length = nums .i64 zs) (hv : w.heap[vb]? = some (.cells #[.int .i64 x] 3 (0, 0))) (hne : vb ≠ g) :
    Calls Try.prog 46 #[.slice (some ⟨g, off, none⟩) zs.length c, .int .i64 i, .slice (some ⟨vb, 0, none⟩) 1 1] w (Put B w (.slice (some ⟨g, off, none⟩) zs.length c) (insAt zs i x)) := by
  have hcl : cur.toList.length = off + c := by rw [Array.length_toList]; exact hcs
  have h := Any2.slices_Insert_int_shift Try.insert g off zs.length c i vb 0 1 1 (nums .i64 zs) [.int .i64 x] w hi (by omega) hc (by unfold maxLen at hm; omega) hne (by simp [nums]) rfl
    (fun j u hj => by
      rw [← ht, List.getElem?_take] at hj
      split at hj
      · rw [List.getElem?_drop, Array.getElem?_toList] at hj
        simp only [World.cell?, hh, Option.isSome_none, Bool.false_eq_true, if_false]
        exact hj
      · cases hj)
    (fun j hj => by
      have hlt : off + j < cur.size := by omega
      simp [World.cell?, hh, hlt]) (fun j hj => by simp [World.frozen?, hh]) (cells_var hv) (nums_one zs) (by simp [Value.oneCell'])
    3 3 1 cur.size (by simp [World.shape?, hv]) (by simp [World.shape?, hh]) (by omega) (by simp [World.frozen?, hv]) (by simp [World.frozen?, hv])
  refine h.mono ?_
  rintro e w' ⟨rfl, rfl⟩
  have hdl : ((nums .i64 zs).drop i).length = zs.length - i := by simp [nums]
  obtain ⟨cur1, e1, e2, e3⟩ := setCells_row (g := g) (e := 3) ((nums .i64 zs).drop i) (off + (i + 1)) w.drew cur hh (by rw [hdl]; omega)
  have hcl1 : cur1.toList.length = off + c := by rw [Array.length_toList, e2]; exact hcs
  have hq := q_written (w := w.drew.setCells g (off + (i + 1)) ((nums .i64 zs).drop i)) hb e1 hm (by omega) _ (off + i) [Value.int .i64 x] rfl (insAt zs i x) (by rw [insAt_len zs (by omega)]; exact hc) (by omega) (by simp; omega) (by
    have hA : cur1.toList.take (off + i) = cur.toList.take (off + i) := by
      rw [e3, List.append_assoc, List.take_append_of_le_length (by rw [List.length_take, hcl]; omega), List.take_take, Nat.min_eq_left (by omega)]
    have hB : cur1.toList.drop (off + i + 1) = (nums .i64 zs).drop i ++ cur.toList.drop (off + (i + 1) + ((nums .i64 zs).drop i).length) := by
      rw [e3, List.append_assoc, List.drop_append_of_le_length (by rw [List.length_take, hcl]; omega), List.drop_take, show off + (i + 1) - (off + i + 1) = 0 by omega]
      simp
    have hC : (cur.toList.take (off + i)).drop off = (nums .i64 zs).take i := by
      rw [List.drop_take, show off + i - off = i by omega, ← ht, List.take_take, Nat.min_eq_left (by omega)]
    rw [List.length_singleton, hA, hB, List.append_assoc, List.drop_append_of_le_length (by rw [List.length_take, hcl]; omega), hC, ← List.append_assoc, ← List.append_assoc]
    have e5 : nums .i64 (insAt zs i x) = (nums .i64 zs).take i ++ [Value.int .i64 x] ++ (nums .i64 zs).drop i := by
      simp [insAt, nums, List.map_take, List.map_drop]
    rw [e5]
    refine List.take_left' ?_
    rw [← e5]
    simp [nums])
  obtain ⟨s1, s2, s3, s4⟩ := setCells_same g ((nums .i64 zs).drop i) (off + (i + 1)) w.drew
  obtain ⟨t1, t2, t3, t4⟩ := setCells_same g [Value.int .i64 x] (off + i) (w.drew.setCells g (off + (i + 1)) ((nums .i64 zs).drop i))
  refine ⟨_, rfl, ?_, ⟨t1.trans s1, t2.trans s2, t3.trans s3, by rw [t4, s4]; exact Nat.le_refl _, fun k _ hk => ?_⟩, .inl rfl⟩
  · have e := insAt_len zs (i := i) (by omega) x
    rw [e] at hq ⊢
    exact hq
  · have hkg : k ≠ g := fun he => hk (by rw [he]; rfl)
    rw [setCells_far _ _ k hkg, setCells_far _ _ k hkg]
    rfl

/-- Inside, no room. -/
theorem insert_grow (B g off c i : Nat) (zs : List Int) (x : Int) (vb : Nat) (w : World) (hi : i < zs.length) (hB : B ≤ w.heap.size) (hnc : zs.length ≤ c) (hr : c < zs.length + 1) (hl : zs.length ≤ 5000)
    (hcells : ∀ j u, (nums .i64 zs)[j]? = some u → w.cell? ⟨g, off + j, none⟩ = some u) (hv : w.heap[vb]? = some (.cells #[.int .i64 x] 3 (0, 0))) :
    Calls Try.prog 46 #[.slice (some ⟨g, off, none⟩) zs.length c, .int .i64 i, .slice (some ⟨vb, 0, none⟩) 1 1] w (Put B w (.slice (some ⟨g, off, none⟩) zs.length c) (insAt zs i x)) := by
  have h := Any2.slices_Insert_int_grow Try.insert g off zs.length c i vb 0 1 1 (nums .i64 zs) [.int .i64 x] w hi (by omega) hnc hr (by omega) (by simp [nums]) rfl hcells (cells_var hv) (nums_one zs) (by simp [Value.oneCell'])
  refine h.mono ?_
  rintro e w' ⟨rfl, rfl⟩
  have hge := grownCap_ge w (zs.length + 1) c 3
  have hle := grownCap_le_maxLen w (zs.length + 1) c 3 (by unfold maxLen; omega)
  change Put B w (.slice (some ⟨g, off, none⟩) zs.length c) (insAt zs i x) (.returned (.slice (some ⟨w.heap.size, 0, none⟩) (zs.length + 1) (grownCap w (zs.length + 1) c 3))) ((((w.alloc (.cells (((nums .i64 zs).take i).toArray ++ Builtin.zeroCells (Value.int .i64 0).cells (zs.length + 1 - i) ++ Builtin.zeroCells (Value.int .i64 0).cells (grownCap w (zs.length + 1) c 3 - (zs.length + 1))) 3)).drew.setCells w.heap.size i [.int .i64 x]).drew).setCells w.heap.size (i + 1) ((nums .i64 zs).drop i))
  generalize grownCap w (zs.length + 1) c 3 = G at *
  obtain ⟨Z, hZ⟩ : ∃ Z, Z = Builtin.zeroCells (Value.int .i64 0).cells (zs.length + 1 - i) ++ Builtin.zeroCells (Value.int .i64 0).cells (G - (zs.length + 1)) := ⟨_, rfl⟩
  have hZs : Z.size = G - i := by
    rw [hZ]
    simp [Builtin.zeroCells, Value.cells]
    omega
  have hnl : (nums .i64 zs).length = zs.length := by simp [nums]
  obtain ⟨cur, hcur⟩ : ∃ cur, cur = ((nums .i64 zs).take i).toArray ++ Builtin.zeroCells (Value.int .i64 0).cells (zs.length + 1 - i) ++ Builtin.zeroCells (Value.int .i64 0).cells (G - (zs.length + 1)) := ⟨_, rfl⟩
  rw [← hcur]
  have hcur2 : cur = ((nums .i64 zs).take i).toArray ++ Z := by rw [hcur, hZ, Array.append_assoc]
  have hcl : cur.toList.length = G := by
    rw [hcur2]
    simp only [Array.toList_append, List.length_append, Array.length_toList, List.length_take, hnl, hZs]
    omega
  have hsz : cur.size = G := by rw [← Array.length_toList]; exact hcl
  have htk : cur.toList.take i = (nums .i64 zs).take i := by
    rw [hcur2, Array.toList_append]
    exact List.take_left' (by rw [List.length_take, hnl]; omega)
  have hh : (w.alloc (.cells cur 3)).heap[w.heap.size]? = some (.cells cur 3 (0, 0)) := World.alloc_heap_new w _
  obtain ⟨cur1, e1, e2, e3⟩ := setCells_row (g := w.heap.size) (e := 3) [Value.int .i64 x] i (w.alloc (.cells cur 3)).drew cur hh (by simp; omega)
  have hcl1 : cur1.toList.length = G := by rw [Array.length_toList, e2]; exact hsz
  have hdl : ((nums .i64 zs).drop i).length = zs.length - i := by rw [List.length_drop, hnl]
  have hq := q_written (w := (w.alloc (.cells cur 3)).drew.setCells w.heap.size i [.int .i64 x]) (g := w.heap.size) (off := 0) (cap := G) hB e1 (by omega) (by omega) (((w.alloc (.cells cur 3)).drew.setCells w.heap.size i [.int .i64 x]).drew) (i + 1) ((nums .i64 zs).drop i) rfl (insAt zs i x) (by rw [insAt_len zs (by omega)]; exact hge) (by omega) (by rw [hdl, ← Array.length_toList, hcl1]; omega) (by
    have hA : cur1.toList.take (i + 1) = (nums .i64 zs).take i ++ [Value.int .i64 x] := by
      rw [e3, htk]
      exact List.take_left' (by rw [List.length_append, List.length_take, hnl]; simp; omega)
    rw [List.drop_zero, hA]
    have e5 : nums .i64 (insAt zs i x) = (nums .i64 zs).take i ++ [Value.int .i64 x] ++ (nums .i64 zs).drop i := by
      simp [insAt, nums, List.map_take, List.map_drop]
    rw [e5]
    refine List.take_left' ?_
    rw [← e5]
    simp [nums])
  obtain ⟨s1, s2, s3, s4⟩ := setCells_same w.heap.size [Value.int .i64 x] i (w.alloc (.cells cur 3)).drew
  obtain ⟨t1, t2, t3, t4⟩ := setCells_same w.heap.size ((nums .i64 zs).drop i) (i + 1) (((w.alloc (.cells cur 3)).drew.setCells w.heap.size i [.int .i64 x]).drew)
  refine ⟨_, rfl, ?_, ⟨t1.trans s1, t2.trans s2, t3.trans s3, ?_, fun k hk _ => ?_⟩, .inr ⟨w.heap.size, rfl, Nat.le_refl _⟩⟩
  · have e := insAt_len zs (i := i) (by omega) x
    rw [e] at hq ⊢
    exact hq
  · rw [t4]
    show w.heap.size ≤ ((w.alloc (.cells cur 3)).drew.setCells w.heap.size i [.int .i64 x]).heap.size
    rw [s4]
    show w.heap.size ≤ (w.alloc (.cells cur 3)).heap.size
    simp
  · have hkg : k ≠ w.heap.size := by omega
    rw [setCells_far _ _ k hkg]
    show ((w.alloc (.cells cur 3)).drew.setCells w.heap.size i [.int .i64 x]).heap[k]? = _
    rw [setCells_far _ _ k hkg]
    exact Below.heap_alloc _ _ k hk

theorem insAt_end (zs : List Int) (x : Int) : insAt zs zs.length x = zs ++ [x] := by simp [insAt]
theorem q_readsI {w : World} {B : Nat} {v : Value} {zs : List Int} (hQ : QRow w B 3 1 v zs.length (nums .i64 zs)) : ∃ A c, v = .slice A zs.length c ∧ zs.length ≤ c ∧ ReadsInt w .i64 A zs.length zs := by
  obtain ⟨A, c, rfl, hc⟩ := q_slice hQ
  refine ⟨A, c, rfl, hc, rfl, q_max hQ, fun hp => ?_⟩
  obtain ⟨ad, ha, hcell⟩ := q_cells hQ hp
  exact ⟨ad, ha, fun j hj => hcell j _ (by simp [nums, hj, List.getD_eq_getElem?_getD])⟩
theorem q_below {w w1 : World} {B : Nat} {v : Value} {n : Nat} {xs : List Value} (hQ : QRow w B 3 1 v n xs) (hb : Below w.heap.size w w1) : QRow w1 B 3 1 v n xs := q_move hQ (fun k hk => hb.block k (q_lt hQ k hk))
/-- slices.Insert(s, i, x). -/
theorem insert_any (B : Nat) (v : Value) (i : Nat) (zs : List Int) (x : Int) (vb : Nat) (w : World) (hi : i ≤ zs.length) (hB : B ≤ w.heap.size) (hl : zs.length ≤ 5000) (hQ : QRow w B 3 1 v zs.length (nums .i64 zs))
    (hv : w.heap[vb]? = some (.cells #[.int .i64 x] 3 (0, 0))) (hne : some vb ≠ v.ownBlock) :
    Calls Try.prog 46 #[v, .int .i64 i, .slice (some ⟨vb, 0, none⟩) 1 1] w (Put B w v (insAt zs i x)) := by
  obtain ⟨A, c, rfl, hc, hR⟩ := q_readsI hQ
  by_cases hroom : zs.length + 1 ≤ c
  · rcases hQ.2 with ⟨h0, A', he, _⟩ | ⟨g, off, cap, cur, he, hb, hh, hnc, hcm, hcs, ht⟩
    · injection he with _ _ he; omega
    · injection he with ha _ he
      subst ha; subst he
      simp only [Nat.mul_one] at hcs ht ⊢
      have hne' : vb ≠ g := fun e => hne (by rw [e]; rfl)
      by_cases e : i = zs.length
      · subst e
        rw [insAt_end]
        exact insert_end_room B g off c cur zs x vb w hb hh hroom hcm hcs ht hv
      · exact insert_shift B g off c i cur zs x vb w (by omega) hb hh hroom hcm hcs ht hv hne'
  · by_cases e : i = zs.length
    · subst e
      rw [insAt_end]
      refine insert_end_grow B A c zs x vb w hB hc (by omega) hl hR (fun a ha j u hu => ?_) hv
      have hj : j < zs.length := by
        rcases Nat.lt_or_ge j zs.length with h | h
        · exact h
        · rw [List.getElem?_eq_none (by simpa [nums] using h)] at hu; cases hu
      obtain ⟨ad, ha', hcell⟩ := q_cells hQ (by omega)
      rw [ha] at ha'
      injection ha' with ha'
      subst ha'
      exact hcell j u hu
    · rcases hQ.2 with ⟨h0, _⟩ | ⟨g, off, cap, cur, he, hb, hh, hnc, hcm, hcs, ht⟩
      · omega
      · injection he with ha _ he
        subst ha; subst he
        simp only [Nat.mul_one] at hcs ht ⊢
        refine insert_grow B g off c i zs x vb w (by omega) hB hc (by omega) hl (fun j u hu => ?_) hv
        obtain ⟨ad, ha', hcell⟩ := q_cells hQ (by omega)
        injection ha' with ha'
        subst ha'
        have := hcell j u hu
        rw [add_at] at this
        simpa using this

/-- Rising numbers, with one more. -/
def withL (zs : List Int) (x : Int) : List Int := insAt zs (zs.countP (· < x)) x
theorem search_any (B : Nat) (v : Value) (zs : List Int) (x : Int) (w : World) (hl : zs.length ≤ 5000) (hQ : QRow w B 3 1 v zs.length (nums .i64 zs)) (hs : zs.Pairwise (· ≤ ·)) :
    Calls Try.prog 45 #[v, .int .i64 x] w fun e w' => ∃ t, e = .returned (.tuple #[.int .i64 (zs.countP (· < x) : Nat), .bool t]) ∧ Below w.heap.size w w' := by
  obtain ⟨A, c, rfl, hc, hR⟩ := q_readsI hQ
  rcases hQ.2 with ⟨h0, A', he, _⟩ | ⟨g, off, cap, cur, he, hb, hh, hnc, hcm, hcs, ht⟩
  · obtain rfl : zs = [] := List.eq_nil_of_length_eq_zero h0
    refine (Any.slices_BinarySearch_int_empty Try.search A c x w).mono ?_
    rintro e w' ⟨rfl, rfl⟩
    exact ⟨_, rfl, Below.refl _ _⟩
  · injection he with ha _ he
    subst ha; subst he
    refine (Any.slices_BinarySearch_int Try.search g (off * 1) zs.length c zs x w (Nat.le_refl _) (by omega) (fun j hj => ?_) (by rw [List.take_length]; exact hs)).mono ?_
    · obtain ⟨ad, ha', hcell⟩ := hR.2.2 (by omega)
      injection ha' with ha'
      subst ha'
      rw [← hcell j hj, add_at]
    · rintro e w' ⟨rfl, q, rfl⟩
      rw [List.take_length]
      exact ⟨_, rfl, pw_below_drewN (Below.refl _ _) q⟩

theorem with_any (B : Nat) (v : Value) (zs : List Int) (x : Int) (w : World) (hB : B ≤ w.heap.size) (hl : zs.length ≤ 5000) (hQ : QRow w B 3 1 v zs.length (nums .i64 zs)) (hs : zs.Pairwise (· ≤ ·)) :
    Calls Try.prog 34 #[v, .int .i64 x] w (Put B w v (withL zs x)) := by
  have hS := search_any B v zs x w hl hQ hs
  have hcn : zs.countP (· < x) ≤ zs.length := List.countP_le_length
  unfold withL
  generalize zs.countP (· < x) = i at *
  have hI := fun W : World => insert_any B v i zs x W.heap.size (W.alloc (.cells #[.int .i64 x] 3)) hcn
  go_enter Try.func34, Try.ntmps34
  go_wp2_with (first
    | (go_at_call 45; refine hS.mono ?_; rintro e w1 ⟨t, rfl, hb1⟩)
    | (go_at_call 46; refine (hI w1 (by have := hb1.size; simp; omega) hl (q_below (q_below hQ hb1) (below_alloc (Below.refl _ _) _)) (World.alloc_heap_new w1 _) (fun e => by have := q_lt (q_below hQ hb1) _ e.symm; omega)).mono ?_; rintro e w2 ⟨v2, rfl, hQ2, hg2, hat2⟩)
    | go_in)
  go_ret
  have hb2 : Below w.heap.size w (w1.alloc (.cells #[.int .i64 x] 3)) := below_alloc hb1 _
  refine ⟨v2, rfl, hQ2, (grown_of_below hb2 _).trans hg2, hat2.imp id (fun ⟨g, h1, h2⟩ => ⟨g, h1, by have := hb2.size; omega⟩)⟩

end Go.Proofs.Ytdloopgdohjedaa
