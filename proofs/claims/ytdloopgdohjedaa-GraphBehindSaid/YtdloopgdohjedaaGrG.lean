/-
  Graph: the live question.
-/
import Derived.Test.YtdloopgdohjedaaGrE
set_option linter.unusedVariables false
set_option linter.unusedSimpArgs false
namespace Go.Proofs.Ytdloopgdohjedaa
open Go.RowKit Go.Maps Go.Shelf Go.Proofs.YtdloopgdohjedaaW.PrintWords PGraphTells

/-! ### Rows of a literal -/
theorem reads_block {α : Type} {R : α → List Value → Prop} {size B : Nat} {e : TypeId} {W : World} {cs : List Value} {ps : List α} (h : W.heap[B]? = some (.cells cs.toArray e (0, 0))) (hR : Reps R size ps cs) (hl : ps.length ≤ maxLen) (hs : 0 < ps.length) :
    ReadsRow R size W (some ⟨B, 0, none⟩) ps.length ps := by
  have ho : W.ownsRow 0 e size (.slice (some ⟨B, 0, none⟩) ps.length ps.length) ps.length cs := by
    refine ⟨by rw [hR.1], .inr ⟨B, ps.length, cs.toArray, rfl, Nat.zero_le _, h, Nat.le_refl _, hl, by simp [hR.1], ?_⟩⟩
    rw [← hR.1]
    simp
  obtain ⟨A, c, e1, hC⟩ := own_reads_row ho hR rfl
  injection e1 with e1
  subst e1
  exact hC
theorem c_new (w : World) (xs : List Int) (hl : xs.length ≤ 1000) (hs : 0 < xs.length) : (Kd.int .i64).C (w.alloc (.cells (nums .i64 xs).toArray 3)) (some ⟨w.heap.size, 0, none⟩) xs.length xs :=
  reads_block (World.alloc_heap_new w _) (Kd.reps_scalar (enc := Value.int .i64) xs) (by unfold maxLen; omega) hs
theorem c_nil (w : World) : (Kd.int .i64).C w none 0 [] := ⟨rfl, by omega, fun h => absurd h (Nat.lt_irrefl _)⟩
theorem row_reads {l : List Int} {w : World} {e : Ending} {w' : World} (h : RowIs l w e w') : ∃ A c, e = .returned (.slice A l.length c) ∧ l.length ≤ c ∧ (Kd.int .i64).C w' A l.length l ∧ Below w.heap.size w w' := by
  obtain ⟨v, rfl, ho, hb⟩ := h
  obtain ⟨A, c, rfl, hc, hC⟩ := Kd.Q_reads (Kd.Q_of_R (r_of_own ho))
  exact ⟨A, c, rfl, hc, hC, hb⟩
theorem ints_any (l : List Int) {A0 A1 : Option Addr} {c0 c1 : Nat} {w : World} (h0 : (Kd.int .i64).C w A0 l.length l) (k0 : l.length ≤ c0) (h1 : (Kd.int .i64).C w A1 l.length l) (k1 : l.length ≤ c1) (hl : l.length ≤ 100000) :
    Calls Try.prog 10 #[.slice A0 l.length c0, .slice A1 l.length c1] w fun e w' => e = .returned (.bool true) ∧ Below w.heap.size w w' := by
  obtain ⟨k, h⟩ := (ints_ev l hl).rounds
  exact (gridironref09_Ints.calls k A0 c0 l A1 c1 l true w h0 k0 h1 k1 h).mono fun e w' ⟨h1, h2⟩ => ⟨h1, h2.below⟩

/-! ### What hangs, by sets -/
def closedB (l : List S55) (on S : List Int) : Bool := l.all fun y => !(y.f1.any (fun r => on.contains r) || y.f1.any (fun r => S.contains r)) || S.contains y.f0
def chainB (l : List S55) (on : List Int) : List Int → List Int → Bool
  | _, [] => true
  | fnd, s :: S => (l.any fun y => y.f0 == s && (y.f1.any (fun r => on.contains r) || y.f1.any (fun r => fnd.contains r))) && chainB l on (s :: fnd) S
theorem chain_hang {l : List S55} {on : List Int} : ∀ {S fnd : List Int}, chainB l on fnd S = true → (∀ x ∈ fnd, HangR l on x) → ∀ x ∈ S, HangR l on x
  | [], _, _, _, x, h => by cases h
  | s :: S, fnd, h, hf, x, hx => by
    unfold chainB at h
    rw [Bool.and_eq_true] at h
    have hs : HangR l on s := by
      obtain ⟨y, hy, e⟩ := List.any_eq_true.1 h.1
      simp only [Bool.and_eq_true, beq_iff_eq, Bool.or_eq_true, List.any_eq_true, List.contains_iff_mem] at e
      obtain ⟨rfl, h2⟩ := e
      rcases h2 with ⟨r, hr, ho⟩ | ⟨r, hr, ho⟩
      · exact .one hy hr ho
      · exact .more hy hr (hf r ho)
    rcases List.mem_cons.1 hx with rfl | hx
    · exact hs
    · exact chain_hang h.2 (fun z hz => by
        rcases List.mem_cons.1 hz with rfl | hz
        · exact hs
        · exact hf z hz) x hx
theorem hang_iff {l : List S55} {on S : List Int} (h1 : closedB l on S = true) (h2 : chainB l on [] S = true) (x : Int) : HangR l on x ↔ x ∈ S := by
  constructor
  · intro h
    have key : ∀ y ∈ l, ∀ r ∈ y.f1, (r ∈ on ∨ r ∈ S) → y.f0 ∈ S := by
      intro y hy r hr ho
      have := List.all_eq_true.1 h1 y hy
      have e : (y.f1.any (fun r => on.contains r) || y.f1.any (fun r => S.contains r)) = true := by
        simp only [Bool.or_eq_true, List.any_eq_true, List.contains_iff_mem]
        rcases ho with ho | ho
        · exact .inl ⟨r, hr, ho⟩
        · exact .inr ⟨r, hr, ho⟩
      rw [e] at this
      simpa using this
    induction h with
    | one hx hr ho => exact key _ hx _ hr (.inl ho)
    | more hx hr _ ih => exact key _ hx _ hr (.inr ih)
  · exact fun h => chain_hang h2 (by simp) x h
theorem steps_same {nxt : List Int → Option Int} {a b : List Int} (ha : Steps nxt a) (hb : Steps nxt b) (na : nxt a = none) (nb : nxt b = none) : a = b := by
  have key : ∀ {a b : List Int}, Steps nxt a → Steps nxt b → nxt b = none → a.length ≤ b.length ∧ a = b.take a.length := by
    intro a b ha hb nb
    induction ha with
    | nil => simp
    | @snoc o t _ hn ih =>
      obtain ⟨h1, h2⟩ := ih
      have hlt : o.length < b.length := by
        rcases Nat.lt_or_ge o.length b.length with h | h
        · exact h
        · have : o = b := by rw [h2]; exact List.take_of_length_le h
          rw [this, nb] at hn
          cases hn
      have := steps_at hb o.length hlt
      rw [← h2, hn] at this
      have e : t = b[o.length] := by simpa using this
      rw [List.length_append, List.length_singleton]
      refine ⟨hlt, ?_⟩
      rw [List.take_succ_eq_append_getElem hlt, ← h2, e]
  obtain ⟨h1, h2⟩ := key ha hb nb
  obtain ⟨h3, _⟩ := key hb ha na
  rw [h2]
  exact List.take_of_length_le h3

def LA : List S41 := [⟨7, [3, 9]⟩, ⟨3, [5]⟩, ⟨5, [3]⟩, ⟨2, [8, 7]⟩, ⟨8, []⟩]
def LD : List S41 := [⟨7, []⟩, ⟨7, []⟩]
theorem LA_nodes : nodesR (LA.map conv) = [2, 3, 5, 7, 8] := by decide +kernel
theorem LA_ok : LA.all okL = true := by decide
theorem LA_nodup : (LA.map (·.f0)).Nodup := by decide
theorem LA_nodup' : ∀ i, i < LA.length → dup LA i = false := by
  intro i hi
  rw [← dup_is hi]
  have : ∀ i, i < 5 → dupB (LA.map conv) i = false := by decide
  exact this i hi
theorem LD_dup : dup LD 1 = true := by
  rw [← dup_is (by decide)]
  decide
section
variable {p : Int → Bool} (hp : ∀ n, p n = true ↔ HangP (G2 LA) [n] n)
theorem LA_p {n : Int} {S : List Int} (h1 : closedB (LA.map conv) [n] S = true) (h2 : chainB (LA.map conv) [n] [] S = true) (hp : ∀ n, p n = true ↔ HangP (G2 LA) [n] n) : p n = S.contains n := by
  rw [Bool.eq_iff_iff, hp, hang_same, hang_iff h1 h2, List.contains_iff_mem]
theorem LA_cyc (hp : ∀ n, p n = true ↔ HangP (G2 LA) [n] n) : (nodesR (LA.map conv)).filter p = [3, 5] := by
  have p2 : p 2 = false := LA_p (S := []) (by decide) (by decide) hp
  have p3 : p 3 = true := LA_p (S := [5, 7, 3, 2]) (by decide) (by decide) hp
  have p5 : p 5 = true := LA_p (S := [3, 5, 7, 2]) (by decide) (by decide) hp
  have p7 : p 7 = false := LA_p (S := [2]) (by decide) (by decide) hp
  have p8 : p 8 = false := LA_p (S := [2]) (by decide) (by decide) hp
  rw [LA_nodes]
  simp [p2, p3, p5, p7, p8]
theorem LA_order (hp : ∀ n, p n = true ↔ HangP (G2 LA) [n] n) {out : List Int} (hs : Steps (fun o => (nodesR (LA.map conv)).find? (okO (LA.map conv) ((nodesR (LA.map conv)).filter p) o)) out) (hz : (nodesR (LA.map conv)).find? (okO (LA.map conv) ((nodesR (LA.map conv)).filter p) out) = none) : out = [7, 8, 2] := by
  rw [LA_cyc hp, LA_nodes] at hs hz
  refine steps_same hs ?_ hz ?_
  · have h1 : Steps (fun o => [2, 3, 5, 7, 8].find? (okO (LA.map conv) [3, 5] o)) [7] := .snoc (out := []) .nil (by decide)
    have h2 : Steps (fun o => [2, 3, 5, 7, 8].find? (okO (LA.map conv) [3, 5] o)) [7, 8] := .snoc (out := [7]) h1 (by decide)
    exact .snoc (out := [7, 8]) h2 (by decide)
  · decide
end
theorem LA_hang {l : List Int} (hr : Rise l) (h : ∀ x, x ∈ l ↔ HangP (G2 LA) [9, 1] x) : l = [2, 7] := by
  refine rise_ext hr (by unfold Rise; decide) (fun x => ?_)
  rw [h, hang_same, hang_iff (S := [7, 2]) (by decide) (by decide)]
  simp [or_comm]

theorem LA_C (w : World) : Kd.C k41 (((((w.alloc (.cells #[.int .i64 3, .int .i64 9] 3)).alloc (.cells #[.int .i64 5] 3)).alloc (.cells #[.int .i64 3] 3)).alloc (.cells #[.int .i64 8, .int .i64 7] 3)).alloc (.cells #[.int .i64 7, .slice (some ⟨w.heap.size, 0, none⟩) 2 2, .int .i64 3, .slice (some ⟨w.heap.size + 1, 0, none⟩) 1 1, .int .i64 5, .slice (some ⟨w.heap.size + 1 + 1, 0, none⟩) 1 1, .int .i64 2, .slice (some ⟨w.heap.size + 1 + 1 + 1, 0, none⟩) 2 2, .int .i64 8, .slice none 0 0] 41)) (some ⟨w.heap.size + 1 + 1 + 1 + 1, 0, none⟩) LA.length LA := by
  obtain ⟨wa, ha⟩ : ∃ wa, wa = w.alloc (.cells #[.int .i64 3, .int .i64 9] 3) := ⟨_, rfl⟩
  obtain ⟨wb, hb⟩ : ∃ wb, wb = wa.alloc (.cells #[.int .i64 5] 3) := ⟨_, rfl⟩
  obtain ⟨wc, hc⟩ : ∃ wc, wc = wb.alloc (.cells #[.int .i64 3] 3) := ⟨_, rfl⟩
  obtain ⟨wd, hd⟩ : ∃ wd, wd = wc.alloc (.cells #[.int .i64 8, .int .i64 7] 3) := ⟨_, rfl⟩
  have c1 : (Kd.int .i64).C wa (some ⟨w.heap.size, 0, none⟩) 2 [3, 9] := by rw [ha]; exact c_new w [3, 9] (by decide) (by decide)
  have s1 : wa.heap.size = w.heap.size + 1 := by rw [ha]; simp
  have c2 : (Kd.int .i64).C wb (some ⟨w.heap.size + 1, 0, none⟩) 1 [5] := by rw [hb, ← s1]; exact c_new wa [5] (by decide) (by decide)
  have s2 : wb.heap.size = w.heap.size + 1 + 1 := by rw [hb]; simp [s1]
  have c3 : (Kd.int .i64).C wc (some ⟨w.heap.size + 1 + 1, 0, none⟩) 1 [3] := by rw [hc, ← s2]; exact c_new wb [3] (by decide) (by decide)
  have s3 : wc.heap.size = w.heap.size + 1 + 1 + 1 := by rw [hc]; simp [s2]
  have c4 : (Kd.int .i64).C wd (some ⟨w.heap.size + 1 + 1 + 1, 0, none⟩) 2 [8, 7] := by rw [hd, ← s3]; exact c_new wc [8, 7] (by decide) (by decide)
  have s4 : wd.heap.size = w.heap.size + 1 + 1 + 1 + 1 := by rw [hd]; simp [s3]
  have b1 : Below wa.heap.size wa wb := by rw [hb]; exact below_alloc (Below.refl _ _) _
  have b2 : Below wb.heap.size wb wc := by rw [hc]; exact below_alloc (Below.refl _ _) _
  have b3 : Below wc.heap.size wc wd := by rw [hd]; exact below_alloc (Below.refl _ _) _
  rw [← ha, ← hb, ← hc, ← hd]
  obtain ⟨we, he⟩ : ∃ we, we = wd.alloc (.cells #[.int .i64 7, .slice (some ⟨w.heap.size, 0, none⟩) 2 2, .int .i64 3, .slice (some ⟨w.heap.size + 1, 0, none⟩) 1 1, .int .i64 5, .slice (some ⟨w.heap.size + 1 + 1, 0, none⟩) 1 1, .int .i64 2, .slice (some ⟨w.heap.size + 1 + 1 + 1, 0, none⟩) 2 2, .int .i64 8, .slice none 0 0] 41) := ⟨_, rfl⟩
  have b4 : Below wd.heap.size wd we := by rw [he]; exact below_alloc (Below.refl _ _) _
  have k1 := k41_mk we ⟨7, [3, 9]⟩ (c1 := 2) (by decide) (Kd.C_below (Kd.C_below (Kd.C_below (Kd.C_below c1 b1) b2) b3) b4)
  have k2 := k41_mk we ⟨3, [5]⟩ (c1 := 1) (by decide) (Kd.C_below (Kd.C_below (Kd.C_below c2 b2) b3) b4)
  have k3 := k41_mk we ⟨5, [3]⟩ (c1 := 1) (by decide) (Kd.C_below (Kd.C_below c3 b3) b4)
  have k4 := k41_mk we ⟨2, [8, 7]⟩ (c1 := 2) (by decide) (Kd.C_below c4 b4)
  have k5 := k41_mk we ⟨8, []⟩ (c1 := 0) (by decide) (c_nil we)
  have hR := (((((Reps.none (k41.K we) 2).snoc k1 rfl).snoc k2 rfl).snoc k3 rfl).snoc k4 rfl).snoc k5 rfl
  have hh : we.heap[wd.heap.size]? = some (.cells #[.int .i64 7, .slice (some ⟨w.heap.size, 0, none⟩) 2 2, .int .i64 3, .slice (some ⟨w.heap.size + 1, 0, none⟩) 1 1, .int .i64 5, .slice (some ⟨w.heap.size + 1 + 1, 0, none⟩) 1 1, .int .i64 2, .slice (some ⟨w.heap.size + 1 + 1 + 1, 0, none⟩) 2 2, .int .i64 8, .slice none 0 0] 41 (0, 0)) := by rw [he]; exact World.alloc_heap_new wd _
  rw [← he]
  rw [s4] at hh
  exact reads_block hh hR (by decide) (by decide)
theorem LD_C (w : World) : Kd.C k41 (w.alloc (.cells #[.int .i64 7, .slice none 0 0, .int .i64 7, .slice none 0 0] 41)) (some ⟨w.heap.size, 0, none⟩) LD.length LD := by
  have k5 := k41_mk (w.alloc (.cells #[.int .i64 7, .slice none 0 0, .int .i64 7, .slice none 0 0] 41)) ⟨7, []⟩ (c1 := 0) (by decide) (c_nil _)
  have hR := ((Reps.none (k41.K (w.alloc (.cells #[.int .i64 7, .slice none 0 0, .int .i64 7, .slice none 0 0] 41))) 2).snoc k5 rfl).snoc k5 rfl
  exact reads_block (World.alloc_heap_new w _) hR (by decide) (by decide)

set_option maxRecDepth 100000 in
set_option maxHeartbeats 2000000 in
theorem alive_any (w : World) : Calls Try.prog 6 #[] w fun e w' => e = .returned (.bool true) ∧ Below w.heap.size w w' := by
  have hLA := LA_C w
  obtain ⟨W0, hW0⟩ : ∃ W0, W0 = (((((w.alloc (.cells #[.int .i64 3, .int .i64 9] 3)).alloc (.cells #[.int .i64 5] 3)).alloc (.cells #[.int .i64 3] 3)).alloc (.cells #[.int .i64 8, .int .i64 7] 3)).alloc (.cells #[.int .i64 7, .slice (some ⟨w.heap.size, 0, none⟩) 2 2, .int .i64 3, .slice (some ⟨w.heap.size + 1, 0, none⟩) 1 1, .int .i64 5, .slice (some ⟨w.heap.size + 1 + 1, 0, none⟩) 1 1, .int .i64 2, .slice (some ⟨w.heap.size + 1 + 1 + 1, 0, none⟩) 2 2, .int .i64 8, .slice none 0 0] 41)) := ⟨_, rfl⟩
  have hb0 : Below w.heap.size w W0 := by rw [hW0]; exact below_alloc (below_alloc (below_alloc (below_alloc (below_alloc (Below.refl _ _) _) _) _) _) _
  rw [← hW0] at hLA
  have HN1 := Lib.hid (new_any _ 5 LA W0 hLA (by decide) (by decide))
  have HW0 := Lib.hid hW0
  clear hLA hW0
  go_enter Try.func6, Try.ntmps6
  go_wp2_with fail
  rw [← HW0.out]
  refine HN1.out.mono ?_
  rintro e w1 ⟨hcase, hb1⟩
  rcases hcase with ⟨h, _⟩ | ⟨_, ⟨i, hi, hd⟩, _⟩ | ⟨_, _, b, rfl, hbb, hg⟩
  · exact absurd (h.symm.trans LA_ok) (by simp)
  · exact absurd ((LA_nodup' i hi).symm.trans hd) (by simp)
  have hb1 := below_step hb0 hb1
  clear HN1 HW0 hb0 hbb
  go_wp2_with fail
  refine (new_any _ 2 LD _ (LD_C w1) (by decide) (by decide)).mono ?_
  rintro e w2 ⟨hcase, hb2⟩
  rcases hcase with ⟨h, _⟩ | ⟨_, _, rfl⟩ | ⟨_, hd, _⟩
  · exact absurd h (by decide)
  rotate_left
  · exact absurd ((hd 1 (by decide)).symm.trans LD_dup) (by simp)
  have hg2 := (hg.later (below_alloc (Below.refl _ _) _)).later hb2
  have hb2 := below_step (below_alloc hb1 _) hb2
  clear hb1 hg
  obtain ⟨p, hp⟩ : ∃ p : Int → Bool, ∀ n, p n = true ↔ HangP (G2 LA) [n] n := ⟨fun n => @decide _ (Classical.propDecidable (HangP (G2 LA) [n] n)), fun n => by simp⟩
  have hG := good_G LA_ok (by decide)
  have hO := fun W (h : Gr W b (G1 LA) (G2 LA)) => order_any b (G1 LA) (G2 LA) W h hG (inv_G LA_nodup) (rd1_len LA_nodup (by decide)) (fun x y hy => by
    obtain ⟨z, hz, _, h⟩ := (rd1_G1 LA_nodup x y).1 hy
    exact (okL_mem LA_ok hz).2 y h) p hp _ rfl
  have hC := fun W (h : Gr W b (G1 LA) (G2 LA)) => cyclic_any b (G1 LA) (G2 LA) W h hG p hp
  have hH := fun A W (h : Gr W b (G1 LA) (G2 LA)) hR => hang_any b (G1 LA) (G2 LA) A 2 [9, 1] W h hR (by decide) (by decide) hG.fit
  have hN := fun W (h : Gr W b (G1 LA) (G2 LA)) => nodes_any b (G1 LA) (G2 LA) W h hG.rise hG.len
  have hcy : (keysM (G1 LA)).filter p = [3, 5] := by rw [keys_nodes LA_ok]; exact LA_cyc hp
  have hno : keysM (G1 LA) = [2, 3, 5, 7, 8] := by rw [keys_nodes LA_ok]; exact LA_nodes
  rw [hcy] at hC
  rw [hno] at hN
  have HO := Lib.hid hO
  have HC := Lib.hid hC
  have HH := Lib.hid hH
  have HN := Lib.hid hN
  have HP := Lib.hid hp
  have HG := Lib.hid hg2
  have HB2 := Lib.hid hb2
  clear hp hcy hno hG hg2 hO hC hH hN hb2
  go_wp2_with fail
  refine (HO.out w2 HG.out).mono ?_
  rintro e w3 ⟨wt, out, hru, hrow⟩
  have hs := oruns_steps LA_ok LA_nodup (by decide) p hru
  obtain rfl := LA_order HP.out hs.1 (hs.2.1 rfl)
  obtain ⟨A3, c3, rfl, hc3, hC3, hb3⟩ := row_reads hrow
  have hbz := below_step HB2.out hb3
  have hG3 := HG.out.later hb3
  have HI := Lib.hid (ints_any [7, 8, 2] (Kd.C_below hC3 (below_alloc (Below.refl _ _) (.cells (nums .i64 [7, 8, 2]).toArray 3))) hc3 (c_new w3 [7, 8, 2] (by decide) (by decide)) (c1 := 3) (by decide) (by decide))
  have HBZ := Lib.hid hbz
  have HGZ := Lib.hid hG3
  clear hru hrow hs hc3 hC3 hb3 hbz hG3 HB2 HG
  go_wp2_with fail
  refine HI.out.mono ?_
  rintro e w4 ⟨rfl, hb4⟩
  have hb4 := below_step (below_alloc (Below.refl _ w3) _) hb4
  have HB4 := Lib.hid (below_step HBZ.out hb4)
  have HG4 := Lib.hid (HGZ.out.later hb4)
  clear hb4 HI HBZ HGZ
  go_wp2_with fail
  refine (HC.out w4 HG4.out).mono ?_
  intro e w5 hrow
  obtain ⟨A5, c5, rfl, hc5, hC5, hb5⟩ := row_reads hrow
  have HB5 := Lib.hid (below_step HB4.out hb5)
  have HG5 := Lib.hid (HG4.out.later hb5)
  have HI := Lib.hid (ints_any [3, 5] (Kd.C_below hC5 (below_alloc (Below.refl _ _) (.cells (nums .i64 [3, 5]).toArray 3))) hc5 (c_new w5 [3, 5] (by decide) (by decide)) (c1 := 2) (by decide) (by decide))
  clear hrow hc5 hC5 hb5 HB4 HG4
  go_wp2_with fail
  refine HI.out.mono ?_
  rintro e w6 ⟨rfl, hb6⟩
  have hb6 := below_step (below_alloc (Below.refl _ w5) _) hb6
  have HB6 := Lib.hid (below_step HB5.out hb6)
  have HG6 := Lib.hid (HG5.out.later hb6)
  clear hb6 HI HB5 HG5
  go_wp2_with fail
  have hb7 : Below w6.heap.size w6 (w6.alloc (.cells #[.int .i64 9, .int .i64 1] 3)) := below_alloc (Below.refl _ _) _
  refine (HH.out _ _ (HG6.out.later hb7) (ri (c_new w6 [9, 1] (by decide) (by decide)))).mono ?_
  rintro e w7 ⟨lh, hr, hl, hrow⟩
  obtain rfl := LA_hang hr hl
  obtain ⟨A7, c7, rfl, hc7, hC7, hb8⟩ := row_reads hrow
  have hb8 := below_step hb7 hb8
  have HB7 := Lib.hid (below_step HB6.out hb8)
  have HG7 := Lib.hid (HG6.out.later hb8)
  have HI := Lib.hid (ints_any [2, 7] (Kd.C_below hC7 (below_alloc (Below.refl _ _) (.cells (nums .i64 [2, 7]).toArray 3))) hc7 (c_new w7 [2, 7] (by decide) (by decide)) (c1 := 2) (by decide) (by decide))
  clear hrow hc7 hC7 hb7 hb8 HB6 HG6 hr hl
  go_wp2_with fail
  refine HI.out.mono ?_
  rintro e w8 ⟨rfl, hb9⟩
  have hb9 := below_step (below_alloc (Below.refl _ w7) _) hb9
  have HB8 := Lib.hid (below_step HB7.out hb9)
  have HG8 := Lib.hid (HG7.out.later hb9)
  clear hb9 HI HB7 HG7
  go_wp2_with fail
  refine (HN.out _ HG8.out).mono ?_
  intro e w9 hrow
  obtain ⟨A9, c9, rfl, hc9, hC9, hb9⟩ := row_reads hrow
  have HB9 := Lib.hid (below_step HB8.out hb9)
  have HI := Lib.hid (ints_any [2, 3, 5, 7, 8] (Kd.C_below hC9 (below_alloc (Below.refl _ _) (.cells (nums .i64 [2, 3, 5, 7, 8]).toArray 3))) hc9 (c_new w9 [2, 3, 5, 7, 8] (by decide) (by decide)) (c1 := 5) (by decide) (by decide))
  clear hrow hc9 hC9 hb9 HB8 HG8
  go_wp2_with fail
  refine HI.out.mono ?_
  rintro e w10 ⟨rfl, hb10⟩
  have HBX := Lib.hid (below_step HB9.out (below_step (below_alloc (Below.refl _ w9) _) hb10))
  clear hb10
  go_wp2_with fail
  go_ret
  exact ⟨rfl, HBX.out⟩

end Go.Proofs.Ytdloopgdohjedaa
