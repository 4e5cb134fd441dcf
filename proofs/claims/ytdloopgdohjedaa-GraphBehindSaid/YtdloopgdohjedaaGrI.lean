/-
  Graph: GraphTells: the walk.
-/
import Derived.Test.YtdloopgdohjedaaGrG
set_option linter.unusedVariables false
set_option linter.unusedSimpArgs false
namespace Go.Proofs.Ytdloopgdohjedaa
open Go.RowKit Go.Maps Go.Shelf Go.Proofs.YtdloopgdohjedaaW.PrintWords PGraphTells

theorem fits_any {A : Option Addr} {c : Nat} {l : List S41} {w : World} (hC : Kd.C k41 w A l.length l) (hc : l.length ≤ c) :
    Calls Try.prog 5 #[.slice A l.length c] w fun e w' => e = .returned (.bool (fitsB l)) ∧ Below w.heap.size w w' := by
  obtain ⟨k, h⟩ := (fits_ev l).rounds
  exact (gridironlaw12_fits.calls k A c l (fitsB l) w hC hc h).mono fun e w' ⟨h1, h2⟩ => ⟨h1, h2.below⟩
theorem of_any {A : Option Addr} {c : Nat} {l : List S41} {w : World} {L : List S55} (hL : L = l.map conv) (hC : Kd.C k41 w A l.length l) (hc : l.length ≤ c) (hl : l.length ≤ 100000) :
    Calls Try.prog 8 #[.slice A l.length c] w fun e w' => ∃ A' c', e = .returned (.slice A' L.length c') ∧ L.length ≤ c' ∧ Kd.C k55 w' A' L.length L ∧ Below w.heap.size w w' := by
  subst hL
  obtain ⟨k, h⟩ := (of_ev l hl).rounds
  refine (gridironlaw12_of.calls k (fun k => k < w.heap.size) A c l _ w (Kd.V_mk hc (Kd.C_F k41_heap hC)) h).mono ?_
  rintro e w' ⟨v, rfl, hN, hb⟩
  obtain ⟨A', c', rfl⟩ := Kd.N_slice hN
  obtain ⟨h1, h2, h3⟩ := Kd.N_reads' hN
  exact ⟨A', c', rfl, h2, h3, hb⟩
theorem may_any {A : Option Addr} {c : Nat} {l : List S41} {w : World} {L : List S55} (hL : L = l.map conv) (hC : Kd.C k55 w A L.length L) (hc : L.length ≤ c) (hl : l.length ≤ 60) (hr : ∀ x ∈ l, x.f1.length ≤ 60) :
    Calls Try.prog 9 #[.slice A L.length c] w fun e w' => e = .returned (.int .i64 (mayR l)) ∧ Below w.heap.size w w' := by
  subst hL
  obtain ⟨k, h⟩ := (may_ev (l.map conv) (by simp; omega) (fun x hx => by obtain ⟨y, hy, rfl⟩ := List.mem_map.1 hx; have := hr y hy; show y.f1.length ≤ _; omega)).rounds
  exact (gridironref12_May.calls k A c _ _ w hC hc h).mono fun e w' ⟨h1, h2⟩ => ⟨h1, h2.below⟩
theorem conv_len {l : List S41} (hr : ∀ x ∈ l, x.f1.length ≤ 60) : ∀ x ∈ l.map conv, x.f1.length ≤ 100000 := by
  intro x hx
  obtain ⟨y, hy, rfl⟩ := List.mem_map.1 hx
  have := hr y hy
  show y.f1.length ≤ _
  omega
/-- A new row, read. -/
def RowRead (xs : List Int) (w : World) (e : Ending) (w' : World) : Prop := ∃ A c, e = .returned (.slice A xs.length c) ∧ xs.length ≤ c ∧ (Kd.int .i64).C w' A xs.length xs ∧ Below w.heap.size w w'
theorem rowRead_of {xs : List Int} {w w' : World} {e : Ending} (h : ∃ v, e = .returned v ∧ Kd.R (Kd.int .i64) 3 w' w.heap.size (fun _ => True) v xs ∧ Below w.heap.size w w') : RowRead xs w e w' := by
  obtain ⟨v, rfl, hR, hb⟩ := h
  obtain ⟨A, c, rfl, hc, hC⟩ := Kd.Q_reads (Kd.Q_of_R hR)
  exact ⟨A, c, rfl, hc, hC, hb⟩
section
variable {A : Option Addr} {c : Nat} {l : List S55} {w : World}
theorem rnodes_any (hC : Kd.C k55 w A l.length l) (hc : l.length ≤ c) (hl : l.length ≤ 60) : Calls Try.prog 12 #[.slice A l.length c] w (RowRead (nodesR l) w) := by
  obtain ⟨k, h⟩ := (nodes_ev l (by omega)).rounds
  exact (gridironref12_Nodes.calls k A c _ _ w hC hc h).mono fun e w' h => rowRead_of h
theorem rcyclic_any (hC : Kd.C k55 w A l.length l) (hc : l.length ≤ c) (hl : l.length ≤ 60) (hr : ∀ x ∈ l, x.f1.length ≤ 60) (p : Int → Bool) (hp : ∀ n, p n = true ↔ HangR l [n] n) : Calls Try.prog 14 #[.slice A l.length c] w (RowRead ((nodesR l).filter p) w) := by
  obtain ⟨k, h⟩ := (cyclic_ev l (by omega) (fun x hx => Nat.le_trans (hr x hx) (by omega)) p hp).rounds
  exact (gridironref12_Cyclic.calls k A c _ _ w hC hc h).mono fun e w' h => rowRead_of h
theorem rorder_any (hC : Kd.C k55 w A l.length l) (hc : l.length ≤ c) (hl : l.length ≤ 60) (hr : ∀ x ∈ l, x.f1.length ≤ 60) (p : Int → Bool) (hp : ∀ n, p n = true ↔ HangR l [n] n) (out : List Int) (ho : out.length ≤ 2000)
    (hs : Steps (fun o => (nodesR l).find? (okO l ((nodesR l).filter p) o)) out) (hz : (nodesR l).find? (okO l ((nodesR l).filter p) out) = none) : Calls Try.prog 16 #[.slice A l.length c] w (RowRead out w) := by
  obtain ⟨k, h⟩ := (order_ev l (by omega) (fun x hx => Nat.le_trans (hr x hx) (by omega)) p hp out ho hs hz).rounds
  exact (gridironref12_Order.calls k A c _ _ w hC hc h).mono fun e w' h => rowRead_of h
theorem rhang_any (hC : Kd.C k55 w A l.length l) (hc : l.length ≤ c) (hl : l.length ≤ 60) (hr : ∀ x ∈ l, x.f1.length ≤ 60) {B : Option Addr} {d : Nat} (on : List Int) (hB : (Kd.int .i64).C w B on.length on) (hd : on.length ≤ d) (hon : on.length ≤ 60) (xs : List Int) (hx : Rise xs) (hh : ∀ x, x ∈ xs ↔ HangR l on x) (hf : ∀ x ∈ xs, fitB x = true) : Calls Try.prog 18 #[.slice A l.length c, .slice B on.length d] w (RowRead xs w) := by
  obtain ⟨p, hp⟩ : ∃ p : Int → Bool, ∀ n, p n = true ↔ HangR l on n := ⟨fun n => @decide _ (Classical.propDecidable (HangR l on n)), fun n => by simp⟩
  obtain ⟨k, h⟩ := (hang_ev l on (by omega) (by omega) (fun x hx => Nat.le_trans (hr x hx) (by omega)) p hp).rounds
  have e : (cands 0 1024).filter p = xs := by
    refine rise_ext ((rise_cands 1024 0).sublist List.filter_sublist) hx (fun x => ?_)
    rw [List.mem_filter, mem_cands, hp, ← hh]
    constructor
    · exact fun h => h.2
    · intro h
      have := hf x h
      simp [fitB] at this
      exact ⟨⟨by omega, by omega⟩, h⟩
  rw [e] at h
  exact (gridironref12_Hang.calls k A c _ B d on _ w hC hc hB hd h).mono fun e w' h => rowRead_of h
end

end Go.Proofs.Ytdloopgdohjedaa
