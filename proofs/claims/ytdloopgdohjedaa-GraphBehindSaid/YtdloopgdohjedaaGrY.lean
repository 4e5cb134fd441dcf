/-
  Graph: Order: the walk.
-/
import Derived.Test.YtdloopgdohjedaaGrU
set_option linter.unusedVariables false
set_option linter.unusedSimpArgs false
namespace Go.Proofs.Ytdloopgdohjedaa
open Go.RowKit Go.Maps Go.Shelf Go.Proofs.YtdloopgdohjedaaW.PrintWords PGraphTells

theorem order_nil (w : World) : Calls Try.prog 15 #[.pointer none] w (RowIs [] w) := by
  go_enter Try.func15, Try.ntmps15
  go_wp2
  go_ret
  exact ⟨_, rfl, own_nil _ _ _ _, Below.refl _ _⟩

/-- Order's predicate: is a number one of the cyclic ones, which lie in a box? -/
theorem pred32 (Bx : Nat) (cy : List Int) (A : Option Addr) (c : Nat) (w : World) (row : Option Nat) (hR : ReadsInt w .i64 A cy.length cy) (hc : w.cell? ⟨Bx, 0, none⟩ = some (.slice A cy.length c)) (h1 : some Bx ≠ row) (h2 : ∀ ad, A = some ad → some ad.block ≠ row) :
    PredG 32 #[.pointer (some ⟨Bx, 0, none⟩)] (fun n => cy.contains n) (fun _ => True) w row := by
  intro W x _ hg
  have hc' := cell_grown hg hc h1
  have hR' : ReadsInt W .i64 A cy.length cy := ⟨rfl, hR.2.1, fun hp => by
    obtain ⟨ad, e, hcell⟩ := hR.2.2 hp
    refine ⟨ad, e, fun j hj => cell_grown hg (hcell j hj) ?_⟩
    have := h2 ad e
    have e2 : (ad.add j).block = ad.block := by unfold Addr.add; split <;> rfl
    rw [e2]
    exact this⟩
  show Calls Try.prog 32 #[.int .i64 x, .pointer (some ⟨Bx, 0, none⟩)] W _
  go_enter Try.func32, Try.ntmps32
  go_wp2_with (go_at_call 33; refine (contains_any A c cy x _ hR').mono ?_; rintro e w' ⟨rfl, rfl⟩)
  go_ret
  exact ⟨ret_b (by simp), Below.refl _ _⟩

/-- What lies there in Order's loops: w is the world ahead of the map's making. -/
structure OS (w W : World) (m : SM) (rs : List Int) (vt : Value) : Prop where
  wts : W.ownsMap Try.prog 3 (plainElem Try.prog 3) w.heap.size m.length (iz m)
  rdy : QRow W (w.heap.size + 1) 3 1 vt rs.length (nums .i64 rs)
  below : Below w.heap.size w W
theorem OS.lt {w W : World} {m : SM} {rs : List Int} {vt : Value} (h : OS w W m rs vt) : w.heap.size + 1 ≤ W.heap.size := h.wts.lt
theorem OS.later {w W W' : World} {m : SM} {rs : List Int} {vt : Value} (h : OS w W m rs vt) (hb : Below W.heap.size W W') : OS w W' m rs vt := ⟨own_I_below h.wts hb, q_below h.rdy hb, below_step h.below hb⟩
/-- Behind a store into the map. -/
theorem OS.put {w W W' : World} {m : SM} {rs : List Int} {vt : Value} {k v : Int} {n : Nat} (h : OS w W m rs vt) (hown : W'.ownsMap Try.prog 3 (plainElem Try.prog 3) w.heap.size n ((iz m).put (.int .i64 k) (ilit v))) (hg : W.grownBy W' (some w.heap.size)) : OS w W' (putM m k v) rs vt := by
  rw [gmap_put] at hown
  refine ⟨own_lenI hown, q_move h.rdy (fun j hj => hg.block j (q_lt h.rdy j hj) (fun e => ?_)), h.below.grown hg h.below.size (fun j e => by injection e with e; omega)⟩
  have := (q_typed h.rdy j hj).1
  injection e with e
  omega
/-- Behind an insertion. -/
theorem OS.with_ {w W W' : World} {m : SM} {rs xs : List Int} {vt v' : Value} (h : OS w W m rs vt) (hq : QRow W' (w.heap.size + 1) 3 1 v' xs.length (nums .i64 xs)) (hg : W.grownBy W' vt.ownBlock) : OS w W' m xs v' := by
  have hne : ∀ j, vt.ownBlock = some j → w.heap.size + 1 ≤ j := fun j hj => (q_typed h.rdy j hj).1
  exact ⟨h.wts.kept hg (fun e => by have := hne _ e.symm; omega), hq, h.below.grown hg h.below.size (fun j e => by have := hne j e; omega)⟩

theorem cntN_snoc (plain : List Int) (n : Int) (w : SM) (R : List Int) {j : Nat} (hj : j < R.length) : cntN plain n w (R.take (j + 1)) = cnt1 plain n (cntN plain n w (R.take j)) (rd R (j : Int)) := by
  have e : rd R (j : Int) = R[j] := by simp [rd, List.getD_eq_getElem?_getD, hj]
  unfold cntN
  rw [List.take_succ_eq_append_getElem hj, List.foldl_append, e]
  rfl
theorem decN_snoc (plain : List Int) (st : SM × List Int) (R : List Int) {j : Nat} (hj : j < R.length) : decN plain st (R.take (j + 1)) = dec1 plain (decN plain st (R.take j)) (rd R (j : Int)) := by
  have e : rd R (j : Int) = R[j] := by simp [rd, List.getD_eq_getElem?_getD, hj]
  unfold decN
  rw [List.take_succ_eq_append_getElem hj, List.foldl_append, e]
  rfl
theorem len_cntN (plain : List Int) (n : Int) : ∀ (xs : List Int) (w : SM), (cntN plain n w xs).length ≤ w.length + xs.length
  | [], w => by simp [cntN]
  | x :: xs, w => by
    have ih := len_cntN plain n xs (cnt1 plain n w x)
    have h1 : (cnt1 plain n w x).length ≤ w.length + 1 := by
      unfold cnt1
      split
      · exact len_put_le _ _ _
      · omega
    show (cntN plain n (cnt1 plain n w x) xs).length ≤ _
    rw [List.length_cons]
    omega
theorem len_iniN {plain : List Int} {m1 : GM} (hl : ∀ x, (rd1 m1 x).length ≤ 2000) (ns : List Int) : (iniN plain m1 ns).1.length ≤ ns.length * 2000 := by
  refine snoc_ind (P := fun ns => (iniN plain m1 ns).1.length ≤ ns.length * 2000) (by simp [iniN]) (fun l a ih => ?_) ns
  rw [iniN_snoc]
  have := len_cntN plain a (rd1 m1 a) (iniN plain m1 l).1
  have := hl a
  show (cntN plain a _ _).length ≤ _
  rw [List.length_append, List.length_singleton]
  omega
theorem len_decN (plain : List Int) : ∀ (xs : List Int) (st : SM × List Int), (decN plain st xs).1.length ≤ st.1.length + xs.length
  | [], st => by simp [decN]
  | x :: xs, st => by
    have ih := len_decN plain xs (dec1 plain st x)
    have h1 : (dec1 plain st x).1.length ≤ st.1.length + 1 := len_put_le _ _ _
    rw [decN_cons, List.length_cons]
    omega
theorem kq_of_q {w : World} {B : Nat} {v : Value} {xs : List Int} (h : QRow w B 3 1 v xs.length (nums .i64 xs)) : Kd.Q (Kd.int .i64) 3 w B (fun _ => True) v xs :=
  ⟨fun _ _ => trivial, nums .i64 xs, h, Kd.reps_scalar (enc := Value.int .i64) xs⟩
theorem q_of_kq {w : World} {B : Nat} {ok : Nat → Prop} {v : Value} {xs : List Int} (h : Kd.Q (Kd.int .i64) 3 w B ok v xs) : QRow w B 3 1 v xs.length (nums .i64 xs) := by
  obtain ⟨_, inner, ho, hr⟩ := h
  have : inner = nums .i64 xs := by
    have hl : inner.length = xs.length := by have := hr.1; rw [this]; exact Nat.mul_one _
    apply List.ext_getElem?
    intro j
    rcases Nat.lt_or_ge j xs.length with hj | hj
    · have h2 := hr.2 j _ (List.getElem?_eq_getElem hj)
      have h3 : (inner.drop (j * 1)).take 1 = [Value.int .i64 xs[j]] := h2
      rw [Nat.mul_one, List.drop_eq_getElem_cons (by omega)] at h3
      have h4 : inner[j] = Value.int .i64 xs[j] := by
        have h5 := congrArg List.head? h3
        rw [List.take_succ_cons] at h5
        exact Option.some.inj h5
      rw [List.getElem?_eq_getElem (by omega), h4]
      simp [nums, hj]
    · rw [List.getElem?_eq_none (by omega), List.getElem?_eq_none (by simp [nums]; omega)]
  subst this
  exact ho

/-- What lies there in Order's second loop. -/
structure OT (w W : World) (m : SM) (rs out : List Int) (vt vo : Value) : Prop where
  os : OS w W m rs vt
  out : Kd.R (Kd.int .i64) 3 W (w.heap.size + 1) (fun _ => True) vo out
  apart : ∀ k, vo.ownBlock = some k → vt.ownBlock ≠ some k
theorem OT.lt {w W : World} {m : SM} {rs out : List Int} {vt vo : Value} (h : OT w W m rs out vt vo) : w.heap.size + 1 ≤ W.heap.size := h.os.lt
theorem OT.own {w W : World} {m : SM} {rs out : List Int} {vt vo : Value} (h : OT w W m rs out vt vo) : W.ownsRow (w.heap.size + 1) 3 1 vo out.length (nums .i64 out) := Kd.own_of_R h.out
theorem r_of_own {W : World} {B : Nat} {v : Value} {xs : List Int} (h : W.ownsRow B 3 1 v xs.length (nums .i64 xs)) : Kd.R (Kd.int .i64) 3 W B (fun _ => True) v xs := Kd.R_of_own (enc := Value.int .i64) (h1 := fun _ => rfl) h (fun _ _ => trivial)
theorem OT.put {w W W' : World} {m : SM} {rs out : List Int} {vt vo : Value} {k v : Int} {n : Nat} (h : OT w W m rs out vt vo) (hown : W'.ownsMap Try.prog 3 (plainElem Try.prog 3) w.heap.size n ((iz m).put (.int .i64 k) (ilit v))) (hg : W.grownBy W' (some w.heap.size)) : OT w W' (putM m k v) rs out vt vo :=
  ⟨h.os.put hown hg, r_of_own (h.own.kept hg (.inr (fun e => by have := own_base h.own _ e; omega))), h.apart⟩
theorem OT.with_ {w W W' : World} {m : SM} {rs out xs : List Int} {vt vo v' : Value} (h : OT w W m rs out vt vo) (hq : QRow W' (w.heap.size + 1) 3 1 v' xs.length (nums .i64 xs)) (hg : W.grownBy W' vt.ownBlock) (hat : v'.ownBlock = vt.ownBlock ∨ ∃ g, v'.ownBlock = some g ∧ W.heap.size ≤ g) : OT w W' m xs out v' vo := by
  refine ⟨h.os.with_ hq hg, r_of_own (h.own.kept hg ?_), fun k hk => ?_⟩
  · cases hv : vo.ownBlock with
    | none => exact .inl rfl
    | some k => exact .inr (fun e => h.apart k hv e.symm)
  · rcases hat with hat | ⟨g, h1, h2⟩
    · rw [hat]; exact h.apart k hk
    · rw [h1]
      intro e
      injection e with e
      have := own_lt h.own k hk
      omega
theorem OT.app {w W W' : World} {m : SM} {rs out out' : List Int} {vt vo v' : Value} (h : OT w W m rs out vt vo) (hq : Kd.R (Kd.int .i64) 3 W' (w.heap.size + 1) (fun _ => True) v' out') (hg : W.grownBy W' vo.ownBlock) (hat : v'.ownBlock = vo.ownBlock ∨ ∃ g, v'.ownBlock = some g ∧ W.heap.size ≤ g) : OT w W' m rs out' vt v' := by
  have hb := fun k hk => own_base h.own k hk
  refine ⟨⟨h.os.wts.kept hg (fun e => by have := hb _ e.symm; omega), q_move h.os.rdy (fun j hj => hg.block j (q_lt h.os.rdy j hj) (fun e => h.apart j e.symm hj)), h.os.below.grown hg h.os.below.size (fun k hk => by have := hb k hk; omega)⟩, hq, fun k hk e => ?_⟩
  rcases hat with hat | ⟨g, h1, h2⟩
  · exact h.apart k (hat ▸ hk) e
  · have := q_lt h.os.rdy k e
    rw [h1] at hk
    injection hk with hk
    omega
theorem OT.later {w W W' : World} {m : SM} {rs out : List Int} {vt vo : Value} (h : OT w W m rs out vt vo) (hb : Below W.heap.size W W') : OT w W' m rs out vt vo := ⟨h.os.later hb, r_of_own (pw_own_below h.own hb), h.apart⟩

end Go.Proofs.Ytdloopgdohjedaa
