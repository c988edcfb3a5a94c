/- PeaksGrow: the walk. -/
import Derived.Test.YtoeibcdnhglobaaDoorGPk
namespace Go.Proofs.YtoeibcdnhglobaaDoor.P
set_option linter.unusedVariables false
set_option linter.unusedSimpArgs false
open Go.RowKit Go.Shelf Go.Proofs.YtoeibcdnhglobaaDoorW.PrintWords Go.Proofs.YtoeibcdnhglobaaDoorW.PrintLast Go.Proofs.YtoeibcdnhglobaaDoorW.PrintMore
open Go.Proofs.YtoeibcdnhglobaaDoor.Pure

/-- The first five bytes. -/
def cut5 (s : ByteArray) : ByteArray := if 5 < s.size then s.extract 0 5 else s
theorem cut5_size (s : ByteArray) : (cut5 s).size ≤ 5 := by
  unfold cut5
  split
  · rw [ByteArray.size_extract]; omega
  · omega
theorem LawS.len {w wr : World} {b : Nat} {xs : List ByteArray} {og : Option Nat} (h : LawS w b xs og wr) :
    Calls Tryd.prog 33 #[.pointer (some ⟨b, 0, none⟩)] wr fun e w' => e = .returned (.int .i64 xs.length) ∧ w' = wr := by
  obtain ⟨v, hv, _⟩ := h.rng
  have hc2 : wr.cell? ⟨b, 2, none⟩ = some (.int .i64 xs.length) := by simp [World.cell?, hv.blk]
  clear hv h
  go_enter Tryd.func33, Tryd.ntmps33
  go_wp2
  go_ret
  exact ⟨rfl, rfl⟩
/-- What was added so far, in the law's own row: apart from the range. -/
structure OwnL (w : World) (b : Nat) (og : Option Nat) (wr : World) (v : Value) (xs : List ByteArray) : Prop where
  own : wr.ownsRow w.heap.size 9 1 v xs.length (xs.map fun x => .string x)
  apart : ∀ g, v.ownBlock = some g → g ≠ b ∧ og ≠ some g
theorem OwnL.far {w wr w' : World} {b : Nat} {og og' : Option Nat} {v : Value} {xs : List ByteArray} (h : OwnL w b og wr v xs) (ht : Touch (fun k => k = b ∨ some k = og) wr w') (hg : og' = og ∨ ∃ g, og' = some g ∧ wr.heap.size ≤ g) : OwnL w b og' w' v xs := by
  refine ⟨own_blk h.own fun g hg' => ht.block g (h.own.lt g hg').2 (fun e => ?_), fun g hg' => ⟨(h.apart g hg').1, fun e => ?_⟩⟩
  · rcases e with e | e
    · exact (h.apart g hg').1 e
    · exact (h.apart g hg').2 e.symm
  · rcases hg with e2 | ⟨g2, e2, hge⟩
    · exact (h.apart g hg').2 (e2 ▸ e)
    · rw [e] at e2; cases e2
      have := (h.own.lt _ hg').2
      omega
theorem OwnL.after {w wr w' : World} {b : Nat} {og : Option Nat} {v : Value} {xs : List ByteArray} (h : OwnL w b og wr v xs) (hb : Below wr.heap.size wr w') : OwnL w b og w' v xs :=
  h.far (Touch.of_below hb) (.inl rfl)

theorem OwnL.grow {w wr w5 : World} {b : Nat} {og : Option Nat} {v v5 : Value} {xs ys : List ByteArray} {y : ByteArray} (hL : LawS w b xs og wr) (hO : OwnL w b og wr v ys)
    (hown5 : w5.ownsRow w.heap.size 9 1 v5 (ys ++ [y]).length (encs Value.string (ys ++ [y]))) (hgr : wr.grownBy w5 v.ownBlock) (hat : v5.ownBlock = v.ownBlock ∨ ∃ b, v5.ownBlock = some b ∧ wr.heap.size ≤ b) :
    LawS w b xs og w5 ∧ OwnL w b og w5 v5 (ys ++ [y]) := by
  refine ⟨hL.far (S := fun k => some k = v.ownBlock) (Touch.grown hgr (fun k e => e.symm)) (fun k hk => ⟨(hO.own.lt k hk.symm).1, hO.apart k hk.symm⟩), hown5, fun g hg => ?_⟩
  rcases hat with e | ⟨g2, e, hge⟩
  · exact hO.apart g (e ▸ hg)
  · rw [hg] at e; cases e
    exact ⟨fun e => by have := hL.lt; omega, fun e => by have := (hL.own _ e).2; omega⟩
theorem LawS.peaksR {w wr : World} {b : Nat} {xs : List ByteArray} {og : Option Nat} (h : LawS w b xs og wr) (hn : xs.length < 1000000) (R : List ByteArray) (hR : (stk joinS xs).reverse = R) :
    Calls Tryd.prog 24 #[.pointer (some ⟨b, 0, none⟩)] wr fun e w' => ∃ A' c', e = .returned (.slice A' R.length c') ∧ ReadsOf Value.string ByteArray.empty w' A' R.length R ∧ Below wr.heap.size wr w' ∧ LawS w b xs og w' := by
  have hlen := stk_length joinS xs
  have hRl : (stk joinS xs).length = R.length := by rw [← hR, List.length_reverse]
  refine (h.peaks hn).mono fun e w' ⟨v', he, ho, hb, hL⟩ => ?_
  rw [hR, hRl] at ho
  obtain ⟨A', c', rfl, _, _⟩ := own_slice ho
  exact ⟨A', c', he, own_readsS ho (by omega), hb, hL⟩
theorem PeaksR_calls (A : Option Addr) (c : Nat) (l : List ByteArray) (w : World) (hr : ReadsOf Value.string ByteArray.empty w A l.length l) (hc : l.length ≤ c) (hm : l.length < 1000000) (hwt : wt l ≤ 9223372036854775807) (R : List ByteArray) (hR : (stk joinS l).reverse = R) :
    Calls Tryd.prog 35 #[.slice A l.length c] w fun e w' => ∃ A' c', e = .returned (.slice A' R.length c') ∧ ReadsOf Value.string ByteArray.empty w' A' R.length R ∧ Below w.heap.size w w' := by
  have hlen := stk_length joinS l
  have hRl : (stk joinS l).length = R.length := by rw [← hR, List.length_reverse]
  refine (Peaks_calls A c l w hr hc hm hwt).mono fun e w' ⟨v, out, he, hP, ho, hb⟩ => ?_
  obtain rfl : R = out := hR.symm.trans (stk_Pk l out (by omega) hP)
  obtain ⟨A', c', rfl, _, _⟩ := own_slice ho
  exact ⟨A', c', he, own_readsS ho (by omega), hb⟩

set_option maxRecDepth 100000 in
set_option maxHeartbeats 8000000 in
theorem PeaksGrow_calls (A : Option Addr) (c : Nat) (l : List ByteArray) (w : World) (hr : ReadsOf Value.string ByteArray.empty w A l.length l) (hc : l.length ≤ c) (hsz : ∀ x ∈ l, x.size ≤ 140737488355328) (hT : TzTab w) :
    Calls Tryd.prog 5 #[.slice A l.length c] w fun e w' => e = .returned (.bool true) ∧ Below w.heap.size w w' := by
  have hL := LawS.new w hT
  have hbig := hr.2.1
  obtain ⟨m, hm⟩ : ∃ m : List ByteArray, m = l.map cut5 := ⟨_, rfl⟩
  have hml : m.length = l.length := by rw [hm]; simp
  have hmw : ∀ j, j ≤ 40 → wt (m.take j) ≤ 280 := fun j hj => Nat.le_trans (wt_bd _ 5 (fun x hx => by
    have hx2 := List.mem_of_mem_take hx
    rw [hm] at hx2
    obtain ⟨y, _, rfl⟩ := List.mem_map.1 hx2
    exact cut5_size y)) (by rw [List.length_take]; omega)
  have hmt : ∀ j, (m.take j).length ≤ j := fun j => by rw [List.length_take]; omega
  have kT0 := fun (wr : World) (og : Option Nat) (h : LawS w w.heap.size [] og wr) => LawS.top h (by decide) (by decide)
  rw [show decide (0 < ([] : List ByteArray).length) = false from rfl] at kT0
  have kN0 := fun (wr : World) (og : Option Nat) (h : LawS w w.heap.size [] og wr) => LawS.len h
  have kP0 := fun (wr : World) (og : Option Nat) (h : LawS w w.heap.size [] og wr) => LawS.peaks h (by decide)
  rw [show stk joinS ([] : List ByteArray) = [] from rfl] at kP0
  have kL := fun (wr : World) (og : Option Nat) (xs : List ByteArray) (h : LawS w w.heap.size xs og wr) => lives09_calls wr (hT.below h.below hT.lt)
  have HSZ := Lib.hid hsz
  clear hsz
  go_enter Tryd.func5, Tryd.ntmps5
  go_wp2_with (first
    | (go_at_call 21; refine (New_S _).mono ?_; rintro e w' ⟨rfl, hw'⟩; rw [hw']; clear hw' w')
    | (go_at_call 25; with_reducible refine (kT0 _ _ hL).mono ?_; rintro e w1 ⟨rfl, _, hL1⟩)
    | (go_at_call 33; with_reducible refine (kN0 _ _ hL1).mono ?_; rintro e w2 ⟨rfl, hw2⟩; rw [hw2]; clear hw2 w2)
    | (go_at_call 24; with_reducible refine (kP0 _ _ hL1).mono ?_; rintro e w3 ⟨pv, rfl, hop, _, hL3⟩; obtain ⟨Ap, cp, rfl, _, _⟩ := own_slice hop; clear hop))
  clear kT0 kN0 kP0 hL1
  go_loopw [6, 7] (fun v6 v7 wr => ∃ (i : Nat) (og : Option Nat), v7 = .int .i64 i ∧ i ≤ l.length ∧ i ≤ 40 ∧ LawS w w.heap.size (m.take i) og wr ∧ OwnL w w.heap.size og wr v6 (m.take i)) (fun v6 v7 _ => 41 - (intOf v7).toNat)
  case atStart => exact ⟨0, none, rfl, by omega, by omega, by simpa using hL3, ⟨World.ownsRow_nil _ _ _ _, fun g e => by cases e⟩⟩
  case round =>
    obtain ⟨i, og, rfl, hi, hi40, hLi, hO⟩ := hrel
    by_cases hlt : i < l.length
    · have hb1 : decide ((i : Int) < (l.length : Int)) = true := decide_eq_true (by omega)
      by_cases h40 : i < 40
      · have hb2 : decide ((i : Int) < 40) = true := decide_eq_true (by omega)
        obtain ⟨ad, rfl, hcell⟩ := hr.at_ i (by omega) (by omega)
        have hcell2 := (hLi.below.cell (World.block_lt_of_cell? _ _ hcell)).trans hcell
        have hrd : rdOf ByteArray.empty l (i : Int) = l[i] := by simp [rdOf, List.getD_eq_getElem?_getD, hlt]
        rw [hrd, Int.toNat_natCast] at hcell2
        have hmi : m.take (i + 1) = m.take i ++ [cut5 l[i]] := by
          rw [List.take_succ_eq_append_getElem (by omega)]
          simp [hm]
        have hlen1 : (m.take (i + 1)).length = i + 1 := by rw [List.length_take]; omega
        have hlen0 : (m.take i).length = i := by rw [List.length_take]; omega
        have hw1 := hmw (i + 1) (by omega)
        obtain ⟨s, hs⟩ : ∃ s, s = l[i] := ⟨_, rfl⟩
        have hss : s.size ≤ 140737488355328 := by rw [hs]; exact HSZ.out _ (List.getElem_mem _)
        rw [← hs] at hcell2 hmi
        clear hs hrd hcell
        obtain ⟨y, hy⟩ : ∃ y, y = cut5 s := ⟨_, rfl⟩
        rw [← hy] at hmi
        generalize m.take i = xs0 at *
        generalize hx1 : m.take (i + 1) = xs1 at *
        have HX1 := Lib.hid hx1
        clear hx1
        obtain ⟨R, hR⟩ : ∃ R, (stk joinS xs1).reverse = R := ⟨_, rfl⟩
        have kA := fun (wq : World) (oq : Option Nat) (h : LawS w w.heap.size xs0 oq wq) => LawS.add h y (by omega) (by rw [← hmi]; omega)
        rw [← hmi] at kA
        have kT := fun (wq : World) (oq : Option Nat) (h : LawS w w.heap.size xs1 oq wq) => LawS.top h (by omega) (by rw [hlen1]; exact Nat.le_trans (Nat.mul_le_mul (show i + 1 + 2 ≤ 42 by omega) (Nat.add_le_add_right hw1 2)) (by decide))
        rw [show decide (0 < xs1.length) = true by rw [hlen1]; simp] at kT
        have kP := fun (wq : World) (oq : Option Nat) (h : LawS w w.heap.size xs1 oq wq) => LawS.peaksR h (by omega) R hR
        have kR := fun (B : Option Addr) (cB : Nat) (wq : World) (h1 : ReadsOf Value.string ByteArray.empty wq B xs1.length xs1) (h2 : xs1.length ≤ cB) => PeaksR_calls B cB xs1 wq h1 h2 (by omega) (by omega) R hR
        have kW := fun (B : Option Addr) (cB : Nat) (wq : World) (h1 : ReadsOf Value.string ByteArray.empty wq B xs1.length xs1) (h2 : xs1.length ≤ cB) => Words_calls _ xs1 (Nat.le_refl _) (by omega) (by omega) B cB wq h1 h2
        have kN := fun (wq : World) (oq : Option Nat) (h : LawS w w.heap.size xs1 oq wq) => LawS.len h
        rw [hlen1] at kN
        have hb16 : (xs0.length + 1) * 16 ≤ 140737488355328 := by omega
        have hx63 : xs1.length ≤ 9223372036854775807 := by omega
        have HM := Lib.hid hmi
        have HX := Lib.hid hx63
        have hb0 := hLi.below
        have hb00 := hLi.below.size
        clear hmi hlen1 hlen0 hw1 hmw hmt kL hx63 hR hml hm hr hL hL3
        by_cases h5 : 5 < s.size
        · have hyx : y = s.extract 0 5 := by rw [hy]; unfold cut5; rw [if_pos h5]
          have h5d : decide ((5 : Int) < (s.size : Int)) = true := decide_eq_true (by omega)
          have h5i : (5 : Int) ≤ (s.size : Int) := by omega
          subst hyx
          clear hy
          go_wp2_with (first
            | (at_builtin; refine print_append_of (w0 := w) Value.string w.heap.size rfl _ _ 22 9 (.string ⟨#[]⟩) 16 rfl Tryd.underlying22 inf9 rfl (by decide) u6 xs0 (s.extract 0 5) rfl rfl rfl hO.own hb0 hb00 hb16 ?_; intro v5 w5 hown5 hB5 hgr5 hat5; obtain ⟨hL5, hO5⟩ := OwnL.grow hLi hO hown5 hgr5 hat5; rw [← HM.out] at hO5; clear hown5 hB5 hgr5 hat5 hLi hO; obtain ⟨B, cB, rfl, hcB, _⟩ := own_slice hO5.own)
            | (go_at_call 23; with_reducible refine (kA _ _ hL5).mono ?_; rintro e w6 ⟨rfl, og6, hL6, ht6, hg6⟩; have hO6 := hO5.far ht6 hg6; clear hL5 hO5 ht6 hg6)
            | (go_at_call 25; with_reducible refine (kT _ _ hL6).mono ?_; rintro e w7 ⟨rfl, hb7, hL7⟩; have hO7 := hO6.after hb7; clear hL6 hO6 hb7)
            | (go_at_call 24; with_reducible refine (kP _ _ hL7).mono ?_; rintro e w8 ⟨Ap, cp, rfl, hrp, hb8, hL8⟩; have hO8 := hO7.after hb8; clear hL7 hO7 hb8)
            | (go_at_call 35; with_reducible refine (kR B cB _ (own_readsS hO8.own HX.out) hcB).mono ?_; rintro e w9 ⟨Ao, co, rfl, hro, hb9⟩; have hO9 := hO8.after hb9; have hL9 := hL8.after hb9; have hrp9 := hrp.below hb9; clear hO8 hL8 hrp hb9)
            | (go_at_call 34; with_reducible refine (Same_calls Ap Ao cp co R _ hrp9 hro).mono ?_; rintro e w10 ⟨rfl, hb10⟩; have hO10 := hO9.after hb10; have hL10 := hL9.after hb10; clear hO9 hL9 hrp9 hro hb10)
            | (go_at_call 26; with_reducible refine (kW B cB _ (own_readsS hO10.own HX.out) hcB).mono ?_; rintro e w11 ⟨rfl, q11, hw11⟩; rw [hw11]; clear hw11 w11; have hO11 := hO10.after (pw_below_drewN (Below.refl _ _) q11); have hL11 := hL10.after (pw_below_drewN (Below.refl _ _) q11); clear hO10 hL10)
            | (go_at_call 33; with_reducible refine (kN _ _ hL11).mono ?_; rintro e w12 ⟨rfl, hw12⟩; rw [hw12]; clear hw12 w12))
          go_roundw
          case rel => exact ⟨i + 1, og6, rfl, by omega, by omega, by rw [HX1.out]; exact hL11, by rw [HX1.out]; exact hO11⟩
          case measure => simp only [intOf]; omega
        · have hyx : y = s := by rw [hy]; unfold cut5; rw [if_neg h5]
          have h5d : decide ((5 : Int) < (s.size : Int)) = false := decide_eq_false (by omega)
          subst hyx
          clear hy
          go_wp2_with (first
            | (at_builtin; refine print_append_of (w0 := w) Value.string w.heap.size rfl _ _ 22 9 (.string ⟨#[]⟩) 16 rfl Tryd.underlying22 inf9 rfl (by decide) u6 xs0 y rfl rfl rfl hO.own hb0 hb00 hb16 ?_; intro v5 w5 hown5 hB5 hgr5 hat5; obtain ⟨hL5, hO5⟩ := OwnL.grow hLi hO hown5 hgr5 hat5; rw [← HM.out] at hO5; clear hown5 hB5 hgr5 hat5 hLi hO; obtain ⟨B, cB, rfl, hcB, _⟩ := own_slice hO5.own)
            | (go_at_call 23; with_reducible refine (kA _ _ hL5).mono ?_; rintro e w6 ⟨rfl, og6, hL6, ht6, hg6⟩; have hO6 := hO5.far ht6 hg6; clear hL5 hO5 ht6 hg6)
            | (go_at_call 25; with_reducible refine (kT _ _ hL6).mono ?_; rintro e w7 ⟨rfl, hb7, hL7⟩; have hO7 := hO6.after hb7; clear hL6 hO6 hb7)
            | (go_at_call 24; with_reducible refine (kP _ _ hL7).mono ?_; rintro e w8 ⟨Ap, cp, rfl, hrp, hb8, hL8⟩; have hO8 := hO7.after hb8; clear hL7 hO7 hb8)
            | (go_at_call 35; with_reducible refine (kR B cB _ (own_readsS hO8.own HX.out) hcB).mono ?_; rintro e w9 ⟨Ao, co, rfl, hro, hb9⟩; have hO9 := hO8.after hb9; have hL9 := hL8.after hb9; have hrp9 := hrp.below hb9; clear hO8 hL8 hrp hb9)
            | (go_at_call 34; with_reducible refine (Same_calls Ap Ao cp co R _ hrp9 hro).mono ?_; rintro e w10 ⟨rfl, hb10⟩; have hO10 := hO9.after hb10; have hL10 := hL9.after hb10; clear hO9 hL9 hrp9 hro hb10)
            | (go_at_call 26; with_reducible refine (kW B cB _ (own_readsS hO10.own HX.out) hcB).mono ?_; rintro e w11 ⟨rfl, q11, hw11⟩; rw [hw11]; clear hw11 w11; have hO11 := hO10.after (pw_below_drewN (Below.refl _ _) q11); have hL11 := hL10.after (pw_below_drewN (Below.refl _ _) q11); clear hO10 hL10)
            | (go_at_call 33; with_reducible refine (kN _ _ hL11).mono ?_; rintro e w12 ⟨rfl, hw12⟩; rw [hw12]; clear hw12 w12))
          go_roundw
          case rel => exact ⟨i + 1, og6, rfl, by omega, by omega, by rw [HX1.out]; exact hL11, by rw [HX1.out]; exact hO11⟩
          case measure => simp only [intOf]; omega
      · have hb2 : decide ((i : Int) < 40) = false := decide_eq_false (by omega)
        have k1 := kL wr og _ hLi
        clear kL hmw hmt
        go_wp2_with (go_at_call 27; with_reducible refine k1.mono ?_; rintro e w2 ⟨rfl, hb9⟩; have hL9 := hLi.after hb9)
        go_ret
        exact ⟨rfl, hL9.below⟩
    · have hb1 : decide ((i : Int) < (l.length : Int)) = false := decide_eq_false (by omega)
      have k1 := kL wr og _ hLi
      clear kL hmw hmt
      go_wp2_with (go_at_call 27; with_reducible refine k1.mono ?_; rintro e w2 ⟨rfl, hb9⟩; have hL9 := hLi.after hb9)
      go_ret
      exact ⟨rfl, hL9.below⟩
end Go.Proofs.YtoeibcdnhglobaaDoor.P
