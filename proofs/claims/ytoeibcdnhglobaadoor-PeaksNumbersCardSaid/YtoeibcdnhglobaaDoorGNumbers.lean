/- PeaksNumbers: the walk. -/
import Derived.Test.YtoeibcdnhglobaaDoorGTopI
import Derived.Test.YtoeibcdnhglobaaDoorGLaw09
import Derived.Test.YtoeibcdnhglobaaDoorPurePop
namespace Go.Proofs.YtoeibcdnhglobaaDoor.P
set_option linter.unusedVariables false
set_option linter.unusedSimpArgs false
open Go.RowKit Go.Shelf Go.Proofs.YtoeibcdnhglobaaDoorW.PrintWords Go.Proofs.YtoeibcdnhglobaaDoorW.PrintLast Go.Proofs.YtoeibcdnhglobaaDoorW.PrintMore
open Go.Proofs.YtoeibcdnhglobaaDoor.Pure

/-- A law's range at block b: the things of xs were added; its row's block is og. -/
structure LawI (w : World) (b : Nat) (xs : List Int) (og : Option Nat) (wr : World) : Prop where
  rng : ∃ v, RngI wr b (stk addI xs) xs.length v ∧ v.ownBlock = og
  below : Below w.heap.size w wr
  tab : TzTab w
  own : ∀ g, og = some g → w.heap.size ≤ g ∧ g < wr.heap.size
  at_ : w.heap.size ≤ b
theorem LawI.lt {w wr : World} {b : Nat} {xs : List Int} {og : Option Nat} (h : LawI w b xs og wr) : b < wr.heap.size := by
  obtain ⟨v, hv, _⟩ := h.rng
  exact hv.lt
theorem LawI.far {w wr w' : World} {b : Nat} {xs : List Int} {og : Option Nat} (h : LawI w b xs og wr) {S : Nat → Prop} (ht : Touch S wr w') (hS : ∀ k, S k → w.heap.size ≤ k ∧ k ≠ b ∧ og ≠ some k) : LawI w b xs og w' := by
  obtain ⟨v, hv, rfl⟩ := h.rng
  exact ⟨⟨v, hv.kept ht (fun k hk => (hS k hk).2), rfl⟩, h.below.trans (ht.to_below h.below.size (fun k hk => (hS k hk).1)), h.tab, fun g hg => ⟨(h.own g hg).1, Nat.lt_of_lt_of_le (h.own g hg).2 ht.size⟩, h.at_⟩
theorem LawI.after {w wr w' : World} {b : Nat} {xs : List Int} {og : Option Nat} (h : LawI w b xs og wr) (hb : Below wr.heap.size wr w') : LawI w b xs og w' := h.far (S := fun _ => False) (Touch.of_below hb) (fun _ e => e.elim)
theorem LawI.new (w : World) (hT : TzTab w) : LawI w w.heap.size [] none (w.alloc (.cells #[.func (.func 29) #[] #[], .slice none 0 0, .int .i64 0] 99)) :=
  ⟨⟨_, RngI.new w, rfl⟩, (Below.refl _ w).alloc (Nat.le_refl _) _, hT, fun g e => (by cases e), Nat.le_refl _⟩
theorem LawI.add {w wr : World} {b : Nat} {xs : List Int} {og : Option Nat} (h : LawI w b xs og wr) (x : Int) (hn : xs.length < 1000000) :
    Calls Tryd.prog 30 #[.pointer (some ⟨b, 0, none⟩), .int .i64 x] wr fun e w' => e = .returned (.tuple #[]) ∧ ∃ og', LawI w b (xs ++ [x]) og' w' ∧ Touch (fun k => k = b ∨ some k = og) wr w' ∧ (og' = og ∨ ∃ g, og' = some g ∧ wr.heap.size ≤ g) := by
  obtain ⟨v, hv, rfl⟩ := h.rng
  have hlen := stk_length addI xs
  have hTw : TzTab wr := h.tab.below h.below h.tab.lt
  refine (Add_I wr b xs.length v x (stk addI xs) hv (by omega) hTw trivial (stk_enough xs (by omega)) (merge_okI _ _ _) (by omega)).mono ?_
  rintro e w' ⟨he, v', hr, ht, hg⟩
  rw [← stk_snoc] at hr
  refine ⟨he, v'.ownBlock, ⟨⟨v', by simpa using hr, rfl⟩, h.below.trans (ht.to_below h.below.size ?_), h.tab, ?_, h.at_⟩, ht, hg⟩
  · rintro k (rfl | hk)
    · exact h.at_
    · exact (h.own k hk.symm).1
  · intro g hg'
    refine ⟨?_, (hr.own.lt g hg').2⟩
    rcases hg with e | ⟨g2, e, hge⟩
    · exact (h.own g (e ▸ hg')).1
    · rw [hg'] at e; cases e
      have := h.below.size
      omega
theorem LawI.peaks {w wr : World} {b : Nat} {xs : List Int} {og : Option Nat} (h : LawI w b xs og wr) (hn : xs.length < 1000000) :
    Calls Tryd.prog 32 #[.pointer (some ⟨b, 0, none⟩)] wr fun e w' => ∃ v', e = .returned v' ∧ w'.ownsRow wr.heap.size 3 1 v' (stk addI xs).length ((stk addI xs).reverse.map fun x => .int .i64 x) ∧ Below wr.heap.size wr w' ∧ LawI w b xs og w' := by
  obtain ⟨v, hv, e⟩ := h.rng
  have hlen := stk_length addI xs
  exact (Peaks_I wr b xs.length v _ hv (by omega)).mono fun e w' ⟨v', he, ho, hb⟩ => ⟨v', he, ho, hb, h.after hb⟩
theorem LawI.top {w wr : World} {b : Nat} {xs : List Int} {og : Option Nat} (h : LawI w b xs og wr) (hn : xs.length < 1000000) :
    Calls Tryd.prog 31 #[.pointer (some ⟨b, 0, none⟩)] wr fun e w' => e = .returned (.tuple #[.int .i64 (Tree addI 0 xs), .bool (decide (0 < xs.length))]) ∧ Below wr.heap.size wr w' ∧ LawI w b xs og w' := by
  obtain ⟨v, hv, e⟩ := h.rng
  have hlen := stk_length addI xs
  have ht := callsIn_wide.1 (Top_in_I 6 (Nat.le_refl _) wr b xs.length v (stk addI xs) hv trivial (by omega) (fun _ _ => True) trivial (fun k t p hk hb hp => ⟨trivial, trivial⟩) (fun k p hp => trivial))
  refine ht.mono fun e w' ⟨he, hb⟩ => ⟨?_, hb, h.after hb⟩
  rw [he]
  have := top_tree (J := addI) 0 xs (by omega)
  rw [show topOf (0 : Int) addI (stk addI xs) = Tree addI 0 xs from this]

theorem own_slice3 {w : World} {base : Nat} {e : TypeId} {size : Nat} {v : Value} {n : Nat} {xs : List Value} (h : w.ownsRow base e size v n xs) :
    ∃ A c, v = .slice A n c ∧ n ≤ c ∧ ∀ j, j < n → ∃ g, A = some ⟨g, 0, none⟩ ∧ base ≤ g := by
  rcases h.2 with ⟨rfl, rfl⟩ | ⟨g, cap, cur, rfl, h1, _, h3, _⟩
  · exact ⟨none, 0, rfl, Nat.le_refl _, fun j hj => absurd hj (Nat.not_lt_zero j)⟩
  · exact ⟨_, cap, rfl, h3, fun _ _ => ⟨g, rfl, h1⟩⟩
theorem wrap_add (a b : Int) : wrap64 (wrap64 a + wrap64 b) = wrap64 (a + b) := by unfold wrap64; omega
theorem wrap_add1 (a b : Int) : wrap64 (wrap64 a + b) = wrap64 (a + b) := by unfold wrap64; omega
theorem sum_app (a b : List Int) : (a ++ b).sum = a.sum + b.sum := by
  induction a with
  | nil => simp
  | cons x a ih => simp only [List.cons_append, List.sum_cons, ih]; omega
theorem tree_sum : ∀ (f : Nat) (l : List Int), l.length ≤ f → 0 < l.length → (∀ x ∈ l, wrap64 x = x) → tree addI 0 f l = wrap64 l.sum
  | 0, l, h, h0, _ => by omega
  | f + 1, [], _, h0, _ => by simp at h0
  | f + 1, [x], _, _, hx => by simp [tree, hx]
  | f + 1, x :: y :: r, h, _, hx => by
    have hh := half_lt (n := r.length + 2) (by omega)
    simp only [List.length_cons] at h
    have i1 := tree_sum f ((x :: y :: r).take (half (r.length + 2))) (by simp only [List.length_take, List.length_cons]; omega) (by simp only [List.length_take, List.length_cons]; omega) (fun z hz => hx z (List.mem_of_mem_take hz))
    have i2 := tree_sum f ((x :: y :: r).drop (half (r.length + 2))) (by simp only [List.length_drop, List.length_cons]; omega) (by simp only [List.length_drop, List.length_cons]; omega) (fun z hz => hx z (List.mem_of_mem_drop hz))
    unfold tree
    rw [i1, i2]
    unfold addI
    rw [wrap_add, ← sum_app, List.take_append_drop]
theorem Tree_sum (l : List Int) (h0 : 0 < l.length) (hx : ∀ x ∈ l, wrap64 x = x) : Tree addI 0 l = wrap64 l.sum := tree_sum _ l (Nat.le_refl _) h0 hx
theorem num_step1 (o k : Nat) (h : o ≤ 60) : wrap64 ((o : Int) + (k : Int) % 2) = ((o + k % 2 : Nat) : Int) := by
  rw [wrap64_id (by omega) (by omega)]; omega
theorem num_step2 (k : Nat) (h : k ≤ 61) : wrap64 ((k : Int) / 2) = ((k / 2 : Nat) : Int) := by
  rw [wrap64_id (by omega) (by omega)]; omega
theorem popc_le (n : Nat) : popc n ≤ n := by
  induction n using Nat.strongRecOn with
  | _ n ih =>
    by_cases h : n = 0
    · subst h; rw [popc_zero]; exact Nat.le_refl _
    · rw [popc_pos n h]
      have := ih (n / 2) (by omega)
      omega

set_option maxRecDepth 100000 in
set_option maxHeartbeats 8000000 in
theorem PeaksNumbers_calls (A : Option Addr) (c : Nat) (l : List Int) (w : World) (hr : ReadsInt w .i64 A l.length l) (hc : l.length ≤ c) (hsz : ∀ x ∈ l, wrap64 x = x) (hT : TzTab w) :
    Calls Tryd.prog 4 #[.slice A l.length c] w fun e w' => e = .returned (.bool true) ∧ Below w.heap.size w w' := by
  have hL := LawI.new w hT
  have hb0 := hL.lt
  have hbig := hr.2.1
  have kA := fun (i : Nat) (wr : World) (og : Option Nat) (hi : i < l.length) (h60 : i < 60) (h : LawI w w.heap.size (l.take i) og wr) => LawI.add h l[i] (by rw [List.length_take]; omega)
  have kT := fun (i : Nat) (wr : World) (og : Option Nat) (h60 : i < 60) (h : LawI w w.heap.size (l.take (i + 1)) og wr) => LawI.top h (by rw [List.length_take]; omega)
  have kP := fun (i : Nat) (wr : World) (og : Option Nat) (h60 : i < 60) (h : LawI w w.heap.size (l.take (i + 1)) og wr) => LawI.peaks h (by rw [List.length_take]; omega)
  have kL := fun (wr : World) (og : Option Nat) (xs : List Int) (h : LawI w w.heap.size xs og wr) => lives09_calls wr (hT.below h.below hT.lt)
  go_enter Tryd.func4, Tryd.ntmps4
  go_wp2_with (go_at_call 28; refine (New_I _).mono ?_; rintro e w' ⟨rfl, hw'⟩; rw [hw']; clear hw' w')
  go_loopw [4, 5] (fun v4 v5 wr => ∃ (i : Nat) (og : Option Nat), v4 = .int .i64 (wrap64 (l.take i).sum) ∧ v5 = .int .i64 i ∧ i ≤ l.length ∧ i ≤ 60 ∧ LawI w w.heap.size (l.take i) og wr) (fun v4 v5 _ => 61 - (intOf v5).toNat)
  case atStart => exact ⟨0, none, by simp [wrap64], rfl, by omega, by omega, by simpa using hL⟩
  case round =>
    obtain ⟨i, og, rfl, rfl, hi, hi60, hLi⟩ := hrel
    by_cases hlt : i < l.length
    · have hb1 : decide ((i : Int) < (l.length : Int)) = true := decide_eq_true (by omega)
      by_cases h60 : i < 60
      · have hb2 : decide ((i : Int) < 60) = true := decide_eq_true (by omega)
        obtain ⟨ad, rfl, hcell⟩ := hr.at_ i (by omega) (by omega)
        have hcell2 := (hLi.below.cell (World.block_lt_of_cell? _ _ hcell)).trans hcell
        have hrd : rd l (i : Int) = l[i] := by simp [rd, List.getD_eq_getElem?_getD, hlt]
        rw [hrd, Int.toNat_natCast] at hcell2 hcell
        have k1 := kA i wr og hlt h60 hLi
        have hts : l.take (i + 1) = l.take i ++ [l[i]] := List.take_succ_eq_append_getElem hlt
        rw [← hts] at k1
        have k2 := fun wq oq => kT i wq oq h60
        have k3 := fun wq oq => kP i wq oq h60
        have htree : Tree addI 0 (l.take (i + 1)) = wrap64 (l.take (i + 1)).sum := Tree_sum _ (by rw [List.length_take]; omega) (fun x hx => hsz x (List.mem_of_mem_take hx))
        have hlt1 : (l.take (i + 1)).length = i + 1 := by rw [List.length_take]; omega
        have hdec : decide (0 < (l.take (i + 1)).length) = true := by rw [hlt1]; simp
        have hsum : wrap64 (wrap64 (l.take i).sum + l[i]) = wrap64 (l.take (i + 1)).sum := by rw [hts, sum_app, wrap_add1]; simp
        have hpop : (stk addI (l.take (i + 1))).length = popc (i + 1) := by rw [stk_pop _ _ (by rw [hlt1]; omega), hlt1]
        rw [htree, hdec] at k2
        rw [hpop] at k3
        have HS := Lib.hid hsum
        have HC := Lib.hid hcell
        have hlow := World.block_lt_of_cell? _ _ hcell
        clear hrd hts htree hlt1 hdec hsum hpop kA kT kP hcell
        go_wp2_with (first
          | (go_at_call 30; with_reducible refine k1.mono ?_; rintro e w1 ⟨rfl, og1, hL1, _, _⟩; clear k1; have hcell1 := (hL1.below.cell hlow).trans HC.out))
        have hPpos := popc_pos
        have hP0 := popc_zero
        have hPle := popc_le
        generalize popc = P at *
        have HPpos := Lib.hid hPpos
        have HP0 := Lib.hid hP0
        have HPle := Lib.hid hPle
        clear hPpos hP0 hPle
        go_loop [6, 7] (fun v6 v7 => ∃ (o k : Nat), v6 = .int .i64 o ∧ v7 = .int .i64 k ∧ o + P k = P (i + 1) ∧ k ≤ i + 1) (fun v6 v7 => (intOf v7).toNat)
        case atStart => exact ⟨0, i + 1, rfl, rfl, Nat.zero_add _, Nat.le_refl _⟩
        case round =>
          obtain ⟨o, k, rfl, rfl, hok, hki⟩ := hrel
          by_cases hk : 0 < k
          · have hkd : decide ((0 : Int) < (k : Int)) = true := decide_eq_true (Int.ofNat_lt.2 hk)
            have hpp := HPpos.out k (Nat.pos_iff_ne_zero.1 hk)
            have hle1 := HPle.out (i + 1)
            have ho60 : o ≤ 60 := Nat.le_trans (Nat.le_trans (Nat.le_trans (Nat.le_add_right o (P k)) (Nat.le_of_eq hok)) hle1) (Nat.succ_le_of_lt h60)
            have HQ := Lib.hid ho60
            clear ho60 hle1
            have HP := Lib.hid hpp
            have HO := Lib.hid hok
            have HK := Lib.hid hki
            clear hpp hok hki k2 k3 kL
            go_wp2
            rw [num_step1 o k HQ.out, num_step2 k (Nat.le_trans HK.out (Nat.succ_le_of_lt (Nat.lt_of_lt_of_le h60 (by decide))))]
            refine ⟨⟨o + k % 2, k / 2, rfl, rfl, ?_, Nat.le_trans (Nat.div_le_self k 2) HK.out⟩, ?_⟩
            · rw [← HO.out, HP.out, Nat.add_assoc]
            · simp only [intOf]
              rw [Int.toNat_natCast, Int.toNat_natCast]
              exact Nat.div_lt_self hk (by decide)
          · have hkd : decide ((0 : Int) < (k : Int)) = false := decide_eq_false (fun h => hk (Int.ofNat_lt.1 h))
            obtain rfl : k = 0 := Nat.eq_zero_of_not_pos hk
            rw [HP0.out] at hok
            obtain rfl : o = P (i + 1) := by simpa using hok
            clear hok
            rw [HS.out]
            go_wp2_with (first
              | (go_at_call 31; with_reducible refine (k2 _ _ hL1).mono ?_; rintro e w2 ⟨rfl, _, hL2⟩; clear hL1)
              | (go_at_call 32; with_reducible refine (k3 _ _ hL2).mono ?_; rintro e w3 ⟨pv, rfl, hop, _, hL3⟩; obtain ⟨Ap, cp, rfl, hcp, hAp⟩ := own_slice3 hop; clear hL2 hop hcp hAp))
            go_roundw
            case rel => exact ⟨i + 1, _, rfl, rfl, by omega, by omega, hL3⟩
            case measure => simp only [intOf]; omega
      · have hb2 : decide ((i : Int) < 60) = false := decide_eq_false (by omega)
        have k1 := kL wr og _ hLi
        clear kA kT kP kL
        go_wp2_with (go_at_call 27; with_reducible refine k1.mono ?_; rintro e w2 ⟨rfl, hb9⟩; have hL9 := hLi.after hb9)
        go_ret
        exact ⟨rfl, hL9.below⟩
    · have hb1 : decide ((i : Int) < (l.length : Int)) = false := decide_eq_false (by omega)
      have k1 := kL wr og _ hLi
      clear kA kT kP kL
      go_wp2_with (go_at_call 27; with_reducible refine k1.mono ?_; rintro e w2 ⟨rfl, hb9⟩; have hL9 := hLi.after hb9)
      go_ret
      exact ⟨rfl, hL9.below⟩
end Go.Proofs.YtoeibcdnhglobaaDoor.P
