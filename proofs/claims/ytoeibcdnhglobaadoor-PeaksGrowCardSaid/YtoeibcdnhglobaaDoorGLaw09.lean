/- A range of texts that a law holds: its steps; and the layer's own example. -/
import Derived.Test.YtoeibcdnhglobaaDoorGTopS
namespace Go.Proofs.YtoeibcdnhglobaaDoor.P
set_option linter.unusedVariables false
set_option linter.unusedSimpArgs false
open Go.RowKit Go.Shelf Go.Proofs.YtoeibcdnhglobaaDoorW.PrintWords Go.Proofs.YtoeibcdnhglobaaDoorW.PrintLast Go.Proofs.YtoeibcdnhglobaaDoorW.PrintMore
open Go.Proofs.YtoeibcdnhglobaaDoor.Pure

theorem TzTab.below {w w' : World} (h : TzTab w) {B : Nat} (hb : Below B w w') (hB : 1 < B) : TzTab w' := fun j hj => (hb.cell (p := ⟨1, j, none⟩) hB).trans (h j hj)
theorem TzTab.lt {w : World} (h : TzTab w) : 1 < w.heap.size := by
  have := h 0 (by decide)
  exact World.block_lt_of_cell? w ⟨1, 0, none⟩ this

/-- A law's range at block b: the things of xs were added; its row's block is og. -/
structure LawS (w : World) (b : Nat) (xs : List ByteArray) (og : Option Nat) (wr : World) : Prop where
  rng : ∃ v, RngS wr b (stk joinS xs) xs.length v ∧ v.ownBlock = og
  below : Below w.heap.size w wr
  tab : TzTab w
  own : ∀ g, og = some g → w.heap.size ≤ g ∧ g < wr.heap.size
  at_ : w.heap.size ≤ b
theorem LawS.lt {w wr : World} {b : Nat} {xs : List ByteArray} {og : Option Nat} (h : LawS w b xs og wr) : b < wr.heap.size := by
  obtain ⟨v, hv, _⟩ := h.rng
  exact hv.lt
theorem LawS.far {w wr w' : World} {b : Nat} {xs : List ByteArray} {og : Option Nat} (h : LawS w b xs og wr) {S : Nat → Prop} (ht : Touch S wr w') (hS : ∀ k, S k → w.heap.size ≤ k ∧ k ≠ b ∧ og ≠ some k) : LawS w b xs og w' := by
  obtain ⟨v, hv, rfl⟩ := h.rng
  exact ⟨⟨v, hv.kept ht (fun k hk => (hS k hk).2), rfl⟩, h.below.trans (ht.to_below h.below.size (fun k hk => (hS k hk).1)), h.tab, fun g hg => ⟨(h.own g hg).1, Nat.lt_of_lt_of_le (h.own g hg).2 ht.size⟩, h.at_⟩
theorem LawS.after {w wr w' : World} {b : Nat} {xs : List ByteArray} {og : Option Nat} (h : LawS w b xs og wr) (hb : Below wr.heap.size wr w') : LawS w b xs og w' := h.far (S := fun _ => False) (Touch.of_below hb) (fun _ e => e.elim)
theorem LawS.new (w : World) (hT : TzTab w) : LawS w w.heap.size [] none (w.alloc (.cells #[.func (.func 22) #[] #[], .slice none 0 0, .int .i64 0] 91)) :=
  ⟨⟨_, RngS.new w, rfl⟩, (Below.refl _ w).alloc (Nat.le_refl _) _, hT, fun g e => (by cases e), Nat.le_refl _⟩
theorem LawS.add {w wr : World} {b : Nat} {xs : List ByteArray} {og : Option Nat} (h : LawS w b xs og wr) (x : ByteArray) (hn : xs.length < 1000000) (hw : wt (xs ++ [x]) ≤ 9223372036854775807) :
    Calls Tryd.prog 23 #[.pointer (some ⟨b, 0, none⟩), .string x] wr fun e w' => e = .returned (.tuple #[]) ∧ ∃ og', LawS w b (xs ++ [x]) og' w' ∧ Touch (fun k => k = b ∨ some k = og) wr w' ∧ (og' = og ∨ ∃ g, og' = some g ∧ wr.heap.size ≤ g) := by
  obtain ⟨v, hv, rfl⟩ := h.rng
  have hlen := stk_length joinS xs
  have hwst : wt (x :: stk joinS xs) ≤ 9223372036854775807 := by
    have h1 := stk_wt xs (by omega)
    rw [wt_append] at hw
    simp only [wt, List.map_cons, List.sum_cons, List.map_nil, List.sum_nil] at hw h1 ⊢
    omega
  have hTw : TzTab wr := h.tab.below h.below h.tab.lt
  refine (Add_S wr b xs.length v x (stk joinS xs) hv (by omega) hTw trivial (stk_enough xs (by omega)) (merge_okS _ _ _ hwst) (by omega)).mono ?_
  rintro e w' ⟨he, v', hr, ht, hg⟩
  rw [← stk_snoc] at hr
  refine ⟨he, v'.ownBlock, ⟨⟨v', by simpa using hr, rfl⟩, h.below.trans (ht.to_below h.below.size ?_), h.tab, ?_, h.at_⟩, ht, hg⟩
  · rintro k (rfl | hk)
    · exact h.at_
    · exact (h.own k hk.symm).1
  · intro g hg'
    refine ⟨?_, (hr.own.lt g hg').2⟩
    rcases hg with e | ⟨g2, e, hge⟩
    · exact (h.own g (e ▸ hg')).1
    · rw [hg'] at e; cases e
      have := h.below.size
      omega
theorem LawS.peaks {w wr : World} {b : Nat} {xs : List ByteArray} {og : Option Nat} (h : LawS w b xs og wr) (hn : xs.length < 1000000) :
    Calls Tryd.prog 24 #[.pointer (some ⟨b, 0, none⟩)] wr fun e w' => ∃ v', e = .returned v' ∧ w'.ownsRow wr.heap.size 9 1 v' (stk joinS xs).length ((stk joinS xs).reverse.map fun x => .string x) ∧ Below wr.heap.size wr w' ∧ LawS w b xs og w' := by
  obtain ⟨v, hv, e⟩ := h.rng
  have hlen := stk_length joinS xs
  exact (Peaks_S wr b xs.length v _ hv (by omega)).mono fun e w' ⟨v', he, ho, hb⟩ => ⟨v', he, ho, hb, h.after hb⟩
theorem stk_mem_wt (xs : List ByteArray) (hn : xs.length < 2 ^ 64) (p : ByteArray) (hp : p ∈ stk joinS xs) : p.size + 2 ≤ wt xs := by
  rw [← stk_wt xs hn]
  generalize stk joinS xs = l at hp
  induction l with
  | nil => cases hp
  | cons a r ih =>
    simp only [wt, List.map_cons, List.sum_cons]
    rcases List.mem_cons.1 hp with rfl | hp
    · omega
    · have := ih hp
      simp only [wt] at this
      omega
theorem LawS.top {w wr : World} {b : Nat} {xs : List ByteArray} {og : Option Nat} (h : LawS w b xs og wr) (hn : xs.length < 1000000) (hw : (xs.length + 2) * (wt xs + 2) ≤ 9223372036854775807) :
    Calls Tryd.prog 25 #[.pointer (some ⟨b, 0, none⟩)] wr fun e w' => e = .returned (.tuple #[.string (Tree joinS ByteArray.empty xs), .bool (decide (0 < xs.length))]) ∧ Below wr.heap.size wr w' ∧ LawS w b xs og w' := by
  obtain ⟨v, hv, e⟩ := h.rng
  have hlen := stk_length joinS xs
  have hM : ∀ k, k ≤ xs.length + 1 → (k + 1) * (wt xs + 2) ≤ 9223372036854775807 := fun k hk => Nat.le_trans (Nat.mul_le_mul_right _ (by omega)) hw
  have ht := callsIn_wide.1 (Top_in_S 6 (Nat.le_refl _) wr b xs.length v (stk joinS xs) hv trivial (by omega) (fun k t => t.size + 2 ≤ (k + 1) * (wt xs + 2)) (by show 0 + 2 ≤ (0 + 1) * (wt xs + 2); omega)
    (fun k t p hk hb hp => by
      have hp2 := stk_mem_wt xs (by omega) p hp
      have h1 := hM (k + 1) (by omega)
      have e : (k + 1 + 1) * (wt xs + 2) = (k + 1) * (wt xs + 2) + (wt xs + 2) := by rw [Nat.add_mul (k + 1) 1, Nat.one_mul]
      rw [e] at h1 ⊢
      refine ⟨?_, ?_⟩
      · unfold okS; omega
      · rw [joinS_size]; omega)
    (fun k p hp => by
      have hp2 := stk_mem_wt xs (by omega) p hp
      have e : (k + 1 + 1) * (wt xs + 2) = (k + 1) * (wt xs + 2) + (wt xs + 2) := by rw [Nat.add_mul (k + 1) 1, Nat.one_mul]
      rw [e]; omega))
  refine ht.mono fun e w' ⟨he, hb⟩ => ⟨?_, hb, h.after hb⟩
  rw [he]
  have := top_tree (J := joinS) ByteArray.empty xs (by omega)
  rw [show topOf (⟨#[]⟩ : ByteArray) joinS (stk joinS xs) = Tree joinS ByteArray.empty xs from this]

set_option maxRecDepth 100000 in
set_option maxHeartbeats 4000000 in
theorem lives09_calls (w : World) (hT : TzTab w) : Calls Tryd.prog 27 #[] w fun e w' => e = .returned (.bool true) ∧ Below w.heap.size w w' := by
  have hL := LawS.new w hT
  have d1 : wt ([] ++ [(⟨#[97]⟩ : ByteArray)]) ≤ 9223372036854775807 := by decide +kernel
  have d2 : wt ([] ++ [(⟨#[97]⟩ : ByteArray)] ++ [(⟨#[98]⟩ : ByteArray)]) ≤ 9223372036854775807 := by decide +kernel
  have d3 : wt ([] ++ [(⟨#[97]⟩ : ByteArray)] ++ [(⟨#[98]⟩ : ByteArray)] ++ [(⟨#[99]⟩ : ByteArray)]) ≤ 9223372036854775807 := by decide +kernel
  have d4 : (([] ++ [(⟨#[97]⟩ : ByteArray)] ++ [(⟨#[98]⟩ : ByteArray)] ++ [(⟨#[99]⟩ : ByteArray)]).length + 2) * (wt ([] ++ [(⟨#[97]⟩ : ByteArray)] ++ [(⟨#[98]⟩ : ByteArray)] ++ [(⟨#[99]⟩ : ByteArray)]) + 2) ≤ 9223372036854775807 := by decide +kernel
  have e1 : (([] : List ByteArray)).length < 1000000 := by decide
  have e2 : (([] : List ByteArray) ++ [(⟨#[97]⟩ : ByteArray)]).length < 1000000 := by decide
  have e3 : (([] : List ByteArray) ++ [(⟨#[97]⟩ : ByteArray)] ++ [(⟨#[98]⟩ : ByteArray)]).length < 1000000 := by decide
  have e4 : (([] : List ByteArray) ++ [(⟨#[97]⟩ : ByteArray)] ++ [(⟨#[98]⟩ : ByteArray)] ++ [(⟨#[99]⟩ : ByteArray)]).length < 1000000 := by decide
  have t1 : Tree joinS ByteArray.empty ([] ++ [(⟨#[97]⟩ : ByteArray)] ++ [(⟨#[98]⟩ : ByteArray)] ++ [(⟨#[99]⟩ : ByteArray)]) = ⟨#[40, 40, 97, 98, 41, 99, 41]⟩ := by decide +kernel
  have t2 : stk joinS ([] ++ [(⟨#[97]⟩ : ByteArray)] ++ [(⟨#[98]⟩ : ByteArray)] ++ [(⟨#[99]⟩ : ByteArray)]) = [⟨#[99]⟩, ⟨#[40, 97, 98, 41]⟩] := by decide +kernel
  generalize hl1 : [] ++ [(⟨#[97]⟩ : ByteArray)] = l1 at *
  generalize hl2 : l1 ++ [(⟨#[98]⟩ : ByteArray)] = l2 at *
  generalize hl3 : l2 ++ [(⟨#[99]⟩ : ByteArray)] = l3 at *
  have k1 := fun (wr : World) (h : LawS w w.heap.size [] none wr) => LawS.add h ⟨#[97]⟩ e1 (by rw [hl1]; exact d1)
  have k2 := fun (wr : World) (og : Option Nat) (h : LawS w w.heap.size l1 og wr) => LawS.add h ⟨#[98]⟩ e2 (by rw [hl2]; exact d2)
  have k3 := fun (wr : World) (og : Option Nat) (h : LawS w w.heap.size l2 og wr) => LawS.add h ⟨#[99]⟩ e3 (by rw [hl3]; exact d3)
  have k4 := fun (wr : World) (og : Option Nat) (h : LawS w w.heap.size l3 og wr) => LawS.top h e4 d4
  have k5 := fun (wr : World) (og : Option Nat) (h : LawS w w.heap.size l3 og wr) => LawS.peaks h e4
  rw [hl1] at k1
  rw [hl2] at k2
  rw [hl3] at k3
  rw [t1] at k4
  rw [t2] at k5
  have e5 : decide (0 < l3.length) = true := by subst hl3; simp
  rw [e5] at k4
  clear d1 d2 d3 d4 e1 e2 e3 e4 t1 t2 hl1 hl2 hl3 e5
  go_enter Tryd.func27, Tryd.ntmps27
  go_wp2_with (first
    | (go_at_call 21; refine (New_S _).mono ?_; rintro e w' ⟨rfl, hw'⟩; rw [hw']; clear hw' w')
    | (go_at_call 23; first | (with_reducible refine (k1 _ hL).mono ?_; rintro e w1 ⟨rfl, og1, hL1, _, _⟩; clear hL) | (with_reducible refine (k2 _ _ hL1).mono ?_; rintro e w2 ⟨rfl, og2, hL2, _, _⟩; clear hL1) | (with_reducible refine (k3 _ _ hL2).mono ?_; rintro e w3 ⟨rfl, og3, hL3, _, _⟩; clear hL2))
    | (go_at_call 25; with_reducible refine (k4 _ _ hL3).mono ?_; rintro e w4 ⟨rfl, _, hL4⟩; clear hL3)
    | (go_at_call 24; with_reducible refine (k5 _ _ hL4).mono ?_; rintro e w5 ⟨v5, rfl, ho5, _, hL5⟩; clear hL4; obtain ⟨g5, cap5, rfl, _, _⟩ := ho5.form (by decide); have hp0 := ho5.cellAt 0 (by decide); have hp1 := ho5.cellAt 1 (by decide); simp at hp0 hp1))
  go_ret
  exact ⟨rfl, hL5.below⟩
end Go.Proofs.YtoeibcdnhglobaaDoor.P
