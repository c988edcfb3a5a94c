/- Texts of the seat, joined: GJoinH, GRangeH, GTopH, GRootH. -/
import Derived.Test.YtoeibcdnhglobaaDoorE1
import Derived.Test.YtoeibcdnhglobaaDoorE6
import Derived.Deep.AppendLies
import Derived.RangeFuncNested
import Derived.RangeFuncBound
import Derived.RangeFuncCalls
import Derived.RangeFuncLeaves
import Derived.RangeFuncBox
import Derived.Shelf.Abstract
import Derived.Shelf.RegionOpen
import Derived.WalkKit
import Derived.Lib.Hide
import Derived.OwnWalkIn
import Derived.TacticsInMore
import Derived.LoopNIn
import Derived.LoopIn
import Derived.Test.YtoeibcdnhglobaaDoorE3
import Derived.Test.YtoeibcdnhglobaaDoorF0
/- The hash of two, as a range's join. -/
namespace Go.Proofs.YtoeibcdnhglobaaDoor.P
set_option linter.unusedVariables false
set_option linter.unusedSimpArgs false
open Go.RowKit Go.Proofs.YtoeibcdnhglobaaDoor.Pure
open Go.Proofs.YtoeibcdnhglobaaDoorW.PrintWords
def GlobH (w : World) : Prop := DTab w
theorem GlobH.lt {w : World} (h : GlobH w) : 3 < w.heap.size := DTab.k h |>.lt
theorem GlobH.below {w w' : World} (h : GlobH w) (hb : Below w.heap.size w w') : GlobH w' := DTab.below h hb h.lt
theorem GlobH.ne {w : World} {b : Nat} {f a c : Value} {t : TypeId} {fr : Nat × Nat} (h : GlobH w) (hb : w.heap[b]? = some (.cells #[f, a, c] t fr)) (hf : f = .func (.func 41) #[] #[]) : b ≠ 3 ∧ b ≠ 2 := by
  subst hf
  refine ⟨fun e => ?_, fun e => ?_⟩
  · have := DTab.k h 0 (by decide)
    subst e
    simp [World.cell?, hb] at this
  · have := DTab.b h 0 (by decide)
    subst e
    simp [World.cell?, hb] at this
theorem GlobH.set {w : World} {b i : Nat} {v : Value} (h : GlobH w) (hb : b ≠ 3 ∧ b ≠ 2) : GlobH (w.setCell ⟨b, i, none⟩ v) :=
  ⟨fun j hj => (World.cell?_of_block (Below.heap_setCell _ _ _ _ hb.1.symm)).trans (DTab.k h j hj), fun j hj => (World.cell?_of_block (Below.heap_setCell _ _ _ _ hb.2.symm)).trans (DTab.b h j hj)⟩
/-- A text of 32 bytes. -/
def okH (a b : ByteArray) : Prop := a.size ≤ 32 ∧ b.size ≤ 32
theorem nodeH_size (a b : ByteArray) : (nodeH a b).size = 32 := by
  unfold nodeH strOfNums
  have := (shaN_ok (1 :: (bytesOf a ++ bytesOf b))).1
  simp [ByteArray.size, this]
theorem leafH_size (l : List Int) : (leafH l).size = 32 := by
  unfold leafH strOfNums
  have := (shaN_ok (0 :: l)).1
  simp [ByteArray.size, this]
def joinH (a b : ByteArray) : ByteArray := nodeH a b
theorem Jc_H (a b : ByteArray) (h : okH a b) (w : World) (hG : GlobH w) : Calls Tryd.prog 41 #[.string a, .string b] w fun e w' => e = .returned (.string (joinH a b)) ∧ Below w.heap.size w w' :=
  NodeHash_calls a b (by have := h.1; have := h.2; omega) w hG
theorem merge_okH : ∀ (t : Nat) (h : ByteArray) (st : List ByteArray), h.size ≤ 32 → (∀ s ∈ st, s.size ≤ 32) → mergeOk okH joinH t h st
  | 0, _, _, _, _ => trivial
  | _ + 1, _, [], _, _ => trivial
  | t + 1, h, p :: st, hh, hs => ⟨⟨hs p (List.mem_cons_self ..), hh⟩, merge_okH t _ st (Nat.le_of_eq (nodeH_size p h)) fun s h => hs s (List.mem_cons_of_mem _ h)⟩
theorem merge_sz : ∀ (t : Nat) (h : ByteArray) (st : List ByteArray), h.size ≤ 32 → (∀ s ∈ st, s.size ≤ 32) → ∀ s ∈ merge joinH t h st, s.size ≤ 32
  | 0, h, st, hh, hs => fun s hm => by
    rcases List.mem_cons.1 hm with rfl | hm
    · exact hh
    · exact hs s hm
  | _ + 1, h, [], hh, _ => fun s hm => by
    have : s = h := by simpa [merge] using hm
    rw [this]; exact hh
  | t + 1, h, p :: st, hh, hs => merge_sz t _ st (Nat.le_of_eq (nodeH_size p h)) fun s h => hs s (List.mem_cons_of_mem _ h)
theorem stk_sz (xs : List ByteArray) (h : ∀ s ∈ xs, s.size ≤ 32) : ∀ s ∈ stk joinH xs, s.size ≤ 32 := by
  have key : ∀ n, n ≤ xs.length → ∀ s ∈ stk joinH (xs.take n), s.size ≤ 32 := by
    intro n
    induction n with
    | zero => intro _ s hs; simp [stk_nil] at hs
    | succ n ih =>
      intro hn
      rw [List.take_succ_eq_append_getElem (by omega), stk_snoc]
      exact merge_sz _ _ _ (h _ (List.getElem_mem _)) (ih (by omega))
  simpa using key xs.length (Nat.le_refl _)
end Go.Proofs.YtoeibcdnhglobaaDoor.P

/- A range of peaks: its methods, for one kind of things. Printed by wip/tools/genrange.py. -/
namespace Go.Proofs.YtoeibcdnhglobaaDoor.P
set_option linter.unusedVariables false
set_option linter.unusedSimpArgs false
open Go.RowKit Go.Proofs.YtoeibcdnhglobaaDoorW.PrintWords Go.Proofs.YtoeibcdnhglobaaDoorW.PrintLast Go.Proofs.YtoeibcdnhglobaaDoorW.PrintMore
open Go.Proofs.YtoeibcdnhglobaaDoor.Pure

/-- A range lies at block b: its peaks (the last first), how many were added, the value of its slice. -/
structure RngH (w : World) (b : Nat) (st : List ByteArray) (n : Nat) (v : Value) : Prop where
  blk : w.heap[b]? = some (.cells #[.func (.func 41) #[] #[], v, .int .i64 n] 91 (0, 0))
  own : w.ownsRow 0 9 1 v st.length (st.reverse.map fun x => .string x)
theorem RngH.kept {w w' : World} {b : Nat} {st : List ByteArray} {n : Nat} {v : Value} (h : RngH w b st n v) {S : Nat → Prop} (ht : Touch S w w') (hS : ∀ k, S k → k ≠ b ∧ v.ownBlock ≠ some k) : RngH w' b st n v :=
  ⟨ht.blk h.blk (fun e => (hS _ e).1 rfl), own_blk h.own fun g hg => ht.block g (h.own.lt g hg).2 (fun e => (hS g e).2 hg)⟩
theorem RngH.lt {w : World} {b : Nat} {st : List ByteArray} {n : Nat} {v : Value} (h : RngH w b st n v) : b < w.heap.size := (Array.getElem?_eq_some_iff.1 h.blk).1
theorem New_H (w : World) :
    Calls Tryd.prog 21 #[.func (.func 41) #[] #[]] w fun e w' => e = .returned (.pointer (some ⟨w.heap.size, 0, none⟩)) ∧ w' = w.alloc (.cells #[.func (.func 41) #[] #[], .slice none 0 0, .int .i64 0] 91) := by
  go_enter Tryd.func21, Tryd.ntmps21
  go_wp2
  go_ret
  exact ⟨rfl, rfl⟩
theorem RngH.new (w : World) : RngH (w.alloc (.cells #[.func (.func 41) #[] #[], .slice none 0 0, .int .i64 0] 91)) w.heap.size [] 0 (.slice none 0 0) :=
  ⟨heap_alloc_new w _, World.ownsRow_nil _ _ _ _⟩

theorem RngH.popped {w w3 : World} {b : Nat} {p : ByteArray} {st : List ByteArray} {n g cap : Nat} (h : RngH w b (p :: st) n (.slice (some ⟨g, 0, none⟩) (st.length + 1) cap)) (hb : Below w.heap.size w w3) :
    RngH (w3.setCell ⟨b, 1, none⟩ (.slice (some ⟨g, 0, none⟩) st.length cap)) b st n (.slice (some ⟨g, 0, none⟩) st.length cap) := by
  have h3 : RngH w3 b (p :: st) n (.slice (some ⟨g, 0, none⟩) (st.length + 1) cap) := h.kept (S := fun _ => False) (Touch.of_below hb) (fun _ e => e.elim)
  have hne := own_ne h3.own h3.blk (by decide)
  have hown := h3.own
  simp only [List.length_cons, List.reverse_cons, List.map_append, List.map_cons, List.map_nil] at hown
  refine ⟨by simpa using heap_setCell_same _ b 1 _ _ (.slice (some ⟨g, 0, none⟩) st.length cap) h3.blk, ?_⟩
  refine own_blk (ownsRow_pop (by simp) hown) fun k hk => Below.heap_setCell _ _ _ _ (fun e => hne ?_)
  cases hk
  exact congrArg some e
theorem storedH {w1 : World} {b n : Nat} {u x : Value} (hb1 : w1.heap[b]? = some (.cells #[.func (.func 41) #[] #[], u, .int .i64 n] 91 (0, 0))) :
    w1.frozen? ⟨b, 1, none⟩ = false ∧ (w1.setCell ⟨b, 1, none⟩ x).frozen? ⟨b, 2, none⟩ = false ∧ (w1.setCell ⟨b, 1, none⟩ x).cell? ⟨b, 2, none⟩ = some (.int .i64 n) ∧
      (w1.setCell ⟨b, 1, none⟩ x).heap[b]? = some (.cells #[.func (.func 41) #[] #[], x, .int .i64 n] 91 (0, 0)) := by
  have hb2 : (w1.setCell ⟨b, 1, none⟩ x).heap[b]? = some (.cells #[.func (.func 41) #[] #[], x, .int .i64 n] 91 (0, 0)) := by simpa using heap_setCell_same w1 b 1 _ _ x hb1
  exact ⟨by simp [World.frozen?, hb1], by simp [World.frozen?, hb2], by simp [World.cell?, hb2], hb2⟩
/-- Where an Add's joins stand. -/
def AtH (w : World) (b n t : Nat) (v : Value) (x0 : ByteArray) (st : List ByteArray) (j : Nat) (h2 : ByteArray) (wr : World) : Prop :=
  ∃ st2 u, RngH wr b st2 n u ∧ u.ownBlock = v.ownBlock ∧ Touch (fun k => k = b) w wr ∧ GlobH wr ∧ merge joinH t x0 st = merge joinH (t - j) h2 st2 ∧ mergeOk okH joinH (t - j) h2 st2 ∧ t - j ≤ st2.length ∧ st2.length ≤ st.length

set_option maxRecDepth 100000 in
set_option maxHeartbeats 4000000 in
theorem Add_H (w : World) (b n : Nat) (v : Value) (x0 : ByteArray) (st : List ByteArray) (hr : RngH w b st n v) (hn : n < 1099511627776) (hT : TzTab w) (hG : GlobH w) (ht : tn 64 n ≤ st.length)
    (hok : mergeOk okH joinH (tn 64 n) x0 st) (hlen : st.length < 1099511627776) :
    Calls Tryd.prog 23 #[.pointer (some ⟨b, 0, none⟩), .string x0] w fun e w' => e = .returned (.tuple #[]) ∧ ∃ v', RngH w' b (merge joinH (tn 64 n) x0 st) (n + 1) v' ∧ Touch (fun k => k = b ∨ some k = v.ownBlock) w w' ∧
      (v'.ownBlock = v.ownBlock ∨ ∃ g, v'.ownBlock = some g ∧ w.heap.size ≤ g) := by
  obtain ⟨i9, hi9, hz9, hsz9, hby9⟩ := info_parts inf9
  have hA0 : AtH w b n (tn 64 n) v x0 st 0 x0 w := ⟨st, v, hr, rfl, Touch.refl _ _, hG, rfl, hok, ht, Nat.le_refl _⟩
  have hc2 : w.cell? ⟨b, 2, none⟩ = some (.int .i64 n) := by simp [World.cell?, hr.blk]
  have hx : IntKind.u64.wrap (n : Int) = n := by rw [IntKind.wrap_u64]; omega
  have hcall := tz_not n (by omega) w hT
  have htle := tn_le 64 n
  have hblt0 := hr.lt
  clear hT hG ht hok hr
  generalize tn 64 n = t at *
  have HN := Lib.hid hn
  have HL := Lib.hid hlen
  have HT := Lib.hid htle
  clear hn hlen htle
  go_enter Tryd.func23, Tryd.ntmps23
  go_wp2_with (go_at_call 80; refine hcall.mono ?_; rintro e w' ⟨rfl, hw'⟩; rw [hw']; clear hw' w')
  clear hcall hc2
  go_loopw [1, 12] (fun v1 v12 wr => ∃ (j : Nat) (h2 : ByteArray), v1 = .string h2 ∧ v12 = .int .i64 j ∧ j ≤ t ∧ AtH w b n t v x0 st j h2 wr) (fun v1 v12 _ => t - (intOf v12).toNat)
  case atStart => exact ⟨0, x0, rfl, rfl, by omega, hA0⟩
  case round =>
    obtain ⟨j, h2, rfl, rfl, hjt, st2, u, hR, hu, hTo, hG, hm, hok, hl1, hl2⟩ := hrel
    by_cases hlt : j < t
    · obtain ⟨p, st3, rfl⟩ : ∃ p st3, st2 = p :: st3 := by
        cases st2 with
        | nil => simp only [List.length_nil] at hl1; omega
        | cons p st3 => exact ⟨p, st3, rfl⟩
      obtain ⟨g, cap, rfl, _, hglt⟩ := hR.own.form (by simp)
      have hown := hR.own
      simp only [List.length_cons, List.reverse_cons, List.map_append, List.map_cons, List.map_nil] at hown hu hl1 hl2
      have hpop := ownsRow_pop (by simp) hown
      have hc0 : wr.cell? ⟨b, 0, none⟩ = some (.func (.func 41) #[] #[]) := by simp [World.cell?, hR.blk]
      have hc1 : wr.cell? ⟨b, 1, none⟩ = some (.slice (some ⟨g, 0, none⟩) (st3.length + 1) cap) := by simp [World.cell?, hR.blk]
      have hcp : wr.cell? ⟨g, st3.length, none⟩ = some (.string p) := by
        rw [hown.cellAt st3.length (by omega)]
        rw [List.getElem?_append_right (by simp)]
        simp
      have hcap : st3.length + 1 ≤ cap := by
        rcases hown.2 with ⟨h0, _⟩ | ⟨g', cap', cur, hv, _, _, h3, _⟩
        · cases h0
        · cases hv; exact h3
      have hfz : wr.frozen? ⟨b, 1, none⟩ = false := by simp [World.frozen?, hR.blk]
      have hblt := hR.lt
      have htj : t - j = (t - (j + 1)) + 1 := by omega
      rw [htj] at hok hm
      simp only [mergeOk, merge] at hok hm
      obtain ⟨hok1, hok2⟩ := hok
      have HNEXT : ∀ w3, Below wr.heap.size wr w3 → AtH w b n t v x0 st (j + 1) (joinH p h2) (w3.setCell ⟨b, 1, none⟩ (.slice (some ⟨g, 0, none⟩) st3.length cap)) := fun w3 hb =>
        ⟨st3, _, hR.popped hb, hu, (hTo.below hb).trans (Touch.set (S := fun k => k = b) w3 ⟨b, 1, none⟩ _ rfl) (fun _ e => .inl e), (hG.below hb).set (hG.ne hR.blk rfl), hm, hok2, by omega, by omega⟩
      have hm63 : (st3.length : Int) + 1 ≤ 9223372036854775807 := by have := HL.out; omega
      have hge1 : (0 : Int) ≤ (st3.length : Int) := by omega
      have hge2 : (st3.length : Int) < (st3.length : Int) + 1 := by omega
      have hge3 : (st3.length : Int) ≤ (cap : Int) := by omega
      have hge4 : st3.length ≤ cap := by omega
      clear hown hpop hm hok2 hl1 hl2 hu hTo
      generalize hmm : st3.length = m at *
      go_wp2
      refine start_ (n := 24) (S := fun w' => w'.cell? ⟨b, 0, none⟩ = some (.func (.func 41) #[] #[]) ∧ w'.cell? ⟨b, 1, none⟩ = some (.slice (some ⟨g, 0, none⟩) (m + 1) cap) ∧ w'.cell? ⟨g, m, none⟩ = some (.string p) ∧ w'.frozen? ⟨b, 1, none⟩ = false ∧ Below wr.heap.size wr w') (ds := [23]) #[false, false, false, false, false, false, false, false, false, false, false, false, false, false, false, false, false, false, false, false, false, false, false, false] (by kernel_rfl) rfl rfl ⟨hc0, hc1, hcp, hfz, ((Below.refl _ _).drew)⟩ (fun hHeld => ?_)
      refine pure_ (i := 0) (N := some 20) (v := ?_) (a' := ?_) #[true, false, false, false, false, false, false, false, false, false, false, false, false, false, false, false, false, false, false, false, false, false, false, false] rfl rfl (by kernel_rfl) (fun _ _ _ h => h) (Or.inl ⟨by rfl, ?_⟩) ?_ ?_
      rotate_left
      · intro w'
        go_simp
        with_reducible rfl
      rotate_left
      · simp only [Act.put, List.setIfInBounds_toArray, List.set_cons_zero, List.set_cons_succ, i64_w, i32_w]
        rfl
      refine pure_ (i := 1) (N := some 21) (v := ?_) (a' := ?_) #[true, true, false, false, false, false, false, false, false, false, false, false, false, false, false, false, false, false, false, false, false, false, false, false] rfl rfl (by kernel_rfl) (fun _ _ _ h => h) (Or.inl ⟨by rfl, ?_⟩) ?_ ?_
      rotate_left
      · intro w'
        go_simp
        with_reducible rfl
      rotate_left
      · simp only [Act.put, List.setIfInBounds_toArray, List.set_cons_zero, List.set_cons_succ, i64_w, i32_w]
        rfl
      refine pure_ (i := 2) (N := some 22) (v := ?_) (a' := ?_) #[true, true, true, false, false, false, false, false, false, false, false, false, false, false, false, false, false, false, false, false, false, false, false, false] rfl rfl (by kernel_rfl) (fun _ _ _ h => h) (Or.inl ⟨by rfl, ?_⟩) ?_ ?_
      rotate_left
      · intro w'
        go_simp
        with_reducible rfl
      rotate_left
      · simp only [Act.put, List.setIfInBounds_toArray, List.set_cons_zero, List.set_cons_succ, i64_w, i32_w]
        rfl
      refine pure_ (i := 3) (N := some 23) (v := ?_) (a' := ?_) #[true, true, true, true, false, false, false, false, false, false, false, false, false, false, false, false, false, false, false, false, false, false, false, false] rfl rfl (by kernel_rfl) (fun _ _ _ h => h) (Or.inl ⟨by rfl, ?_⟩) ?_ ?_
      rotate_left
      · intro w'
        go_simp
        with_reducible rfl
      rotate_left
      · simp only [Act.put, List.setIfInBounds_toArray, List.set_cons_zero, List.set_cons_succ, i64_w, i32_w]
        rfl
      refine pure_ (i := 5) (N := some 25) (v := ?_) (a' := ?_) #[true, true, true, true, false, true, false, false, false, false, false, false, false, false, false, false, false, false, false, false, false, false, false, false] rfl rfl (by kernel_rfl) (fun _ _ _ h => h) (Or.inl ⟨by rfl, ?_⟩) ?_ ?_
      rotate_left
      · intro w'
        go_simp
        with_reducible rfl
      rotate_left
      · simp only [Act.put, List.setIfInBounds_toArray, List.set_cons_zero, List.set_cons_succ, i64_w, i32_w]
        rfl
      refine pure_ (i := 6) (N := some 26) (v := ?_) (a' := ?_) #[true, true, true, true, false, true, true, false, false, false, false, false, false, false, false, false, false, false, false, false, false, false, false, false] rfl rfl (by kernel_rfl) (fun _ _ _ h => h) (Or.inl ⟨by rfl, ?_⟩) ?_ ?_
      rotate_left
      · intro w'
        go_simp
        with_reducible rfl
      rotate_left
      · simp only [Act.put, List.setIfInBounds_toArray, List.set_cons_zero, List.set_cons_succ, i64_w, i32_w]
        rfl
      refine pure_ (i := 7) (N := some 27) (v := ?_) (a' := ?_) #[true, true, true, true, false, true, true, true, false, false, false, false, false, false, false, false, false, false, false, false, false, false, false, false] rfl rfl (by kernel_rfl) (fun _ _ _ h => h) (Or.inl ⟨by rfl, ?_⟩) ?_ ?_
      rotate_left
      · intro w'
        go_simp
        with_reducible rfl
      rotate_left
      · simp only [Act.put, List.setIfInBounds_toArray, List.set_cons_zero, List.set_cons_succ, i64_w, i32_w]
        rfl
      refine pure_ (i := 9) (N := some 29) (v := ?_) (a' := ?_) #[true, true, true, true, false, true, true, true, false, true, false, false, false, false, false, false, false, false, false, false, false, false, false, false] rfl rfl (by kernel_rfl) (fun _ _ _ h => h) (Or.inl ⟨by rfl, ?_⟩) ?_ ?_
      rotate_left
      · intro w'
        go_simp
        with_reducible rfl
      rotate_left
      · simp only [Act.put, List.setIfInBounds_toArray, List.set_cons_zero, List.set_cons_succ, i64_w, i32_w]
        rfl
      refine pure_ (i := 12) (N := some 32) (v := ?_) (a' := ?_) #[true, true, true, true, false, true, true, true, false, true, false, false, true, false, false, false, false, false, false, false, false, false, false, false] rfl rfl (by kernel_rfl) (fun _ _ _ h => h) (Or.inl ⟨by rfl, ?_⟩) ?_ ?_
      rotate_left
      · intro w'
        go_simp
        with_reducible rfl
      rotate_left
      · simp only [Act.put, List.setIfInBounds_toArray, List.set_cons_zero, List.set_cons_succ, i64_w, i32_w]
        rfl
      refine pure_ (i := 14) (N := some 34) (v := ?_) (a' := ?_) #[true, true, true, true, false, true, true, true, false, true, false, false, true, false, true, false, false, false, false, false, false, false, false, false] rfl rfl (by kernel_rfl) (fun _ _ _ h => h) (Or.inl ⟨by rfl, ?_⟩) ?_ ?_
      rotate_left
      · intro w'
        go_simp
        with_reducible rfl
      rotate_left
      · simp only [Act.put, List.setIfInBounds_toArray, List.set_cons_zero, List.set_cons_succ, i64_w, i32_w]
        rfl
      refine pure_ (i := 15) (N := some 35) (v := ?_) (a' := ?_) #[true, true, true, true, false, true, true, true, false, true, false, false, true, false, true, true, false, false, false, false, false, false, false, false] rfl rfl (by kernel_rfl) (fun _ _ _ h => h) (Or.inl ⟨by rfl, ?_⟩) ?_ ?_
      rotate_left
      · intro w'
        go_simp
        with_reducible rfl
      rotate_left
      · simp only [Act.put, List.setIfInBounds_toArray, List.set_cons_zero, List.set_cons_succ, i64_w, i32_w]
        rfl
      refine pure_ (i := 16) (N := some 36) (v := ?_) (a' := ?_) #[true, true, true, true, false, true, true, true, false, true, false, false, true, false, true, true, true, false, false, false, false, false, false, false] rfl rfl (by kernel_rfl) (fun _ _ _ h => h) (Or.inl ⟨by rfl, ?_⟩) ?_ ?_
      rotate_left
      · intro w'
        go_simp
        with_reducible rfl
      rotate_left
      · simp only [Act.put, List.setIfInBounds_toArray, List.set_cons_zero, List.set_cons_succ, i64_w, i32_w]
        rfl
      refine pure_ (i := 18) (N := some 38) (v := ?_) (a' := ?_) #[true, true, true, true, false, true, true, true, false, true, false, false, true, false, true, true, true, false, true, false, false, false, false, false] rfl rfl (by kernel_rfl) (fun _ _ _ h => h) (Or.inl ⟨by rfl, ?_⟩) ?_ ?_
      rotate_left
      · intro w'
        go_simp
        with_reducible rfl
      rotate_left
      · simp only [Act.put, List.setIfInBounds_toArray, List.set_cons_zero, List.set_cons_succ, i64_w, i32_w]
        rfl
      refine take_ (i := 4) (N := some 24) (v := ?_) (a' := ?_) #[true, true, true, true, true, true, true, true, false, true, false, false, true, false, true, true, true, false, true, false, false, false, false, false] rfl rfl (by kernel_rfl) (fun _ _ _ h => h) (Or.inl ⟨by rfl, ?_⟩) hHeld ?_ ?_
      rotate_left
      · rintro w' ⟨s0, s1, s2, s3, s4⟩
        go_simp
        with_reducible rfl
      rotate_left
      · simp only [Act.put, List.setIfInBounds_toArray, List.set_cons_zero, List.set_cons_succ, i64_w, i32_w]
        rfl
      refine take_ (i := 8) (N := some 28) (v := ?_) (a' := ?_) #[true, true, true, true, true, true, true, true, true, true, false, false, true, false, true, true, true, false, true, false, false, false, false, false] rfl rfl (by kernel_rfl) (fun _ _ _ h => h) (Or.inl ⟨by rfl, ?_⟩) hHeld ?_ ?_
      rotate_left
      · rintro w' ⟨s0, s1, s2, s3, s4⟩
        go_simp
        with_reducible rfl
      rotate_left
      · simp only [Act.put, List.setIfInBounds_toArray, List.set_cons_zero, List.set_cons_succ, i64_w, i32_w]
        rfl
      refine pure_ (i := 10) (N := some 30) (v := ?_) (a' := ?_) #[true, true, true, true, true, true, true, true, true, true, true, false, true, false, true, true, true, false, true, false, false, false, false, false] rfl rfl (by kernel_rfl) (fun _ _ _ h => h) (Or.inl ⟨by rfl, ?_⟩) ?_ ?_
      rotate_left
      · intro w'
        go_simp
        with_reducible rfl
      rotate_left
      · simp only [Act.put, List.setIfInBounds_toArray, List.set_cons_zero, List.set_cons_succ, i64_w, i32_w]
        rfl
      refine take_ (i := 11) (N := some 31) (v := ?_) (a' := ?_) #[true, true, true, true, true, true, true, true, true, true, true, true, true, false, true, true, true, false, true, false, false, false, false, false] rfl rfl (by kernel_rfl) (fun _ _ _ h => h) (Or.inl ⟨by rfl, ?_⟩) hHeld ?_ ?_
      rotate_left
      · rintro w' ⟨s0, s1, s2, s3, s4⟩
        go_simp
        with_reducible rfl
      rotate_left
      · simp only [Act.put, List.setIfInBounds_toArray, List.set_cons_zero, List.set_cons_succ, i64_w, i32_w]
        rfl
      refine take_ (i := 17) (N := some 37) (v := ?_) (a' := ?_) #[true, true, true, true, true, true, true, true, true, true, true, true, true, false, true, true, true, true, true, false, false, false, false, false] rfl rfl (by kernel_rfl) (fun _ _ _ h => h) (Or.inl ⟨by rfl, ?_⟩) hHeld ?_ ?_
      rotate_left
      · rintro w' ⟨s0, s1, s2, s3, s4⟩
        go_simp
        with_reducible rfl
      rotate_left
      · simp only [Act.put, List.setIfInBounds_toArray, List.set_cons_zero, List.set_cons_succ, i64_w, i32_w]
        rfl
      refine pure_ (i := 19) (N := some 39) (v := ?_) (a' := ?_) #[true, true, true, true, true, true, true, true, true, true, true, true, true, false, true, true, true, true, true, true, false, false, false, false] rfl rfl (by kernel_rfl) (fun _ _ _ h => h) (Or.inl ⟨by rfl, ?_⟩) ?_ ?_
      rotate_left
      · intro w'
        go_simp
        with_reducible rfl
      rotate_left
      · simp only [Act.put, List.setIfInBounds_toArray, List.set_cons_zero, List.set_cons_succ, i64_w, i32_w]
        rfl
      refine one_ (i := 13) (N := some 33) #[true, true, true, true, true, true, true, true, true, true, true, true, true, true, true, true, true, true, true, true, false, false, false, false] rfl rfl (by kernel_rfl) (by decide) (fun K hK => ?_)
      refine call_ 41 #[.string p, .string h2] (by rfl) rfl (by go_simp) ?_
      with_reducible refine (Jc_H p h2 hok1 _ (hG.below hHeld.2.2.2.2)).mono ?_
      rintro e w3 ⟨rfl, hb3⟩
      refine ⟨_, rfl, ?_⟩
      refine hK.out _ _ ⟨((hb3.cell (p := ⟨b, 0, none⟩) (Nat.lt_of_lt_of_le hblt hHeld.2.2.2.2.size)).trans hHeld.1), ((hb3.cell (p := ⟨b, 1, none⟩) (Nat.lt_of_lt_of_le hblt hHeld.2.2.2.2.size)).trans hHeld.2.1), ((hb3.cell (p := ⟨g, m, none⟩) (Nat.lt_of_lt_of_le hglt hHeld.2.2.2.2.size)).trans hHeld.2.2.1), ((hb3.frozen (p := ⟨b, 1, none⟩) (Nat.lt_of_lt_of_le hblt hHeld.2.2.2.2.size)).trans hHeld.2.2.2.1), (hHeld.2.2.2.2.trans (hb3.mono hHeld.2.2.2.2.size))⟩ (fun hHeld => ?_)
      clear hK K
      refine norm_ (a' := ?_) ?_ ?_
      rotate_left
      · show Act.put _ (some 33) _ = _
        simp only [Act.put, List.setIfInBounds_toArray, List.set_cons_zero, List.set_cons_succ, i64_w, i32_w]
        rfl
      refine pure_ (i := 20) (N := some 1) (v := ?_) (a' := ?_) #[true, true, true, true, true, true, true, true, true, true, true, true, true, true, true, true, true, true, true, true, true, false, false, false] rfl rfl (by kernel_rfl) (fun _ _ _ h => h) (Or.inl ⟨by rfl, ?_⟩) ?_ ?_
      rotate_left
      · intro w'
        go_simp
        with_reducible rfl
      rotate_left
      · simp only [Act.put, List.setIfInBounds_toArray, List.set_cons_zero, List.set_cons_succ, i64_w, i32_w]
        rfl
      refine pure_ (i := 21) (N := some 40) (v := ?_) (a' := ?_) #[true, true, true, true, true, true, true, true, true, true, true, true, true, true, true, true, true, true, true, true, true, true, false, false] rfl rfl (by kernel_rfl) (fun _ _ _ h => h) (Or.inl ⟨by rfl, ?_⟩) ?_ ?_
      rotate_left
      · intro w'
        go_simp
        with_reducible rfl
      rotate_left
      · simp only [Act.put, List.setIfInBounds_toArray, List.set_cons_zero, List.set_cons_succ, i64_w, i32_w]
        rfl
      refine pure_ (i := 22) (N := some 41) (v := ?_) (a' := ?_) #[true, true, true, true, true, true, true, true, true, true, true, true, true, true, true, true, true, true, true, true, true, true, true, false] rfl rfl (by kernel_rfl) (fun _ _ _ h => h) (Or.inl ⟨by rfl, ?_⟩) ?_ ?_
      rotate_left
      · intro w'
        go_simp
        with_reducible rfl
      rotate_left
      · simp only [Act.put, List.setIfInBounds_toArray, List.set_cons_zero, List.set_cons_succ, i64_w, i32_w]
        rfl
      refine last_ (i := 23) (N := none) #[true, true, true, true, true, true, true, true, true, true, true, true, true, true, true, true, true, true, true, true, true, true, true, true] rfl rfl (by kernel_rfl) (by decide) (fun K hK => ?_)
      obtain ⟨_, _, _, hf3, hb4⟩ := hHeld
      refine skip_ (w1 := ?_) (by rfl) rfl ?_ ?_
      rotate_left
      · go_simp
        rfl
      refine hK.out _ _ ?_
      clear hK K
      refine done_ (by kernel_rfl) ?_
      have HN3 := HNEXT _ hb4
      clear HNEXT
      go_wp2
      go_roundw
      case rel => exact ⟨j + 1, _, rfl, by rw [wrap64_id (by omega) (by have := HT.out; omega)]; rfl, by omega, HN3⟩
      case measure => rw [wrap64_id (by omega) (by have := HT.out; omega)]; simp only [intOf]; omega
    · have htj : t - j = 0 := by omega
      rw [htj] at hm
      simp only [merge] at hm
      have hub := own_ne hR.own hR.blk (by decide)
      have hc1 : wr.cell? ⟨b, 1, none⟩ = some u := by simp [World.cell?, hR.blk]
      have hlen2 : st2.length + 1 ≤ 1099511627776 := by have := HL.out; omega
      have hown0 := hR.own
      have HM := Lib.hid hm
      clear hm hok hl1 hl2
      have HN9 := Lib.hid hlen2
      clear hlen2
      go_wp2_with (at_builtin; go_loud (refine wpList_append_lies _ rfl _ _ 22 rfl 0 9 i9 (Value.string (⟨#[]⟩ : ByteArray)) 1 16 Tryd.underlying22 hi9 hz9 hsz9 hby9 rfl (by decide) _ _ _ rfl (hown0.alloc _) ⟨wr.heap.size, 0, none⟩ 1 1 [.string h2] rfl rfl (World.news_of_block (cs := #[.string h2]) (t := 9) (fr := (0, 0)) (heap_alloc_new wr _)) (by simp [Value.oneCell']) (by decide) (by have := HN9.out; simp only [maxLen]; omega) (by have := HN9.out; omega) (Nat.zero_le _) (wr.heap.size + 1) (by simp) ?_; intro g cap w1 hown1 hgrow hat hlt1; have hb1 := (hgrow.block b (by have := hR.lt; simp; omega) (fun e => hub e.symm)).trans ((Below.heap_alloc wr _ b hR.lt).trans hR.blk); obtain ⟨hf1, hf2, hc2, hb2⟩ := storedH (x := .slice (some ⟨g, 0, none⟩) (st2.length + 1) cap) hb1; have hg1 : w1.cell? ⟨b, 1, none⟩ = some u := (by simp [World.cell?, hb1]); have hg2 : w1.cell? ⟨b, 2, none⟩ = some (.int .i64 n) := (by simp [World.cell?, hb1]); have hg3 : w1.frozen? ⟨b, 2, none⟩ = false := (by simp [World.frozen?, hb1]); have HOWN := Lib.hid hown1; have HGROW : Hid ((wr.alloc (.cells #[.string h2] 9)).grownBy w1 u.ownBlock) := hgrow; have HAT : Hid (u.ownBlock = some g ∨ g = wr.heap.size + 1) := hat; have HB2 := Lib.hid hb2; clear hown1 hgrow hat hb1 hb2))
      go_end0
      have hb2 := HB2.out
      have hw : wrap64 ((n : Int) + 1) = ((n + 1 : Nat) : Int) := by rw [wrap64_id (by omega) (by have := HN.out; omega)]; rfl
      have hb3 := heap_setCell_same _ b 2 _ _ (.int .i64 ((n + 1 : Nat) : Int)) hb2
      simp only [List.setIfInBounds_toArray, List.set_cons_zero, List.set_cons_succ] at hb3
      rw [hw, HM.out]
      have hne : g ≠ b := by
        rcases HAT.out with e | e
        · exact fun e2 => hub (by rw [e, e2])
        · have := hR.lt; omega
      refine ⟨rfl, .slice (some ⟨g, 0, none⟩) (st2.length + 1) cap, ⟨hb3, ?_⟩, ?_, ?_⟩
      · have ho := HOWN.out
        rw [show (List.map (fun x => Value.string x) st2.reverse ++ [Value.string h2]) = (h2 :: st2).reverse.map fun x => Value.string x by simp] at ho
        refine own_blk ho fun k hk => ?_
        cases hk
        rw [Below.heap_setCell _ _ _ _ hne, Below.heap_setCell _ _ _ _ hne]
      · have t1 : Touch (fun k => k = b ∨ some k = v.ownBlock) w wr := hTo.mono fun _ e => .inl e
        have t2 := (t1.below ((Below.refl _ wr).alloc (Nat.le_refl _) (.cells #[.string h2] 9)))
        have t3 := t2.trans (Touch.grown (S := fun k => some k = v.ownBlock) HGROW.out (fun k e => by rw [← hu]; exact e.symm)) (fun _ e => .inl (.inr e))
        have t4 := t3.trans (Touch.set (S := fun k => k = b) w1 ⟨b, 1, none⟩ (.slice (some ⟨g, 0, none⟩) (st2.length + 1) cap) rfl) (fun _ e => .inl (.inl e))
        exact t4.trans (Touch.set (S := fun k => k = b) _ ⟨b, 2, none⟩ _ rfl) (fun _ e => .inl (.inl e))
      · rcases HAT.out with e | e
        · exact .inl (by rw [← hu, e]; rfl)
        · exact .inr ⟨g, rfl, by have := hTo.size; omega⟩
end Go.Proofs.YtoeibcdnhglobaaDoor.P

/- A range of peaks: Clone, Peaks, Backward and Top, for one kind of things. Printed by wip/tools/genrange.py. -/
namespace Go.Proofs.YtoeibcdnhglobaaDoor.P
set_option linter.unusedVariables false
set_option linter.unusedSimpArgs false
open Go.RowKit Go.Shelf Go.Proofs.YtoeibcdnhglobaaDoorW.PrintWords Go.Proofs.YtoeibcdnhglobaaDoorW.PrintLast Go.Proofs.YtoeibcdnhglobaaDoorW.PrintMore
open Go.Proofs.YtoeibcdnhglobaaDoor.Pure
attribute [local go_sem] Oper.semAt_some

/-- The iterator from behind over a row of the call's own. -/
theorem back1_H (m : Nat) (hm : 1 ≤ m) (l Bn g cap : Nat) (A : Option Addr) (st : List ByteArray) (hlen : st.length < 1099511627776) (hcap : st.length ≤ cap) (J Jx : List (Fin st.length) → World → Prop) (W : World)
    (hbx : W.cell? ⟨Bn, 0, none⟩ = some (.slice A st.length cap)) (hA : ∀ q x, st[q]? = some x → A = some ⟨g, 0, none⟩ ∧ W.cell? ⟨g, st.length - 1 - q, none⟩ = some (.string x))
    (hY : ∀ pre x W, J pre W → pre.length < st.length → YieldAt Fence.wide (m - 1) Tryd.prog l #[.int .i64 ((st.length : Int) - 1 - x.val), .string st[x]] W fun e W' =>
      (e = .returned (.bool true) ∧ J (pre ++ [x]) W' ∧ KpS (fun k => k = Bn ∨ k = g) W W') ∨ (e = .returned (.bool false) ∧ Jx (pre ++ [x]) W'))
    (h0 : J [] W) :
    CallsIn Fence.wide m Tryd.prog 110 #[.func (.yield l) #[] #[], .pointer (some ⟨Bn, 0, none⟩)] W fun e W' => (∃ v, e = .returned v) ∧
      ((∃ ys, ys = List.finRange st.length ∧ J ys W') ∨ (∃ pre, True ∧ Jx pre W')) := by
  have HL := Lib.hid hlen
  have hm63 : ((st.length : Nat) : Int) ≤ 9223372036854775807 := by omega
  clear hlen
  have h00 : J ((List.finRange st.length).take 0) W := by simpa using h0
  have hk0 : KpS (fun k => k = Bn ∨ k = g) W W := fun _ _ _ h => h
  refine callsIn_of_wp Tryd.func110 rfl trivial ?_ rfl
  simp only [Tryd.ntmps110, List.size_toArray, List.length_cons, List.length_nil, Nat.reduceAdd, Nat.reduceSub, Array.replicate_succ, Array.replicate_zero, List.push_toArray, List.append_toArray, List.nil_append, List.cons_append]
  gi_wp2
  gi_loopw [3] (fun v3 wr => ∃ (q : Nat) (i : Int), v3 = .int .i64 i ∧ Hid (i = (st.length : Int) - 1 - q) ∧ q ≤ st.length ∧ J ((List.finRange st.length).take q) wr ∧ KpS (fun k => k = Bn ∨ k = g) W wr)
    (fun v3 _ => (intOf v3 + 1).toNat)
  case atStart => exact ⟨0, _, rfl, Lib.hid (by omega), by omega, h00, hk0⟩
  case round =>
    obtain ⟨q, i, rfl, HI, hq, hJq, hKq⟩ := hrel
    have hbr := hKq _ _ (.inl rfl) hbx
    by_cases hlt : q < st.length
    · obtain ⟨k, rfl⟩ : ∃ k : Nat, i = k := ⟨(st.length - 1 - q), by have := HI.out; omega⟩
      have hkk : k = st.length - 1 - q := by have := HI.out; omega
      obtain ⟨hA1, hA2⟩ := hA q st[q] (List.getElem?_eq_getElem hlt)
      have hcr := hKq _ _ (.inr rfl) hA2
      rw [← hkk] at hcr
      obtain ⟨fn, tmps, assign, body, hy, hR⟩ := hY _ (⟨q, hlt⟩ : Fin st.length) wr hJq (by simp; omega)
      have hkI : (st.length : Int) - 1 - ((⟨q, hlt⟩ : Fin st.length).val : Int) = (k : Int) := by have := HI.out; simpa using this.symm
      rw [hkI] at hy
      simp only [Fin.getElem_fin] at hy
      have hki : (k : Int) < (st.length : Int) := by omega
      have hkn : k < st.length := by omega
      have hk0' : (0 : Int) ≤ (k : Int) := by omega
      have hJq' : (List.finRange st.length).take q ++ [⟨q, hlt⟩] = (List.finRange st.length).take (q + 1) := by
        rw [List.take_succ_eq_append_getElem (by simpa using hlt)]; simp
      rw [hJq'] at hR
      have HK := Lib.hid hkk
      subst hA1
      clear hJq' hkI hkk hcap hA hA2 hY h00 h0 hk0 hbx hJq
      gi_wp2
      refine hR.mono ?_
      rintro e W3 (⟨rfl, hJ3, hk3⟩ | ⟨rfl, hJx3⟩)
      · gi_wp2
        go_roundw
        case rel => exact ⟨q + 1, _, rfl, Lib.hid (by have := HI.out; omega), by omega, hJ3, fun p v hp hv => hk3 p v hp (hKq p v hp hv)⟩
        case measure => simp only [intOf]; omega
      · gi_wp2
        refine bodyPost_ret (results_none rfl _ _ _) rfl ?_
        exact ⟨⟨_, rfl⟩, .inr ⟨_, trivial, hJx3⟩⟩
    · have hi1 : i = -1 := by have := HI.out; omega
      have hq1 : q = st.length := by omega
      subst hi1
      have hJe : J (List.finRange st.length) wr := by
        have := hJq
        rwa [List.take_of_length_le (by simp; omega)] at this
      clear hY hA h00 hk0 hJq hKq
      gi_wp2
      go_end0
      exact ⟨⟨_, rfl⟩, .inl ⟨_, rfl, hJe⟩⟩

/-- A copy of a row. -/
theorem Clone_H (w : World) (v : Value) (l : List ByteArray) (h : w.ownsRow 0 9 1 v l.length (l.map fun x => .string x)) (hn : l.length < 1099511627776) :
    Calls Tryd.prog 81 #[v] w fun e w' => ∃ v', e = .returned v' ∧ w'.ownsRow w.heap.size 9 1 v' l.length (l.map fun x => .string x) ∧ Below w.heap.size w w' := by
  rcases h.2 with ⟨rfl, h0⟩ | ⟨g, cap, cur, rfl, _, hg, _⟩
  · obtain rfl : l = [] := List.length_eq_zero_iff.1 h0
    exact (Any.slices_Clone_string_nil Tryd.lays16 0 0 w).mono fun e w' ⟨he, hw⟩ => ⟨_, he, World.ownsRow_nil _ _ _ _, hw ▸ Below.refl _ _⟩
  · refine (Any.slices_Clone_string Tryd.lays16 g 0 l.length cap l w (Nat.le_refl _) (by omega) (fun j hj => ?_)).mono fun e w' ⟨v', he, ho, _, hb⟩ => ⟨v', he, by rw [List.take_length] at ho; exact ho, hb⟩
    rw [Nat.zero_add, h.cellAt j (by omega)]
    simp [hj]
theorem Peaks_H (w : World) (b n : Nat) (v : Value) (st : List ByteArray) (hr : RngH w b st n v) (hn : st.length < 1099511627776) :
    Calls Tryd.prog 24 #[.pointer (some ⟨b, 0, none⟩)] w fun e w' => ∃ v', e = .returned v' ∧ w'.ownsRow w.heap.size 9 1 v' st.length (st.reverse.map fun x => .string x) ∧ Below w.heap.size w w' := by
  have hc1 : w.cell? ⟨b, 1, none⟩ = some v := by simp [World.cell?, hr.blk]
  have ho := hr.own
  have hl : st.length = st.reverse.length := by simp
  rw [hl] at ho
  have hcl := Clone_H w v st.reverse ho (by simpa using hn)
  clear ho hr
  go_enter Tryd.func24, Tryd.ntmps24
  go_wp2_with (go_at_call 81; refine hcl.mono ?_; rintro e w' ⟨v', rfl, ho, hb⟩)
  go_ret
  exact ⟨v', rfl, by simpa using ho, hb⟩
theorem Back_in_H {m : Nat} (A : Option Addr) (k c : Nat) (w : World) :
    CallsIn Fence.wide m Tryd.prog 82 #[.slice A k c] w fun e w' => e = .returned (.func (.func 110) #[] #[.pointer (some ⟨w.heap.size, 0, none⟩)]) ∧ w' = w.alloc (.cells #[.slice A k c] 22) := by
  refine callsIn_of_wp Tryd.func82 rfl trivial ?_ rfl
  simp only [Tryd.ntmps82, List.size_toArray, List.length_cons, List.length_nil, Nat.reduceAdd, Nat.reduceSub, Array.replicate_succ, Array.replicate_zero, List.push_toArray, List.append_toArray, List.nil_append, List.cons_append]
  gi_wp2
  go_ret
  exact ⟨rfl, rfl⟩
/-- The one, of the peaks that came by. -/
def foldPH (st : List ByteArray) (pre : List (Fin st.length)) : ByteArray := pre.foldl (fun t q => if q.val = 0 then st[q] else joinH st[q] t) (⟨#[]⟩ : ByteArray)
theorem foldP_topH (st : List ByteArray) : foldPH st (List.finRange st.length) = topOf (⟨#[]⟩ : ByteArray) joinH st := by
  have key : ∀ k, k ≤ st.length → foldPH st ((List.finRange st.length).take k) = topOf (⟨#[]⟩ : ByteArray) joinH (st.take k) := by
    intro k
    induction k with
    | zero => intro _; simp [foldPH, topOf]
    | succ k ih =>
      intro hk
      have hi := ih (by omega)
      rw [List.take_succ_eq_append_getElem (by rw [List.length_finRange]; omega), List.take_succ_eq_append_getElem (by omega)]
      unfold foldPH at hi ⊢
      rw [List.foldl_append, hi]
      simp only [List.getElem_finRange, List.foldl_cons, List.foldl_nil, Fin.val_cast, Fin.getElem_fin]
      by_cases h0 : k = 0
      · subst h0; simp [topOf]
      · rw [if_neg h0]
        obtain ⟨p, r, hpr⟩ : ∃ p r, st.take k = p :: r := by
          cases hst : st.take k with
          | nil => have := congrArg List.length hst; rw [List.length_take] at this; simp only [List.length_nil] at this; omega
          | cons p r => exact ⟨p, r, rfl⟩
        rw [hpr]
        simp [topOf, List.foldl_append]
  have := key st.length (Nat.le_refl _)
  rwa [List.take_of_length_le (by simp), List.take_length] at this

set_option maxRecDepth 100000 in
set_option maxHeartbeats 4000000 in
theorem Top_in_H (m : Nat) (hm : 6 ≤ m) (w : World) (b n : Nat) (v : Value) (st : List ByteArray) (hr : RngH w b st n v) (hG : GlobH w) (hlen : st.length < 1099511627776) (Bd : Nat → ByteArray → Prop) (hB0 : Bd 0 (⟨#[]⟩ : ByteArray))
    (hB1 : ∀ k t p, k < st.length → Bd k t → p ∈ st → okH p t ∧ Bd (k + 1) (joinH p t)) (hB2 : ∀ k p, p ∈ st → Bd (k + 1) p) :
    CallsIn Fence.wide m Tryd.prog 25 #[.pointer (some ⟨b, 0, none⟩)] w fun e w' => e = .returned (.tuple #[.string (topOf (⟨#[]⟩ : ByteArray) joinH st), .bool (decide (0 < n))]) ∧ Below w.heap.size w w' := by
  have h1 : 1 ≤ m := by omega
  obtain ⟨A, g, cap, rfl, hcap, hglt, hA⟩ : ∃ A g cap, v = .slice A st.length cap ∧ st.length ≤ cap ∧ g < w.heap.size ∧ (∀ q x, st[q]? = some x → A = some ⟨g, 0, none⟩ ∧ w.cell? ⟨g, st.length - 1 - q, none⟩ = some (.string x)) := by
    rcases hr.own.2 with ⟨rfl, h0⟩ | ⟨g, cap, cur, rfl, _, hg, hcap, _⟩
    · obtain rfl : st = [] := List.length_eq_zero_iff.1 h0
      exact ⟨none, b, 0, rfl, Nat.le_refl _, hr.lt, fun q x h => by simp at h⟩
    · refine ⟨_, g, cap, rfl, hcap, (Array.getElem?_eq_some_iff.1 hg).1, fun q x h => ⟨rfl, ?_⟩⟩
      obtain ⟨hq, rfl⟩ := List.getElem?_eq_some_iff.1 h
      rw [hr.own.cellAt _ (by omega)]
      rw [List.getElem?_map, List.getElem?_reverse (by omega)]
      simp [show st.length - 1 - (st.length - 1 - q) = q by omega, hq]
  have hc1 : w.cell? ⟨b, 1, none⟩ = some (.slice A st.length cap) := by simp [World.cell?, hr.blk]
  have hblt := hr.lt
  refine callsIn_of_wp_marks Tryd.func25 rfl trivial ?_ rfl
  simp only [Tryd.ntmps25, List.size_toArray, List.length_cons, List.length_nil, Nat.reduceAdd, Nat.reduceSub, Array.replicate_succ, Array.replicate_zero, List.push_toArray, List.append_toArray, List.nil_append, List.cons_append]
  have HA := Lib.hid hA
  have HR := Lib.hid hr
  clear hA hr
  gi_wp2_with (refine ⟨trivial, ?_⟩; gi_at_call 82; refine (Back_in_H _ _ _ _).mono ?_; rintro e w' ⟨rfl, rfl⟩)
  have HG := hG
  have hb0 : Below w.heap.size w (((w.alloc (.cells #[.pointer (some ⟨b, 0, none⟩)] 23)).alloc (.cells #[Value.string (⟨#[]⟩ : ByteArray)] 9)).alloc (.cells #[.slice A st.length cap] 22)) :=
    (((Below.refl _ w).alloc (Nat.le_refl _) _).alloc (by simp) _).alloc (by simp; omega) _
  have x0 := ((Boxed.new w 23 (.pointer (some ⟨b, 0, none⟩))).alloc (.cells #[Value.string (⟨#[]⟩ : ByteArray)] 9)).alloc (.cells #[.slice A st.length cap] 22)
  have x1 := (Boxed.new (w.alloc (.cells #[.pointer (some ⟨b, 0, none⟩)] 23)) 9 (Value.string (⟨#[]⟩ : ByteArray))).alloc (.cells #[.slice A st.length cap] 22)
  have x2 := Boxed.new ((w.alloc (.cells #[.pointer (some ⟨b, 0, none⟩)] 23)).alloc (.cells #[Value.string (⟨#[]⟩ : ByteArray)] 9)) 22 (.slice A st.length cap)
  have hsz : (((w.alloc (.cells #[.pointer (some ⟨b, 0, none⟩)] 23)).alloc (.cells #[Value.string (⟨#[]⟩ : ByteArray)] 9)).alloc (.cells #[.slice A st.length cap] 22)).heap.size = w.heap.size + 3 := by simp
  simp only [World.size_alloc] at x1 x2
  obtain ⟨n0, hn0⟩ : ∃ n0, w.heap.size = n0 := ⟨_, rfl⟩
  rw [hn0] at hb0 x0 x1 x2 hsz hglt hblt ⊢
  generalize (((w.alloc (.cells #[.pointer (some ⟨b, 0, none⟩)] 23)).alloc (.cells #[Value.string (⟨#[]⟩ : ByteArray)] 9)).alloc (.cells #[.slice A st.length cap] 22)) = W0 at *
  have hc0 : w.cell? ⟨b, 0, none⟩ = some (.func (.func 41) #[] #[]) := by simp [World.cell?, HR.out.blk]
  have HC0 := Lib.hid hc0
  have HC1 := Lib.hid hc1
  clear hc0 hc1
  refine wpIn_rangeFunc_ownH (Kp := KpS (fun k => k = n0 + 1 + 1 ∨ k = g)) (w0 := W0) (N := st.length) (S := fun ys => ys = List.finRange st.length) (Sp := fun _ => True) (encs := fun q : Fin st.length => #[.int .i64 ((st.length : Int) - 1 - q.val), .string st[q]]) rfl h1 (gf := 110) (lb := #[.pointer (some ⟨n0 + 1 + 1, 0, none⟩)]) rfl trivial (enters_of Tryd.func110 (by kernel_rfl) rfl)
    (fun l J Jx W hW hJ hJx hY h0 => back1_H (m - 1) (by omega) l (n0 + 1 + 1) g cap A st hlen hcap J Jx W ((hW.cell (p := ⟨n0 + 1 + 1, 0, none⟩) x2.lt).trans x2.cell)
      (fun q x hq => ⟨(HA.out q x hq).1, (hW.cell (p := ⟨g, _, none⟩) (by simp only []; omega)).trans ((hb0.cell (p := ⟨g, _, none⟩) hglt).trans (HA.out q x hq).2)⟩) hY h0)
    KpS.t KpS.b (Below.refl _ _) (fun _ => rfl)
    (fun pre W => Boxed W n0 23 (.pointer (some ⟨b, 0, none⟩)) ∧ Boxed W (n0 + 1) 9 (.string (foldPH st pre)) ∧ Bd pre.length (foldPH st pre) ∧ Below n0 w W)
    (fun _ _ _ => False)
    (OwnFrom.and (Own.from (boxed_own n0 23 (fun (_ : List (Fin st.length)) => .pointer (some ⟨b, 0, none⟩))) _) (OwnFrom.and (Own.from (boxed_own (n0 + 1) 9 (fun pre => .string (foldPH st pre))) _) (OwnFrom.and (ownFrom_pure _ (fun pre => Bd pre.length (foldPH st pre))) (hn0 ▸ ownFrom_below (Nat.le_refl _) (by omega)))))
    (fun _ _ _ _ _ hs _ _ => hs)
    ⟨x0, x1, hB0, hb0⟩
    (fun x a' W => a' = { tmps := #[.pointer (some ⟨b, 0, none⟩), .pointer (some ⟨n0, 0, none⟩), Value.string (⟨#[]⟩ : ByteArray), .bool false, .pointer (some ⟨n0 + 1, 0, none⟩), .int .i64 ((st.length : Int) - 1 - x.val), .string st[x], .pointer (some ⟨b, 0, none⟩), .pointer (some ⟨b, 0, none⟩), .pointer (some ⟨b, 1, none⟩), .slice A st.length cap, .func (.func 110) #[] #[.pointer (some ⟨n0 + 1 + 1, 0, none⟩)], .int .i64 ((st.length : Int) - 1 - x.val), .string st[x], undef, undef, undef, undef, undef, undef, undef, undef, undef, undef, undef, undef, undef, undef, undef, undef, undef, undef, undef, undef, undef, undef], defers := [] })
    (fun x a' => by rintro _ X Y row ha hg hrow; exact ha) ?assign ?body ?done ?stop
  case assign =>
    rintro l pre x W K hI hK
    simp only [Fin.getElem_fin]
    gi_wp2
    exact hK _ _ ((KeepsOthers.refl' W).from _) (fun _ _ _ h => h) hI (by simp only [Fin.getElem_fin])
  case body =>
    rintro l pre x a' W hl ⟨r, hrr⟩ ⟨hbp, hbt, hBd, hB⟩ rfl hlt
    have hcp := hbp.cell
    have hct := hbt.cell
    have hft := hbt.frozen
    have hbW : b < W.heap.size := by have := hB.size; omega
    have hcb0 := (hB.cell (p := ⟨b, 0, none⟩) hblt).trans HC0.out
    have hcb1 := (hB.cell (p := ⟨b, 1, none⟩) hblt).trans HC1.out
    have hm63 : (st.length : Int) ≤ 9223372036854775807 := by omega
    have hm64 : (1 : Int) ≤ (st.length : Int) := by omega
    have hlW : l < W.heap.size := (Array.getElem?_eq_some_iff.1 hrr).1
    clear hrr
    have hf0 : x.val = 0 → foldPH st (pre ++ [x]) = st[x] := fun hz => by simp [foldPH, List.foldl_append, hz]
    have hf1 : ¬ x.val = 0 → foldPH st (pre ++ [x]) = joinH st[x] (foldPH st pre) := fun hz => by simp [foldPH, List.foldl_append, hz]
    have hl1 : (pre ++ [x]).length = pre.length + 1 := by simp
    by_cases hz : x.val = 0
    · have he : ((st.length : Int) - 1 - (x.val : Int) == (st.length : Int) - 1) = true := by simp [hz]
      have HF := Lib.hid (hf0 hz)
      clear hz hf0 hf1
      gi_wp2
      refine ⟨(KeepsOthers.setCell _ _ _).from _, KpS.set _ (fun k hk => by rcases hk with rfl | rfl <;> omega), hbp.other (by omega) _, ?_, ?_, ?_⟩
      · rw [HF.out]; exact hbt.set _
      · rw [HF.out, hl1]; exact hB2 _ _ (List.getElem_mem _)
      · exact hB.setCell (by show n0 ≤ n0 + 1; omega) _
    · have he : ((st.length : Int) - 1 - (x.val : Int) == (st.length : Int) - 1) = false := beq_eq_false_iff_ne.2 (by omega)
      have HF := Lib.hid (hf1 hz)
      clear hz hf0 hf1
      gi_wp2
      refine wpIn_region_storeL (C := Below W.heap.size W) 7 _ rfl rfl (by kernel_rfl) (by kernel_rfl) (by kernel_rfl) (by kernel_rfl) (Below.refl _ _).drew ?_
      simp only [List.take_succ_cons, List.take_zero]
      refine wpQuietIn_go (v := ?_) (a' := ?_) rfl (fun _ => trivial) (fun w' hC => qval ?_) rfl ?_ ?_; rotate_left; rotate_left
      · have k0 := (hC.cell (p := ⟨n0, 0, none⟩) hbp.lt).trans hcp
        have k1 := (hC.cell (p := ⟨n0 + 1, 0, none⟩) hbt.lt).trans hct
        have k2 := (hC.cell (p := ⟨b, 0, none⟩) hbW).trans hcb0
        clear hC
        go_simp
        with_reducible rfl
      · simp only [Act.put, List.setIfInBounds_toArray, List.set_cons_zero, List.set_cons_succ, i64_w, i32_w]
        rfl
      refine wpQuietIn_go (v := ?_) (a' := ?_) rfl (fun _ => trivial) (fun w' hC => qval ?_) rfl ?_ ?_; rotate_left; rotate_left
      · have k0 := (hC.cell (p := ⟨n0, 0, none⟩) hbp.lt).trans hcp
        have k1 := (hC.cell (p := ⟨n0 + 1, 0, none⟩) hbt.lt).trans hct
        have k2 := (hC.cell (p := ⟨b, 0, none⟩) hbW).trans hcb0
        clear hC
        go_simp
        with_reducible rfl
      · simp only [Act.put, List.setIfInBounds_toArray, List.set_cons_zero, List.set_cons_succ, i64_w, i32_w]
        rfl
      refine wpQuietIn_go (v := ?_) (a' := ?_) rfl (fun _ => trivial) (fun w' hC => qval ?_) rfl ?_ ?_; rotate_left; rotate_left
      · have k0 := (hC.cell (p := ⟨n0, 0, none⟩) hbp.lt).trans hcp
        have k1 := (hC.cell (p := ⟨n0 + 1, 0, none⟩) hbt.lt).trans hct
        have k2 := (hC.cell (p := ⟨b, 0, none⟩) hbW).trans hcb0
        clear hC
        go_simp
        with_reducible rfl
      · simp only [Act.put, List.setIfInBounds_toArray, List.set_cons_zero, List.set_cons_succ, i64_w, i32_w]
        rfl
      refine wpQuietIn_go (v := ?_) (a' := ?_) rfl (fun _ => trivial) (fun w' hC => qval ?_) rfl ?_ ?_; rotate_left; rotate_left
      · have k0 := (hC.cell (p := ⟨n0, 0, none⟩) hbp.lt).trans hcp
        have k1 := (hC.cell (p := ⟨n0 + 1, 0, none⟩) hbt.lt).trans hct
        have k2 := (hC.cell (p := ⟨b, 0, none⟩) hbW).trans hcb0
        clear hC
        go_simp
        with_reducible rfl
      · simp only [Act.put, List.setIfInBounds_toArray, List.set_cons_zero, List.set_cons_succ, i64_w, i32_w]
        rfl
      refine wpQuietIn_go (v := ?_) (a' := ?_) rfl (fun _ => trivial) (fun w' hC => qval ?_) rfl ?_ ?_; rotate_left; rotate_left
      · have k0 := (hC.cell (p := ⟨n0, 0, none⟩) hbp.lt).trans hcp
        have k1 := (hC.cell (p := ⟨n0 + 1, 0, none⟩) hbt.lt).trans hct
        have k2 := (hC.cell (p := ⟨b, 0, none⟩) hbW).trans hcb0
        clear hC
        go_simp
        with_reducible rfl
      · simp only [Act.put, List.setIfInBounds_toArray, List.set_cons_zero, List.set_cons_succ, i64_w, i32_w]
        rfl
      refine wpQuietIn_go (v := ?_) (a' := ?_) rfl (fun _ => trivial) (fun w' hC => qval ?_) rfl ?_ ?_; rotate_left; rotate_left
      · have k0 := (hC.cell (p := ⟨n0, 0, none⟩) hbp.lt).trans hcp
        have k1 := (hC.cell (p := ⟨n0 + 1, 0, none⟩) hbt.lt).trans hct
        have k2 := (hC.cell (p := ⟨b, 0, none⟩) hbW).trans hcb0
        clear hC
        go_simp
        with_reducible rfl
      · simp only [Act.put, List.setIfInBounds_toArray, List.set_cons_zero, List.set_cons_succ, i64_w, i32_w]
        rfl
      refine wpQuietIn_go (v := Value.string (joinH st[x] (foldPH st pre))) (a' := ?_) rfl (fun _ => trivial) (fun w' hC => ?_) rfl ?_ ?_; rotate_left
      · refine qcall 41 #[.string st[x], .string (foldPH st pre)] ?_ (fun _ => by omega) (callsIn_inr l (callsIn_wide.2 ((Jc_H _ _ (hB1 _ _ _ hlt hBd (List.getElem_mem _)).1 w' ((GlobH.below (w' := W) HG (by rw [hn0]; exact hB)).below hC)).mono fun e w'' ⟨he, hb⟩ => ⟨he, hC.trans (hb.mono hC.size)⟩)))
        go_simp
      · simp only [Act.put, List.setIfInBounds_toArray, List.set_cons_zero, List.set_cons_succ, i64_w, i32_w]
        rfl
      refine wpQuietIn_nil ?_
      intro w' hC
      have hbt' : Boxed w' (n0 + 1) 9 (.string (foldPH st pre)) := hbt.below hC
      have hbp' : Boxed w' n0 23 (.pointer (some ⟨b, 0, none⟩)) := hbp.below hC
      have k1 := hbt'.cell
      have k2 := hbt'.frozen
      refine wpIn_skip (fun _ e => by cases e) (fun _ => trivial) rfl (w1 := w'.setCell ⟨n0 + 1, 0, none⟩ (.string (joinH st[x] (foldPH st pre)))) (by go_simp) ?_
      have hKB : KpS (fun k => k = n0 + 1 + 1 ∨ k = g) W w' := KpS.of_below hC (fun k hk => by have := hB.size; rcases hk with rfl | rfl <;> omega)
      refine ⟨((KeepsOthers.of_below' hC).trans' (KeepsOthers.setCell _ _ _)).from _, KpS.t hKB (KpS.set _ (fun k hk => by rcases hk with rfl | rfl <;> omega)), hbp'.other (by omega) _, ?_, ?_, ?_⟩
      · rw [HF.out]; exact hbt'.set _
      · rw [HF.out, hl1]; exact (hB1 _ _ _ hlt hBd (List.getElem_mem _)).2
      · exact (hB.trans (hC.mono (by have := hB.size; omega))).setCell (by show n0 ≤ n0 + 1; omega) _
  case done =>
    rintro D ys W hD rfl ⟨hbp, hbt, hBd, hB⟩ hK
    rw [foldP_topH] at hbt
    have hcp := hbp.cell
    have hct := hbt.cell
    have hcb2 : W.cell? ⟨b, 2, none⟩ = some (.int .i64 n) := (hB.cell (p := ⟨b, 2, none⟩) hblt).trans (by simp [World.cell?, HR.out.blk])
    clear hBd
    gi_wp2
    gi_big_quiet (fail)
    gi_wp2
    refine ⟨by simp, .inl ⟨_, _, rfl, run_takeDeferred (w := W.drewN nq) hK, ?_⟩⟩
    exact ⟨_, results_tmp2 rfl _ _ _, rfl, hn0 ▸ (pw_below_drewN hB nq).trans (belowK_b (w := w) (Nat.le_of_eq hn0.symm) (W.drewN nq) D _ _ (by omega) hK rfl rfl)⟩
  case stop =>
    rintro D c pre W _ _ h _
    exact h.elim
end Go.Proofs.YtoeibcdnhglobaaDoor.P

/- peaks.Hashes, peaks.Root: the walks. -/
namespace Go.Proofs.YtoeibcdnhglobaaDoor.P
set_option linter.unusedVariables false
set_option linter.unusedSimpArgs false
open Go.RowKit Go.Shelf Go.Proofs.YtoeibcdnhglobaaDoorW.PrintWords Go.Proofs.YtoeibcdnhglobaaDoorW.PrintLast Go.Proofs.YtoeibcdnhglobaaDoorW.PrintMore
open Go.Proofs.YtoeibcdnhglobaaDoor.Pure

/-- A range of hashes at block b: the things of xs were added; its row's block is og. -/
structure LawH (w : World) (b : Nat) (xs : List ByteArray) (og : Option Nat) (wr : World) : Prop where
  rng : ∃ v, RngH wr b (stk joinH xs) xs.length v ∧ v.ownBlock = og
  below : Below w.heap.size w wr
  tab : TzTab w
  glob : GlobH w
  own : ∀ g, og = some g → w.heap.size ≤ g ∧ g < wr.heap.size
  at_ : w.heap.size ≤ b
theorem LawH.lt {w wr : World} {b : Nat} {xs : List ByteArray} {og : Option Nat} (h : LawH w b xs og wr) : b < wr.heap.size := by
  obtain ⟨v, hv, _⟩ := h.rng
  exact hv.lt
theorem LawH.far {w wr w' : World} {b : Nat} {xs : List ByteArray} {og : Option Nat} (h : LawH w b xs og wr) {S : Nat → Prop} (ht : Touch S wr w') (hS : ∀ k, S k → w.heap.size ≤ k ∧ k ≠ b ∧ og ≠ some k) : LawH w b xs og w' := by
  obtain ⟨v, hv, rfl⟩ := h.rng
  exact ⟨⟨v, hv.kept ht (fun k hk => (hS k hk).2), rfl⟩, h.below.trans (ht.to_below h.below.size (fun k hk => (hS k hk).1)), h.tab, h.glob, fun g hg => ⟨(h.own g hg).1, Nat.lt_of_lt_of_le (h.own g hg).2 ht.size⟩, h.at_⟩
theorem LawH.after {w wr w' : World} {b : Nat} {xs : List ByteArray} {og : Option Nat} (h : LawH w b xs og wr) (hb : Below wr.heap.size wr w') : LawH w b xs og w' := h.far (S := fun _ => False) (Touch.of_below hb) (fun _ e => e.elim)
theorem LawH.new (w : World) (hT : TzTab w) (hG : GlobH w) : LawH w w.heap.size [] none (w.alloc (.cells #[.func (.func 41) #[] #[], .slice none 0 0, .int .i64 0] 91)) :=
  ⟨⟨_, RngH.new w, rfl⟩, (Below.refl _ w).alloc (Nat.le_refl _) _, hT, hG, fun g e => (by cases e), Nat.le_refl _⟩
theorem LawH.add {w wr : World} {b : Nat} {xs : List ByteArray} {og : Option Nat} (h : LawH w b xs og wr) (x : ByteArray) (hn : xs.length < 1000000000) (hs : ∀ s ∈ xs, s.size ≤ 32) (hx : x.size ≤ 32) :
    Calls Tryd.prog 23 #[.pointer (some ⟨b, 0, none⟩), .string x] wr fun e w' => e = .returned (.tuple #[]) ∧ ∃ og', LawH w b (xs ++ [x]) og' w' ∧ Touch (fun k => k = b ∨ some k = og) wr w' ∧ (og' = og ∨ ∃ g, og' = some g ∧ wr.heap.size ≤ g) := by
  obtain ⟨v, hv, rfl⟩ := h.rng
  have hlen := stk_length joinH xs
  have hTw : TzTab wr := h.tab.below h.below h.tab.lt
  have hGw : GlobH wr := h.glob.below h.below
  refine (Add_H wr b xs.length v x (stk joinH xs) hv (by omega) hTw hGw (stk_enough xs (by omega)) (merge_okH _ _ _ hx (stk_sz xs hs)) (by omega)).mono ?_
  rintro e w' ⟨he, v', hr, ht, hg⟩
  rw [← stk_snoc] at hr
  refine ⟨he, v'.ownBlock, ⟨⟨v', by simpa using hr, rfl⟩, h.below.trans (ht.to_below h.below.size ?_), h.tab, h.glob, ?_, h.at_⟩, ht, hg⟩
  · rintro k (rfl | hk)
    · exact h.at_
    · exact (h.own k hk.symm).1
  · intro g hg'
    refine ⟨?_, (hr.own.lt g hg').2⟩
    rcases hg with e | ⟨g2, e, hge⟩
    · exact (h.own g (e ▸ hg')).1
    · rw [hg'] at e; cases e
      have := h.below.size
      omega
theorem LawH.top {w wr : World} {b : Nat} {xs : List ByteArray} {og : Option Nat} (h : LawH w b xs og wr) (hn : xs.length < 1000000000) (hs : ∀ s ∈ xs, s.size ≤ 32) :
    Calls Tryd.prog 25 #[.pointer (some ⟨b, 0, none⟩)] wr fun e w' => e = .returned (.tuple #[.string (Tree joinH ByteArray.empty xs), .bool (decide (0 < xs.length))]) ∧ Below wr.heap.size wr w' ∧ LawH w b xs og w' := by
  obtain ⟨v, hv, e⟩ := h.rng
  have hlen := stk_length joinH xs
  have hst := stk_sz xs hs
  have ht := callsIn_wide.1 (Top_in_H 6 (Nat.le_refl _) wr b xs.length v (stk joinH xs) hv (h.glob.below h.below) (by omega) (fun k t => t.size ≤ 32) (by show 0 ≤ 32; omega)
    (fun k t p hk hb hp => ⟨⟨hst p hp, hb⟩, Nat.le_of_eq (nodeH_size p t)⟩)
    (fun k p hp => hst p hp))
  refine ht.mono fun e w' ⟨he, hb⟩ => ⟨?_, hb, h.after hb⟩
  rw [he]
  have := top_tree (J := joinH) ByteArray.empty xs (by omega)
  rw [show topOf (⟨#[]⟩ : ByteArray) joinH (stk joinH xs) = Tree joinH ByteArray.empty xs from this]
theorem Hashes_calls (w : World) : Calls Tryd.prog 36 #[] w fun e w' => e = .returned (.pointer (some ⟨w.heap.size, 0, none⟩)) ∧ w' = w.alloc (.cells #[.func (.func 41) #[] #[], .slice none 0 0, .int .i64 0] 91) := by
  go_enter Tryd.func36, Tryd.ntmps36
  go_wp2_with (go_at_call 21; refine (New_H _).mono ?_; rintro e w' ⟨rfl, rfl⟩)
  go_ret
  exact ⟨rfl, rfl⟩
/-- The root of the hashes. -/
def rootH (l : List ByteArray) : ByteArray := if l.length = 0 then strOfNums (shaN []) else Tree joinH ByteArray.empty l
theorem parts_nil (w : World) : Parts w none [] := ⟨fun j h => absurd h (Nat.not_lt_zero _), fun p hp => (by cases hp), fun x hx => (by simp [allB] at hx), (by simp [allB])⟩
set_option maxRecDepth 100000 in
set_option maxHeartbeats 4000000 in
theorem Root_calls (A : Option Addr) (c : Nat) (l : List ByteArray) (w : World) (hr : ReadsOf Value.string ByteArray.empty w A l.length l) (hs : ∀ s ∈ l, s.size ≤ 32) (hn : l.length < 1000000000) (hT : TzTab w) (hG : GlobH w) :
    Calls Tryd.prog 39 #[.slice A l.length c] w fun e w' => e = .returned (.string (rootH l)) ∧ Below w.heap.size w w' := by
  have hL := LawH.new w hT hG
  have hS : ∀ (W : World), GlobH W → Calls Tryd.prog 86 #[.slice none 0 0] W fun e w' => ∃ v', e = .returned v' ∧ OwnB w' W.heap.size v' (shaN []) ∧ Below W.heap.size W w' := fun W h => Sum256_calls W none 0 [] (parts_nil W) (by decide) (DTab.k h) (DTab.b h)
  obtain ⟨n0, hn0⟩ : ∃ n0, w.heap.size = n0 := ⟨_, rfl⟩
  have hK := fun (W : World) => Hashes_calls W
  rw [hn0] at hL
  have HL := Lib.hid hL
  have HR := Lib.hid hr
  have HSZ := Lib.hid hs
  have HN := Lib.hid hn
  have hstr := fun (W : World) (A : Option Addr) (n c : Nat) (xs : List Int) (h : ReadsInt W .u8 A n xs) => string_of_reads (P := Tryd.prog) (src := 47) (dst := 9) (c := c) Tryd.underlying47 Tryd.underlying5 Tryd.underlying9 h
  have HSTR := Lib.hid hstr
  clear hL hr hs hn hT hG hstr
  go_enter Tryd.func39, Tryd.ntmps39
  go_wp2_with (go_at_call 36; refine (hK _).mono ?_; rintro e w' ⟨rfl, hw'⟩; rw [hw']; clear hw' w')
  go_loopw [11] (fun v11 wr => ∃ (i : Nat) (og : Option Nat), v11 = .int .i64 i ∧ i ≤ l.length ∧ LawH w n0 (l.take i) og wr) (fun v11 _ => l.length - (intOf v11).toNat)
  case atStart => exact ⟨0, none, rfl, by omega, by simpa using HL.out⟩
  case round =>
    obtain ⟨i, og, rfl, hi, hLr⟩ := hrel
    by_cases hlt : i < l.length
    · have hd : decide ((i : Int) < (l.length : Int)) = true := decide_eq_true (by omega)
      have hd2 : (i : Int) < (l.length : Int) := by omega
      obtain ⟨ad, rfl, hcell⟩ := HR.out.at_ i (by omega) (by omega)
      have hcell2 := (hLr.below.cell (World.block_lt_of_cell? _ _ hcell)).trans hcell
      have hrd : rdOf ByteArray.empty l (i : Int) = l[i] := by simp [rdOf, List.getD_eq_getElem?_getD, hlt]
      rw [hrd, Int.toNat_natCast] at hcell2
      have hib : (i : Int) < 1000000000 := by have := HN.out; omega
      have k1 := hLr.add l[i] (by rw [List.length_take]; have := HN.out; omega) (fun s h => HSZ.out s (List.mem_of_mem_take h)) (HSZ.out _ (List.getElem_mem hlt))
      rw [← List.take_succ_eq_append_getElem hlt] at k1
      generalize l[i] = x at *
      clear hcell hrd hLr HL
      go_wp2_with (go_at_call 23; with_reducible refine k1.mono ?_; rintro e w1 ⟨rfl, og1, hL1, _, _⟩; clear k1)
      exact ⟨⟨i + 1, og1, rfl, by omega, hL1⟩, by simp only [intOf]; omega⟩
    · have hd : decide ((i : Int) < (l.length : Int)) = false := decide_eq_false (by omega)
      obtain rfl : i = l.length := by omega
      rw [List.take_length] at hLr
      have k1 := hLr.top HN.out HSZ.out
      clear hLr HL
      by_cases h0 : 0 < l.length
      · have e5 : decide (0 < l.length) = true := decide_eq_true h0
        rw [e5] at k1
        go_wp2_with (go_at_call 25; with_reducible refine k1.mono ?_; rintro e w1 ⟨rfl, hb1, hL1⟩; clear k1)
        go_ret
        exact ⟨by unfold rootH; rw [if_neg (by omega)]; rfl, hL1.below⟩
      · have e5 : decide (0 < l.length) = false := decide_eq_false h0
        rw [e5] at k1
        go_wp2_with (first
          | (go_at_call 25; go_loud (with_reducible refine k1.mono ?_; rintro e w1 ⟨rfl, hb1, hL1⟩; clear k1; have k2 := hS w1 (hL1.glob.below hL1.below)))
          | (go_at_call 86; go_loud (refine k2.mono ?_; rintro e w5 ⟨v5, rfl, ho5, hb5⟩; obtain ⟨A5, c5, rfl, _⟩ := own_form ho5; have hcv := HSTR.out w5 A5 _ c5 _ (own_reads' ho5); have HB5 := Lib.hid hb5; clear ho5 hb5)))
        go_ret
        exact ⟨by unfold rootH; rw [if_pos (by omega)]; rfl, hL1.below.trans (HB5.out.mono hL1.below.size)⟩
end Go.Proofs.YtoeibcdnhglobaaDoor.P
