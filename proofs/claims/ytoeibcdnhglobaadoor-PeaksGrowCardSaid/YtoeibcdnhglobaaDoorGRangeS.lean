/- A range of peaks: its methods, for one kind of things. Printed by wip/tools/genrange.py. -/
import Derived.Test.YtoeibcdnhglobaaDoorGJoinS
import Derived.Deep.AppendLies
namespace Go.Proofs.YtoeibcdnhglobaaDoor.P
set_option linter.unusedVariables false
set_option linter.unusedSimpArgs false
open Go.RowKit Go.Proofs.YtoeibcdnhglobaaDoorW.PrintWords Go.Proofs.YtoeibcdnhglobaaDoorW.PrintLast Go.Proofs.YtoeibcdnhglobaaDoorW.PrintMore
open Go.Proofs.YtoeibcdnhglobaaDoor.Pure

/-- A range lies at block b: its peaks (the last first), how many were added, the value of its slice. -/
structure RngS (w : World) (b : Nat) (st : List ByteArray) (n : Nat) (v : Value) : Prop where
  blk : w.heap[b]? = some (.cells #[.func (.func 22) #[] #[], v, .int .i64 n] 91 (0, 0))
  own : w.ownsRow 0 9 1 v st.length (st.reverse.map fun x => .string x)
theorem RngS.kept {w w' : World} {b : Nat} {st : List ByteArray} {n : Nat} {v : Value} (h : RngS w b st n v) {S : Nat → Prop} (ht : Touch S w w') (hS : ∀ k, S k → k ≠ b ∧ v.ownBlock ≠ some k) : RngS w' b st n v :=
  ⟨ht.blk h.blk (fun e => (hS _ e).1 rfl), own_blk h.own fun g hg => ht.block g (h.own.lt g hg).2 (fun e => (hS g e).2 hg)⟩
theorem RngS.lt {w : World} {b : Nat} {st : List ByteArray} {n : Nat} {v : Value} (h : RngS w b st n v) : b < w.heap.size := (Array.getElem?_eq_some_iff.1 h.blk).1
theorem New_S (w : World) :
    Calls Tryd.prog 21 #[.func (.func 22) #[] #[]] w fun e w' => e = .returned (.pointer (some ⟨w.heap.size, 0, none⟩)) ∧ w' = w.alloc (.cells #[.func (.func 22) #[] #[], .slice none 0 0, .int .i64 0] 91) := by
  go_enter Tryd.func21, Tryd.ntmps21
  go_wp2
  go_ret
  exact ⟨rfl, rfl⟩
theorem RngS.new (w : World) : RngS (w.alloc (.cells #[.func (.func 22) #[] #[], .slice none 0 0, .int .i64 0] 91)) w.heap.size [] 0 (.slice none 0 0) :=
  ⟨heap_alloc_new w _, World.ownsRow_nil _ _ _ _⟩

theorem RngS.popped {w w3 : World} {b : Nat} {p : ByteArray} {st : List ByteArray} {n g cap : Nat} (h : RngS w b (p :: st) n (.slice (some ⟨g, 0, none⟩) (st.length + 1) cap)) (hb : Below w.heap.size w w3) :
    RngS (w3.setCell ⟨b, 1, none⟩ (.slice (some ⟨g, 0, none⟩) st.length cap)) b st n (.slice (some ⟨g, 0, none⟩) st.length cap) := by
  have h3 : RngS w3 b (p :: st) n (.slice (some ⟨g, 0, none⟩) (st.length + 1) cap) := h.kept (S := fun _ => False) (Touch.of_below hb) (fun _ e => e.elim)
  have hne := own_ne h3.own h3.blk (by decide)
  have hown := h3.own
  simp only [List.length_cons, List.reverse_cons, List.map_append, List.map_cons, List.map_nil] at hown
  refine ⟨by simpa using heap_setCell_same _ b 1 _ _ (.slice (some ⟨g, 0, none⟩) st.length cap) h3.blk, ?_⟩
  refine own_blk (ownsRow_pop (by simp) hown) fun k hk => Below.heap_setCell _ _ _ _ (fun e => hne ?_)
  cases hk
  exact congrArg some e
theorem storedS {w1 : World} {b n : Nat} {u x : Value} (hb1 : w1.heap[b]? = some (.cells #[.func (.func 22) #[] #[], u, .int .i64 n] 91 (0, 0))) :
    w1.frozen? ⟨b, 1, none⟩ = false ∧ (w1.setCell ⟨b, 1, none⟩ x).frozen? ⟨b, 2, none⟩ = false ∧ (w1.setCell ⟨b, 1, none⟩ x).cell? ⟨b, 2, none⟩ = some (.int .i64 n) ∧
      (w1.setCell ⟨b, 1, none⟩ x).heap[b]? = some (.cells #[.func (.func 22) #[] #[], x, .int .i64 n] 91 (0, 0)) := by
  have hb2 : (w1.setCell ⟨b, 1, none⟩ x).heap[b]? = some (.cells #[.func (.func 22) #[] #[], x, .int .i64 n] 91 (0, 0)) := by simpa using heap_setCell_same w1 b 1 _ _ x hb1
  exact ⟨by simp [World.frozen?, hb1], by simp [World.frozen?, hb2], by simp [World.cell?, hb2], hb2⟩
/-- Where an Add's joins stand. -/
def AtS (w : World) (b n t : Nat) (v : Value) (x0 : ByteArray) (st : List ByteArray) (j : Nat) (h2 : ByteArray) (wr : World) : Prop :=
  ∃ st2 u, RngS wr b st2 n u ∧ u.ownBlock = v.ownBlock ∧ Touch (fun k => k = b) w wr ∧ GlobS wr ∧ merge joinS t x0 st = merge joinS (t - j) h2 st2 ∧ mergeOk okS joinS (t - j) h2 st2 ∧ t - j ≤ st2.length ∧ st2.length ≤ st.length

set_option maxRecDepth 100000 in
set_option maxHeartbeats 4000000 in
theorem Add_S (w : World) (b n : Nat) (v : Value) (x0 : ByteArray) (st : List ByteArray) (hr : RngS w b st n v) (hn : n < 1099511627776) (hT : TzTab w) (hG : GlobS w) (ht : tn 64 n ≤ st.length)
    (hok : mergeOk okS joinS (tn 64 n) x0 st) (hlen : st.length < 1099511627776) :
    Calls Tryd.prog 23 #[.pointer (some ⟨b, 0, none⟩), .string x0] w fun e w' => e = .returned (.tuple #[]) ∧ ∃ v', RngS w' b (merge joinS (tn 64 n) x0 st) (n + 1) v' ∧ Touch (fun k => k = b ∨ some k = v.ownBlock) w w' ∧
      (v'.ownBlock = v.ownBlock ∨ ∃ g, v'.ownBlock = some g ∧ w.heap.size ≤ g) := by
  obtain ⟨i9, hi9, hz9, hsz9, hby9⟩ := info_parts inf9
  have hA0 : AtS w b n (tn 64 n) v x0 st 0 x0 w := ⟨st, v, hr, rfl, Touch.refl _ _, hG, rfl, hok, ht, Nat.le_refl _⟩
  have hc2 : w.cell? ⟨b, 2, none⟩ = some (.int .i64 n) := by simp [World.cell?, hr.blk]
  have hx : IntKind.u64.wrap (n : Int) = n := by rw [IntKind.wrap_u64]; omega
  have hcall := tz_not n (by omega) w hT
  have htle := tn_le 64 n
  have hblt0 := hr.lt
  clear hT hG ht hok hr
  generalize tn 64 n = t at *
  have HN := Lib.hid hn
  have HL := Lib.hid hlen
  have HT := Lib.hid htle
  clear hn hlen htle
  go_enter Tryd.func23, Tryd.ntmps23
  go_wp2_with (go_at_call 80; refine hcall.mono ?_; rintro e w' ⟨rfl, hw'⟩; rw [hw']; clear hw' w')
  clear hcall hc2
  go_loopw [1, 12] (fun v1 v12 wr => ∃ (j : Nat) (h2 : ByteArray), v1 = .string h2 ∧ v12 = .int .i64 j ∧ j ≤ t ∧ AtS w b n t v x0 st j h2 wr) (fun v1 v12 _ => t - (intOf v12).toNat)
  case atStart => exact ⟨0, x0, rfl, rfl, by omega, hA0⟩
  case round =>
    obtain ⟨j, h2, rfl, rfl, hjt, st2, u, hR, hu, hTo, hG, hm, hok, hl1, hl2⟩ := hrel
    by_cases hlt : j < t
    · obtain ⟨p, st3, rfl⟩ : ∃ p st3, st2 = p :: st3 := by
        cases st2 with
        | nil => simp only [List.length_nil] at hl1; omega
        | cons p st3 => exact ⟨p, st3, rfl⟩
      obtain ⟨g, cap, rfl, _, hglt⟩ := hR.own.form (by simp)
      have hown := hR.own
      simp only [List.length_cons, List.reverse_cons, List.map_append, List.map_cons, List.map_nil] at hown hu hl1 hl2
      have hpop := ownsRow_pop (by simp) hown
      have hc0 : wr.cell? ⟨b, 0, none⟩ = some (.func (.func 22) #[] #[]) := by simp [World.cell?, hR.blk]
      have hc1 : wr.cell? ⟨b, 1, none⟩ = some (.slice (some ⟨g, 0, none⟩) (st3.length + 1) cap) := by simp [World.cell?, hR.blk]
      have hcp : wr.cell? ⟨g, st3.length, none⟩ = some (.string p) := by
        rw [hown.cellAt st3.length (by omega)]
        rw [List.getElem?_append_right (by simp)]
        simp
      have hcap : st3.length + 1 ≤ cap := by
        rcases hown.2 with ⟨h0, _⟩ | ⟨g', cap', cur, hv, _, _, h3, _⟩
        · cases h0
        · cases hv; exact h3
      have hfz : wr.frozen? ⟨b, 1, none⟩ = false := by simp [World.frozen?, hR.blk]
      have hblt := hR.lt
      have htj : t - j = (t - (j + 1)) + 1 := by omega
      rw [htj] at hok hm
      simp only [mergeOk, merge] at hok hm
      obtain ⟨hok1, hok2⟩ := hok
      have HNEXT : ∀ w3, Below wr.heap.size wr w3 → AtS w b n t v x0 st (j + 1) (joinS p h2) (w3.setCell ⟨b, 1, none⟩ (.slice (some ⟨g, 0, none⟩) st3.length cap)) := fun w3 hb =>
        ⟨st3, _, hR.popped hb, hu, (hTo.below hb).trans (Touch.set (S := fun k => k = b) w3 ⟨b, 1, none⟩ _ rfl) (fun _ e => .inl e), (hG.below hb).below (B := 0) ⟨rfl, rfl, rfl, by simp [World.setCell], fun k hk => by omega⟩, hm, hok2, by omega, by omega⟩
      have hm63 : (st3.length : Int) + 1 ≤ 9223372036854775807 := by have := HL.out; omega
      have hge1 : (0 : Int) ≤ (st3.length : Int) := by omega
      have hge2 : (st3.length : Int) < (st3.length : Int) + 1 := by omega
      have hge3 : (st3.length : Int) ≤ (cap : Int) := by omega
      have hge4 : st3.length ≤ cap := by omega
      clear hown hpop hm hok2 hl1 hl2 hu hTo
      generalize hmm : st3.length = m at *
      go_wp2
      refine start_ (n := 24) (S := fun w' => w'.cell? ⟨b, 0, none⟩ = some (.func (.func 22) #[] #[]) ∧ w'.cell? ⟨b, 1, none⟩ = some (.slice (some ⟨g, 0, none⟩) (m + 1) cap) ∧ w'.cell? ⟨g, m, none⟩ = some (.string p) ∧ w'.frozen? ⟨b, 1, none⟩ = false ∧ Below wr.heap.size wr w') (ds := [23]) #[false, false, false, false, false, false, false, false, false, false, false, false, false, false, false, false, false, false, false, false, false, false, false, false] (by kernel_rfl) rfl rfl ⟨hc0, hc1, hcp, hfz, ((Below.refl _ _).drew)⟩ (fun hHeld => ?_)
      refine pure_ (i := 0) (N := some 20) (v := ?_) (a' := ?_) #[true, false, false, false, false, false, false, false, false, false, false, false, false, false, false, false, false, false, false, false, false, false, false, false] rfl rfl (by kernel_rfl) (fun _ _ _ h => h) (Or.inl ⟨by rfl, ?_⟩) ?_ ?_
      rotate_left
      · intro w'
        go_simp
        with_reducible rfl
      rotate_left
      · simp only [Act.put, List.setIfInBounds_toArray, List.set_cons_zero, List.set_cons_succ, i64_w, i32_w]
        rfl
      refine pure_ (i := 1) (N := some 21) (v := ?_) (a' := ?_) #[true, true, false, false, false, false, false, false, false, false, false, false, false, false, false, false, false, false, false, false, false, false, false, false] rfl rfl (by kernel_rfl) (fun _ _ _ h => h) (Or.inl ⟨by rfl, ?_⟩) ?_ ?_
      rotate_left
      · intro w'
        go_simp
        with_reducible rfl
      rotate_left
      · simp only [Act.put, List.setIfInBounds_toArray, List.set_cons_zero, List.set_cons_succ, i64_w, i32_w]
        rfl
      refine pure_ (i := 2) (N := some 22) (v := ?_) (a' := ?_) #[true, true, true, false, false, false, false, false, false, false, false, false, false, false, false, false, false, false, false, false, false, false, false, false] rfl rfl (by kernel_rfl) (fun _ _ _ h => h) (Or.inl ⟨by rfl, ?_⟩) ?_ ?_
      rotate_left
      · intro w'
        go_simp
        with_reducible rfl
      rotate_left
      · simp only [Act.put, List.setIfInBounds_toArray, List.set_cons_zero, List.set_cons_succ, i64_w, i32_w]
        rfl
      refine pure_ (i := 3) (N := some 23) (v := ?_) (a' := ?_) #[true, true, true, true, false, false, false, false, false, false, false, false, false, false, false, false, false, false, false, false, false, false, false, false] rfl rfl (by kernel_rfl) (fun _ _ _ h => h) (Or.inl ⟨by rfl, ?_⟩) ?_ ?_
      rotate_left
      · intro w'
        go_simp
        with_reducible rfl
      rotate_left
      · simp only [Act.put, List.setIfInBounds_toArray, List.set_cons_zero, List.set_cons_succ, i64_w, i32_w]
        rfl
      refine pure_ (i := 5) (N := some 25) (v := ?_) (a' := ?_) #[true, true, true, true, false, true, false, false, false, false, false, false, false, false, false, false, false, false, false, false, false, false, false, false] rfl rfl (by kernel_rfl) (fun _ _ _ h => h) (Or.inl ⟨by rfl, ?_⟩) ?_ ?_
      rotate_left
      · intro w'
        go_simp
        with_reducible rfl
      rotate_left
      · simp only [Act.put, List.setIfInBounds_toArray, List.set_cons_zero, List.set_cons_succ, i64_w, i32_w]
        rfl
      refine pure_ (i := 6) (N := some 26) (v := ?_) (a' := ?_) #[true, true, true, true, false, true, true, false, false, false, false, false, false, false, false, false, false, false, false, false, false, false, false, false] rfl rfl (by kernel_rfl) (fun _ _ _ h => h) (Or.inl ⟨by rfl, ?_⟩) ?_ ?_
      rotate_left
      · intro w'
        go_simp
        with_reducible rfl
      rotate_left
      · simp only [Act.put, List.setIfInBounds_toArray, List.set_cons_zero, List.set_cons_succ, i64_w, i32_w]
        rfl
      refine pure_ (i := 7) (N := some 27) (v := ?_) (a' := ?_) #[true, true, true, true, false, true, true, true, false, false, false, false, false, false, false, false, false, false, false, false, false, false, false, false] rfl rfl (by kernel_rfl) (fun _ _ _ h => h) (Or.inl ⟨by rfl, ?_⟩) ?_ ?_
      rotate_left
      · intro w'
        go_simp
        with_reducible rfl
      rotate_left
      · simp only [Act.put, List.setIfInBounds_toArray, List.set_cons_zero, List.set_cons_succ, i64_w, i32_w]
        rfl
      refine pure_ (i := 9) (N := some 29) (v := ?_) (a' := ?_) #[true, true, true, true, false, true, true, true, false, true, false, false, false, false, false, false, false, false, false, false, false, false, false, false] rfl rfl (by kernel_rfl) (fun _ _ _ h => h) (Or.inl ⟨by rfl, ?_⟩) ?_ ?_
      rotate_left
      · intro w'
        go_simp
        with_reducible rfl
      rotate_left
      · simp only [Act.put, List.setIfInBounds_toArray, List.set_cons_zero, List.set_cons_succ, i64_w, i32_w]
        rfl
      refine pure_ (i := 12) (N := some 32) (v := ?_) (a' := ?_) #[true, true, true, true, false, true, true, true, false, true, false, false, true, false, false, false, false, false, false, false, false, false, false, false] rfl rfl (by kernel_rfl) (fun _ _ _ h => h) (Or.inl ⟨by rfl, ?_⟩) ?_ ?_
      rotate_left
      · intro w'
        go_simp
        with_reducible rfl
      rotate_left
      · simp only [Act.put, List.setIfInBounds_toArray, List.set_cons_zero, List.set_cons_succ, i64_w, i32_w]
        rfl
      refine pure_ (i := 14) (N := some 34) (v := ?_) (a' := ?_) #[true, true, true, true, false, true, true, true, false, true, false, false, true, false, true, false, false, false, false, false, false, false, false, false] rfl rfl (by kernel_rfl) (fun _ _ _ h => h) (Or.inl ⟨by rfl, ?_⟩) ?_ ?_
      rotate_left
      · intro w'
        go_simp
        with_reducible rfl
      rotate_left
      · simp only [Act.put, List.setIfInBounds_toArray, List.set_cons_zero, List.set_cons_succ, i64_w, i32_w]
        rfl
      refine pure_ (i := 15) (N := some 35) (v := ?_) (a' := ?_) #[true, true, true, true, false, true, true, true, false, true, false, false, true, false, true, true, false, false, false, false, false, false, false, false] rfl rfl (by kernel_rfl) (fun _ _ _ h => h) (Or.inl ⟨by rfl, ?_⟩) ?_ ?_
      rotate_left
      · intro w'
        go_simp
        with_reducible rfl
      rotate_left
      · simp only [Act.put, List.setIfInBounds_toArray, List.set_cons_zero, List.set_cons_succ, i64_w, i32_w]
        rfl
      refine pure_ (i := 16) (N := some 36) (v := ?_) (a' := ?_) #[true, true, true, true, false, true, true, true, false, true, false, false, true, false, true, true, true, false, false, false, false, false, false, false] rfl rfl (by kernel_rfl) (fun _ _ _ h => h) (Or.inl ⟨by rfl, ?_⟩) ?_ ?_
      rotate_left
      · intro w'
        go_simp
        with_reducible rfl
      rotate_left
      · simp only [Act.put, List.setIfInBounds_toArray, List.set_cons_zero, List.set_cons_succ, i64_w, i32_w]
        rfl
      refine pure_ (i := 18) (N := some 38) (v := ?_) (a' := ?_) #[true, true, true, true, false, true, true, true, false, true, false, false, true, false, true, true, true, false, true, false, false, false, false, false] rfl rfl (by kernel_rfl) (fun _ _ _ h => h) (Or.inl ⟨by rfl, ?_⟩) ?_ ?_
      rotate_left
      · intro w'
        go_simp
        with_reducible rfl
      rotate_left
      · simp only [Act.put, List.setIfInBounds_toArray, List.set_cons_zero, List.set_cons_succ, i64_w, i32_w]
        rfl
      refine take_ (i := 4) (N := some 24) (v := ?_) (a' := ?_) #[true, true, true, true, true, true, true, true, false, true, false, false, true, false, true, true, true, false, true, false, false, false, false, false] rfl rfl (by kernel_rfl) (fun _ _ _ h => h) (Or.inl ⟨by rfl, ?_⟩) hHeld ?_ ?_
      rotate_left
      · rintro w' ⟨s0, s1, s2, s3, s4⟩
        go_simp
        with_reducible rfl
      rotate_left
      · simp only [Act.put, List.setIfInBounds_toArray, List.set_cons_zero, List.set_cons_succ, i64_w, i32_w]
        rfl
      refine take_ (i := 8) (N := some 28) (v := ?_) (a' := ?_) #[true, true, true, true, true, true, true, true, true, true, false, false, true, false, true, true, true, false, true, false, false, false, false, false] rfl rfl (by kernel_rfl) (fun _ _ _ h => h) (Or.inl ⟨by rfl, ?_⟩) hHeld ?_ ?_
      rotate_left
      · rintro w' ⟨s0, s1, s2, s3, s4⟩
        go_simp
        with_reducible rfl
      rotate_left
      · simp only [Act.put, List.setIfInBounds_toArray, List.set_cons_zero, List.set_cons_succ, i64_w, i32_w]
        rfl
      refine pure_ (i := 10) (N := some 30) (v := ?_) (a' := ?_) #[true, true, true, true, true, true, true, true, true, true, true, false, true, false, true, true, true, false, true, false, false, false, false, false] rfl rfl (by kernel_rfl) (fun _ _ _ h => h) (Or.inl ⟨by rfl, ?_⟩) ?_ ?_
      rotate_left
      · intro w'
        go_simp
        with_reducible rfl
      rotate_left
      · simp only [Act.put, List.setIfInBounds_toArray, List.set_cons_zero, List.set_cons_succ, i64_w, i32_w]
        rfl
      refine take_ (i := 11) (N := some 31) (v := ?_) (a' := ?_) #[true, true, true, true, true, true, true, true, true, true, true, true, true, false, true, true, true, false, true, false, false, false, false, false] rfl rfl (by kernel_rfl) (fun _ _ _ h => h) (Or.inl ⟨by rfl, ?_⟩) hHeld ?_ ?_
      rotate_left
      · rintro w' ⟨s0, s1, s2, s3, s4⟩
        go_simp
        with_reducible rfl
      rotate_left
      · simp only [Act.put, List.setIfInBounds_toArray, List.set_cons_zero, List.set_cons_succ, i64_w, i32_w]
        rfl
      refine take_ (i := 17) (N := some 37) (v := ?_) (a' := ?_) #[true, true, true, true, true, true, true, true, true, true, true, true, true, false, true, true, true, true, true, false, false, false, false, false] rfl rfl (by kernel_rfl) (fun _ _ _ h => h) (Or.inl ⟨by rfl, ?_⟩) hHeld ?_ ?_
      rotate_left
      · rintro w' ⟨s0, s1, s2, s3, s4⟩
        go_simp
        with_reducible rfl
      rotate_left
      · simp only [Act.put, List.setIfInBounds_toArray, List.set_cons_zero, List.set_cons_succ, i64_w, i32_w]
        rfl
      refine pure_ (i := 19) (N := some 39) (v := ?_) (a' := ?_) #[true, true, true, true, true, true, true, true, true, true, true, true, true, false, true, true, true, true, true, true, false, false, false, false] rfl rfl (by kernel_rfl) (fun _ _ _ h => h) (Or.inl ⟨by rfl, ?_⟩) ?_ ?_
      rotate_left
      · intro w'
        go_simp
        with_reducible rfl
      rotate_left
      · simp only [Act.put, List.setIfInBounds_toArray, List.set_cons_zero, List.set_cons_succ, i64_w, i32_w]
        rfl
      refine one_ (i := 13) (N := some 33) #[true, true, true, true, true, true, true, true, true, true, true, true, true, true, true, true, true, true, true, true, false, false, false, false] rfl rfl (by kernel_rfl) (by decide) (fun K hK => ?_)
      refine call_ 22 #[.string p, .string h2] (by rfl) rfl (by go_simp) ?_
      with_reducible refine (Jc_S p h2 hok1 _ (hG.below hHeld.2.2.2.2)).mono ?_
      rintro e w3 ⟨rfl, hb3⟩
      refine ⟨_, rfl, ?_⟩
      refine hK.out _ _ ⟨((hb3.cell (p := ⟨b, 0, none⟩) (Nat.lt_of_lt_of_le hblt hHeld.2.2.2.2.size)).trans hHeld.1), ((hb3.cell (p := ⟨b, 1, none⟩) (Nat.lt_of_lt_of_le hblt hHeld.2.2.2.2.size)).trans hHeld.2.1), ((hb3.cell (p := ⟨g, m, none⟩) (Nat.lt_of_lt_of_le hglt hHeld.2.2.2.2.size)).trans hHeld.2.2.1), ((hb3.frozen (p := ⟨b, 1, none⟩) (Nat.lt_of_lt_of_le hblt hHeld.2.2.2.2.size)).trans hHeld.2.2.2.1), (hHeld.2.2.2.2.trans (hb3.mono hHeld.2.2.2.2.size))⟩ (fun hHeld => ?_)
      clear hK K
      refine norm_ (a' := ?_) ?_ ?_
      rotate_left
      · show Act.put _ (some 33) _ = _
        simp only [Act.put, List.setIfInBounds_toArray, List.set_cons_zero, List.set_cons_succ, i64_w, i32_w]
        rfl
      refine pure_ (i := 20) (N := some 1) (v := ?_) (a' := ?_) #[true, true, true, true, true, true, true, true, true, true, true, true, true, true, true, true, true, true, true, true, true, false, false, false] rfl rfl (by kernel_rfl) (fun _ _ _ h => h) (Or.inl ⟨by rfl, ?_⟩) ?_ ?_
      rotate_left
      · intro w'
        go_simp
        with_reducible rfl
      rotate_left
      · simp only [Act.put, List.setIfInBounds_toArray, List.set_cons_zero, List.set_cons_succ, i64_w, i32_w]
        rfl
      refine pure_ (i := 21) (N := some 40) (v := ?_) (a' := ?_) #[true, true, true, true, true, true, true, true, true, true, true, true, true, true, true, true, true, true, true, true, true, true, false, false] rfl rfl (by kernel_rfl) (fun _ _ _ h => h) (Or.inl ⟨by rfl, ?_⟩) ?_ ?_
      rotate_left
      · intro w'
        go_simp
        with_reducible rfl
      rotate_left
      · simp only [Act.put, List.setIfInBounds_toArray, List.set_cons_zero, List.set_cons_succ, i64_w, i32_w]
        rfl
      refine pure_ (i := 22) (N := some 41) (v := ?_) (a' := ?_) #[true, true, true, true, true, true, true, true, true, true, true, true, true, true, true, true, true, true, true, true, true, true, true, false] rfl rfl (by kernel_rfl) (fun _ _ _ h => h) (Or.inl ⟨by rfl, ?_⟩) ?_ ?_
      rotate_left
      · intro w'
        go_simp
        with_reducible rfl
      rotate_left
      · simp only [Act.put, List.setIfInBounds_toArray, List.set_cons_zero, List.set_cons_succ, i64_w, i32_w]
        rfl
      refine last_ (i := 23) (N := none) #[true, true, true, true, true, true, true, true, true, true, true, true, true, true, true, true, true, true, true, true, true, true, true, true] rfl rfl (by kernel_rfl) (by decide) (fun K hK => ?_)
      obtain ⟨_, _, _, hf3, hb4⟩ := hHeld
      refine skip_ (w1 := ?_) (by rfl) rfl ?_ ?_
      rotate_left
      · go_simp
        rfl
      refine hK.out _ _ ?_
      clear hK K
      refine done_ (by kernel_rfl) ?_
      have HN3 := HNEXT _ hb4
      clear HNEXT
      go_wp2
      go_roundw
      case rel => exact ⟨j + 1, _, rfl, by rw [wrap64_id (by omega) (by have := HT.out; omega)]; rfl, by omega, HN3⟩
      case measure => rw [wrap64_id (by omega) (by have := HT.out; omega)]; simp only [intOf]; omega
    · have htj : t - j = 0 := by omega
      rw [htj] at hm
      simp only [merge] at hm
      have hub := own_ne hR.own hR.blk (by decide)
      have hc1 : wr.cell? ⟨b, 1, none⟩ = some u := by simp [World.cell?, hR.blk]
      have hlen2 : st2.length + 1 ≤ 1099511627776 := by have := HL.out; omega
      have hown0 := hR.own
      have HM := Lib.hid hm
      clear hm hok hl1 hl2
      have HN9 := Lib.hid hlen2
      clear hlen2
      go_wp2_with (at_builtin; go_loud (refine wpList_append_lies _ rfl _ _ 22 rfl 0 9 i9 (Value.string (⟨#[]⟩ : ByteArray)) 1 16 Tryd.underlying22 hi9 hz9 hsz9 hby9 rfl (by decide) _ _ _ rfl (hown0.alloc _) ⟨wr.heap.size, 0, none⟩ 1 1 [.string h2] rfl rfl (World.news_of_block (cs := #[.string h2]) (t := 9) (fr := (0, 0)) (heap_alloc_new wr _)) (by simp [Value.oneCell']) (by decide) (by have := HN9.out; simp only [maxLen]; omega) (by have := HN9.out; omega) (Nat.zero_le _) (wr.heap.size + 1) (by simp) ?_; intro g cap w1 hown1 hgrow hat hlt1; have hb1 := (hgrow.block b (by have := hR.lt; simp; omega) (fun e => hub e.symm)).trans ((Below.heap_alloc wr _ b hR.lt).trans hR.blk); obtain ⟨hf1, hf2, hc2, hb2⟩ := storedS (x := .slice (some ⟨g, 0, none⟩) (st2.length + 1) cap) hb1; have hg1 : w1.cell? ⟨b, 1, none⟩ = some u := (by simp [World.cell?, hb1]); have hg2 : w1.cell? ⟨b, 2, none⟩ = some (.int .i64 n) := (by simp [World.cell?, hb1]); have hg3 : w1.frozen? ⟨b, 2, none⟩ = false := (by simp [World.frozen?, hb1]); have HOWN := Lib.hid hown1; have HGROW : Hid ((wr.alloc (.cells #[.string h2] 9)).grownBy w1 u.ownBlock) := hgrow; have HAT : Hid (u.ownBlock = some g ∨ g = wr.heap.size + 1) := hat; have HB2 := Lib.hid hb2; clear hown1 hgrow hat hb1 hb2))
      go_end0
      have hb2 := HB2.out
      have hw : wrap64 ((n : Int) + 1) = ((n + 1 : Nat) : Int) := by rw [wrap64_id (by omega) (by have := HN.out; omega)]; rfl
      have hb3 := heap_setCell_same _ b 2 _ _ (.int .i64 ((n + 1 : Nat) : Int)) hb2
      simp only [List.setIfInBounds_toArray, List.set_cons_zero, List.set_cons_succ] at hb3
      rw [hw, HM.out]
      have hne : g ≠ b := by
        rcases HAT.out with e | e
        · exact fun e2 => hub (by rw [e, e2])
        · have := hR.lt; omega
      refine ⟨rfl, .slice (some ⟨g, 0, none⟩) (st2.length + 1) cap, ⟨hb3, ?_⟩, ?_, ?_⟩
      · have ho := HOWN.out
        rw [show (List.map (fun x => Value.string x) st2.reverse ++ [Value.string h2]) = (h2 :: st2).reverse.map fun x => Value.string x by simp] at ho
        refine own_blk ho fun k hk => ?_
        cases hk
        rw [Below.heap_setCell _ _ _ _ hne, Below.heap_setCell _ _ _ _ hne]
      · have t1 : Touch (fun k => k = b ∨ some k = v.ownBlock) w wr := hTo.mono fun _ e => .inl e
        have t2 := (t1.below ((Below.refl _ wr).alloc (Nat.le_refl _) (.cells #[.string h2] 9)))
        have t3 := t2.trans (Touch.grown (S := fun k => some k = v.ownBlock) HGROW.out (fun k e => by rw [← hu]; exact e.symm)) (fun _ e => .inl (.inr e))
        have t4 := t3.trans (Touch.set (S := fun k => k = b) w1 ⟨b, 1, none⟩ (.slice (some ⟨g, 0, none⟩) (st2.length + 1) cap) rfl) (fun _ e => .inl (.inl e))
        exact t4.trans (Touch.set (S := fun k => k = b) _ ⟨b, 2, none⟩ _ rfl) (fun _ e => .inl (.inl e))
      · rcases HAT.out with e | e
        · exact .inl (by rw [← hu, e]; rfl)
        · exact .inr ⟨g, rfl, by have := hTo.size; omega⟩
end Go.Proofs.YtoeibcdnhglobaaDoor.P
