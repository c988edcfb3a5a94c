/- A range of peaks: Clone, Peaks, Backward and Top, for one kind of things. Printed by wip/tools/genrange.py. -/
import Derived.RangeFuncNested
import Derived.RangeFuncBound
import Derived.RangeFuncCalls
import Derived.RangeFuncLeaves
import Derived.RangeFuncBox
import Derived.Shelf.Abstract
import Derived.Shelf.RegionOpen
import Derived.WalkKit
import Derived.Lib.Hide
import Derived.OwnWalkIn
import Derived.TacticsInMore
import Derived.LoopNIn
import Derived.LoopIn
import Derived.Test.YtoeibcdnhglobaaDoorGRangeS
import Derived.Test.YtoeibcdnhglobaaDoorGBack
namespace Go.Proofs.YtoeibcdnhglobaaDoor.P
set_option linter.unusedVariables false
set_option linter.unusedSimpArgs false
open Go.RowKit Go.Shelf Go.Proofs.YtoeibcdnhglobaaDoorW.PrintWords Go.Proofs.YtoeibcdnhglobaaDoorW.PrintLast Go.Proofs.YtoeibcdnhglobaaDoorW.PrintMore
open Go.Proofs.YtoeibcdnhglobaaDoor.Pure
attribute [local go_sem] Oper.semAt_some

/-- The iterator from behind over a row of the call's own. -/
theorem back1_S (m : Nat) (hm : 1 ≤ m) (l Bn g cap : Nat) (A : Option Addr) (st : List ByteArray) (hlen : st.length < 1099511627776) (hcap : st.length ≤ cap) (J Jx : List (Fin st.length) → World → Prop) (W : World)
    (hbx : W.cell? ⟨Bn, 0, none⟩ = some (.slice A st.length cap)) (hA : ∀ q x, st[q]? = some x → A = some ⟨g, 0, none⟩ ∧ W.cell? ⟨g, st.length - 1 - q, none⟩ = some (.string x))
    (hY : ∀ pre x W, J pre W → pre.length < st.length → YieldAt Fence.wide (m - 1) Tryd.prog l #[.int .i64 ((st.length : Int) - 1 - x.val), .string st[x]] W fun e W' =>
      (e = .returned (.bool true) ∧ J (pre ++ [x]) W' ∧ KpS (fun k => k = Bn ∨ k = g) W W') ∨ (e = .returned (.bool false) ∧ Jx (pre ++ [x]) W'))
    (h0 : J [] W) :
    CallsIn Fence.wide m Tryd.prog 110 #[.func (.yield l) #[] #[], .pointer (some ⟨Bn, 0, none⟩)] W fun e W' => (∃ v, e = .returned v) ∧
      ((∃ ys, ys = List.finRange st.length ∧ J ys W') ∨ (∃ pre, True ∧ Jx pre W')) := by
  have HL := Lib.hid hlen
  have hm63 : ((st.length : Nat) : Int) ≤ 9223372036854775807 := by omega
  clear hlen
  have h00 : J ((List.finRange st.length).take 0) W := by simpa using h0
  have hk0 : KpS (fun k => k = Bn ∨ k = g) W W := fun _ _ _ h => h
  refine callsIn_of_wp Tryd.func110 rfl trivial ?_ rfl
  simp only [Tryd.ntmps110, List.size_toArray, List.length_cons, List.length_nil, Nat.reduceAdd, Nat.reduceSub, Array.replicate_succ, Array.replicate_zero, List.push_toArray, List.append_toArray, List.nil_append, List.cons_append]
  gi_wp2
  gi_loopw [3] (fun v3 wr => ∃ (q : Nat) (i : Int), v3 = .int .i64 i ∧ Hid (i = (st.length : Int) - 1 - q) ∧ q ≤ st.length ∧ J ((List.finRange st.length).take q) wr ∧ KpS (fun k => k = Bn ∨ k = g) W wr)
    (fun v3 _ => (intOf v3 + 1).toNat)
  case atStart => exact ⟨0, _, rfl, Lib.hid (by omega), by omega, h00, hk0⟩
  case round =>
    obtain ⟨q, i, rfl, HI, hq, hJq, hKq⟩ := hrel
    have hbr := hKq _ _ (.inl rfl) hbx
    by_cases hlt : q < st.length
    · obtain ⟨k, rfl⟩ : ∃ k : Nat, i = k := ⟨(st.length - 1 - q), by have := HI.out; omega⟩
      have hkk : k = st.length - 1 - q := by have := HI.out; omega
      obtain ⟨hA1, hA2⟩ := hA q st[q] (List.getElem?_eq_getElem hlt)
      have hcr := hKq _ _ (.inr rfl) hA2
      rw [← hkk] at hcr
      obtain ⟨fn, tmps, assign, body, hy, hR⟩ := hY _ (⟨q, hlt⟩ : Fin st.length) wr hJq (by simp; omega)
      have hkI : (st.length : Int) - 1 - ((⟨q, hlt⟩ : Fin st.length).val : Int) = (k : Int) := by have := HI.out; simpa using this.symm
      rw [hkI] at hy
      simp only [Fin.getElem_fin] at hy
      have hki : (k : Int) < (st.length : Int) := by omega
      have hkn : k < st.length := by omega
      have hk0' : (0 : Int) ≤ (k : Int) := by omega
      have hJq' : (List.finRange st.length).take q ++ [⟨q, hlt⟩] = (List.finRange st.length).take (q + 1) := by
        rw [List.take_succ_eq_append_getElem (by simpa using hlt)]; simp
      rw [hJq'] at hR
      have HK := Lib.hid hkk
      subst hA1
      clear hJq' hkI hkk hcap hA hA2 hY h00 h0 hk0 hbx hJq
      gi_wp2
      refine hR.mono ?_
      rintro e W3 (⟨rfl, hJ3, hk3⟩ | ⟨rfl, hJx3⟩)
      · gi_wp2
        go_roundw
        case rel => exact ⟨q + 1, _, rfl, Lib.hid (by have := HI.out; omega), by omega, hJ3, fun p v hp hv => hk3 p v hp (hKq p v hp hv)⟩
        case measure => simp only [intOf]; omega
      · gi_wp2
        refine bodyPost_ret (results_none rfl _ _ _) rfl ?_
        exact ⟨⟨_, rfl⟩, .inr ⟨_, trivial, hJx3⟩⟩
    · have hi1 : i = -1 := by have := HI.out; omega
      have hq1 : q = st.length := by omega
      subst hi1
      have hJe : J (List.finRange st.length) wr := by
        have := hJq
        rwa [List.take_of_length_le (by simp; omega)] at this
      clear hY hA h00 hk0 hJq hKq
      gi_wp2
      go_end0
      exact ⟨⟨_, rfl⟩, .inl ⟨_, rfl, hJe⟩⟩

/-- A copy of a row. -/
theorem Clone_S (w : World) (v : Value) (l : List ByteArray) (h : w.ownsRow 0 9 1 v l.length (l.map fun x => .string x)) (hn : l.length < 1099511627776) :
    Calls Tryd.prog 81 #[v] w fun e w' => ∃ v', e = .returned v' ∧ w'.ownsRow w.heap.size 9 1 v' l.length (l.map fun x => .string x) ∧ Below w.heap.size w w' := by
  rcases h.2 with ⟨rfl, h0⟩ | ⟨g, cap, cur, rfl, _, hg, _⟩
  · obtain rfl : l = [] := List.length_eq_zero_iff.1 h0
    exact (Any.slices_Clone_string_nil Tryd.lays16 0 0 w).mono fun e w' ⟨he, hw⟩ => ⟨_, he, World.ownsRow_nil _ _ _ _, hw ▸ Below.refl _ _⟩
  · refine (Any.slices_Clone_string Tryd.lays16 g 0 l.length cap l w (Nat.le_refl _) (by omega) (fun j hj => ?_)).mono fun e w' ⟨v', he, ho, _, hb⟩ => ⟨v', he, by rw [List.take_length] at ho; exact ho, hb⟩
    rw [Nat.zero_add, h.cellAt j (by omega)]
    simp [hj]
theorem Peaks_S (w : World) (b n : Nat) (v : Value) (st : List ByteArray) (hr : RngS w b st n v) (hn : st.length < 1099511627776) :
    Calls Tryd.prog 24 #[.pointer (some ⟨b, 0, none⟩)] w fun e w' => ∃ v', e = .returned v' ∧ w'.ownsRow w.heap.size 9 1 v' st.length (st.reverse.map fun x => .string x) ∧ Below w.heap.size w w' := by
  have hc1 : w.cell? ⟨b, 1, none⟩ = some v := by simp [World.cell?, hr.blk]
  have ho := hr.own
  have hl : st.length = st.reverse.length := by simp
  rw [hl] at ho
  have hcl := Clone_S w v st.reverse ho (by simpa using hn)
  clear ho hr
  go_enter Tryd.func24, Tryd.ntmps24
  go_wp2_with (go_at_call 81; refine hcl.mono ?_; rintro e w' ⟨v', rfl, ho, hb⟩)
  go_ret
  exact ⟨v', rfl, by simpa using ho, hb⟩
theorem Back_in_S {m : Nat} (A : Option Addr) (k c : Nat) (w : World) :
    CallsIn Fence.wide m Tryd.prog 82 #[.slice A k c] w fun e w' => e = .returned (.func (.func 110) #[] #[.pointer (some ⟨w.heap.size, 0, none⟩)]) ∧ w' = w.alloc (.cells #[.slice A k c] 22) := by
  refine callsIn_of_wp Tryd.func82 rfl trivial ?_ rfl
  simp only [Tryd.ntmps82, List.size_toArray, List.length_cons, List.length_nil, Nat.reduceAdd, Nat.reduceSub, Array.replicate_succ, Array.replicate_zero, List.push_toArray, List.append_toArray, List.nil_append, List.cons_append]
  gi_wp2
  go_ret
  exact ⟨rfl, rfl⟩
/-- The one, of the peaks that came by. -/
def foldPS (st : List ByteArray) (pre : List (Fin st.length)) : ByteArray := pre.foldl (fun t q => if q.val = 0 then st[q] else joinS st[q] t) (⟨#[]⟩ : ByteArray)
theorem foldP_topS (st : List ByteArray) : foldPS st (List.finRange st.length) = topOf (⟨#[]⟩ : ByteArray) joinS st := by
  have key : ∀ k, k ≤ st.length → foldPS st ((List.finRange st.length).take k) = topOf (⟨#[]⟩ : ByteArray) joinS (st.take k) := by
    intro k
    induction k with
    | zero => intro _; simp [foldPS, topOf]
    | succ k ih =>
      intro hk
      have hi := ih (by omega)
      rw [List.take_succ_eq_append_getElem (by rw [List.length_finRange]; omega), List.take_succ_eq_append_getElem (by omega)]
      unfold foldPS at hi ⊢
      rw [List.foldl_append, hi]
      simp only [List.getElem_finRange, List.foldl_cons, List.foldl_nil, Fin.val_cast, Fin.getElem_fin]
      by_cases h0 : k = 0
      · subst h0; simp [topOf]
      · rw [if_neg h0]
        obtain ⟨p, r, hpr⟩ : ∃ p r, st.take k = p :: r := by
          cases hst : st.take k with
          | nil => have := congrArg List.length hst; rw [List.length_take] at this; simp only [List.length_nil] at this; omega
          | cons p r => exact ⟨p, r, rfl⟩
        rw [hpr]
        simp [topOf, List.foldl_append]
  have := key st.length (Nat.le_refl _)
  rwa [List.take_of_length_le (by simp), List.take_length] at this

set_option maxRecDepth 100000 in
set_option maxHeartbeats 4000000 in
theorem Top_in_S (m : Nat) (hm : 6 ≤ m) (w : World) (b n : Nat) (v : Value) (st : List ByteArray) (hr : RngS w b st n v) (hG : GlobS w) (hlen : st.length < 1099511627776) (Bd : Nat → ByteArray → Prop) (hB0 : Bd 0 (⟨#[]⟩ : ByteArray))
    (hB1 : ∀ k t p, k < st.length → Bd k t → p ∈ st → okS p t ∧ Bd (k + 1) (joinS p t)) (hB2 : ∀ k p, p ∈ st → Bd (k + 1) p) :
    CallsIn Fence.wide m Tryd.prog 25 #[.pointer (some ⟨b, 0, none⟩)] w fun e w' => e = .returned (.tuple #[.string (topOf (⟨#[]⟩ : ByteArray) joinS st), .bool (decide (0 < n))]) ∧ Below w.heap.size w w' := by
  have h1 : 1 ≤ m := by omega
  obtain ⟨A, g, cap, rfl, hcap, hglt, hA⟩ : ∃ A g cap, v = .slice A st.length cap ∧ st.length ≤ cap ∧ g < w.heap.size ∧ (∀ q x, st[q]? = some x → A = some ⟨g, 0, none⟩ ∧ w.cell? ⟨g, st.length - 1 - q, none⟩ = some (.string x)) := by
    rcases hr.own.2 with ⟨rfl, h0⟩ | ⟨g, cap, cur, rfl, _, hg, hcap, _⟩
    · obtain rfl : st = [] := List.length_eq_zero_iff.1 h0
      exact ⟨none, b, 0, rfl, Nat.le_refl _, hr.lt, fun q x h => by simp at h⟩
    · refine ⟨_, g, cap, rfl, hcap, (Array.getElem?_eq_some_iff.1 hg).1, fun q x h => ⟨rfl, ?_⟩⟩
      obtain ⟨hq, rfl⟩ := List.getElem?_eq_some_iff.1 h
      rw [hr.own.cellAt _ (by omega)]
      rw [List.getElem?_map, List.getElem?_reverse (by omega)]
      simp [show st.length - 1 - (st.length - 1 - q) = q by omega, hq]
  have hc1 : w.cell? ⟨b, 1, none⟩ = some (.slice A st.length cap) := by simp [World.cell?, hr.blk]
  have hblt := hr.lt
  refine callsIn_of_wp_marks Tryd.func25 rfl trivial ?_ rfl
  simp only [Tryd.ntmps25, List.size_toArray, List.length_cons, List.length_nil, Nat.reduceAdd, Nat.reduceSub, Array.replicate_succ, Array.replicate_zero, List.push_toArray, List.append_toArray, List.nil_append, List.cons_append]
  have HA := Lib.hid hA
  have HR := Lib.hid hr
  clear hA hr
  gi_wp2_with (refine ⟨trivial, ?_⟩; gi_at_call 82; refine (Back_in_S _ _ _ _).mono ?_; rintro e w' ⟨rfl, rfl⟩)
  have HG := hG
  have hb0 : Below w.heap.size w (((w.alloc (.cells #[.pointer (some ⟨b, 0, none⟩)] 23)).alloc (.cells #[Value.string (⟨#[]⟩ : ByteArray)] 9)).alloc (.cells #[.slice A st.length cap] 22)) :=
    (((Below.refl _ w).alloc (Nat.le_refl _) _).alloc (by simp) _).alloc (by simp; omega) _
  have x0 := ((Boxed.new w 23 (.pointer (some ⟨b, 0, none⟩))).alloc (.cells #[Value.string (⟨#[]⟩ : ByteArray)] 9)).alloc (.cells #[.slice A st.length cap] 22)
  have x1 := (Boxed.new (w.alloc (.cells #[.pointer (some ⟨b, 0, none⟩)] 23)) 9 (Value.string (⟨#[]⟩ : ByteArray))).alloc (.cells #[.slice A st.length cap] 22)
  have x2 := Boxed.new ((w.alloc (.cells #[.pointer (some ⟨b, 0, none⟩)] 23)).alloc (.cells #[Value.string (⟨#[]⟩ : ByteArray)] 9)) 22 (.slice A st.length cap)
  have hsz : (((w.alloc (.cells #[.pointer (some ⟨b, 0, none⟩)] 23)).alloc (.cells #[Value.string (⟨#[]⟩ : ByteArray)] 9)).alloc (.cells #[.slice A st.length cap] 22)).heap.size = w.heap.size + 3 := by simp
  simp only [World.size_alloc] at x1 x2
  obtain ⟨n0, hn0⟩ : ∃ n0, w.heap.size = n0 := ⟨_, rfl⟩
  rw [hn0] at hb0 x0 x1 x2 hsz hglt hblt ⊢
  generalize (((w.alloc (.cells #[.pointer (some ⟨b, 0, none⟩)] 23)).alloc (.cells #[Value.string (⟨#[]⟩ : ByteArray)] 9)).alloc (.cells #[.slice A st.length cap] 22)) = W0 at *
  have hc0 : w.cell? ⟨b, 0, none⟩ = some (.func (.func 22) #[] #[]) := by simp [World.cell?, HR.out.blk]
  have HC0 := Lib.hid hc0
  have HC1 := Lib.hid hc1
  clear hc0 hc1
  refine wpIn_rangeFunc_ownH (Kp := KpS (fun k => k = n0 + 1 + 1 ∨ k = g)) (w0 := W0) (N := st.length) (S := fun ys => ys = List.finRange st.length) (Sp := fun _ => True) (encs := fun q : Fin st.length => #[.int .i64 ((st.length : Int) - 1 - q.val), .string st[q]]) rfl h1 (gf := 110) (lb := #[.pointer (some ⟨n0 + 1 + 1, 0, none⟩)]) rfl trivial (enters_of Tryd.func110 (by kernel_rfl) rfl)
    (fun l J Jx W hW hJ hJx hY h0 => back1_S (m - 1) (by omega) l (n0 + 1 + 1) g cap A st hlen hcap J Jx W ((hW.cell (p := ⟨n0 + 1 + 1, 0, none⟩) x2.lt).trans x2.cell)
      (fun q x hq => ⟨(HA.out q x hq).1, (hW.cell (p := ⟨g, _, none⟩) (by simp only []; omega)).trans ((hb0.cell (p := ⟨g, _, none⟩) hglt).trans (HA.out q x hq).2)⟩) hY h0)
    KpS.t KpS.b (Below.refl _ _) (fun _ => rfl)
    (fun pre W => Boxed W n0 23 (.pointer (some ⟨b, 0, none⟩)) ∧ Boxed W (n0 + 1) 9 (.string (foldPS st pre)) ∧ Bd pre.length (foldPS st pre) ∧ Below n0 w W)
    (fun _ _ _ => False)
    (OwnFrom.and (Own.from (boxed_own n0 23 (fun (_ : List (Fin st.length)) => .pointer (some ⟨b, 0, none⟩))) _) (OwnFrom.and (Own.from (boxed_own (n0 + 1) 9 (fun pre => .string (foldPS st pre))) _) (OwnFrom.and (ownFrom_pure _ (fun pre => Bd pre.length (foldPS st pre))) (hn0 ▸ ownFrom_below (Nat.le_refl _) (by omega)))))
    (fun _ _ _ _ _ hs _ _ => hs)
    ⟨x0, x1, hB0, hb0⟩
    (fun x a' W => a' = { tmps := #[.pointer (some ⟨b, 0, none⟩), .pointer (some ⟨n0, 0, none⟩), Value.string (⟨#[]⟩ : ByteArray), .bool false, .pointer (some ⟨n0 + 1, 0, none⟩), .int .i64 ((st.length : Int) - 1 - x.val), .string st[x], .pointer (some ⟨b, 0, none⟩), .pointer (some ⟨b, 0, none⟩), .pointer (some ⟨b, 1, none⟩), .slice A st.length cap, .func (.func 110) #[] #[.pointer (some ⟨n0 + 1 + 1, 0, none⟩)], .int .i64 ((st.length : Int) - 1 - x.val), .string st[x], undef, undef, undef, undef, undef, undef, undef, undef, undef, undef, undef, undef, undef, undef, undef, undef, undef, undef, undef, undef, undef, undef], defers := [] })
    (fun x a' => by rintro _ X Y row ha hg hrow; exact ha) ?assign ?body ?done ?stop
  case assign =>
    rintro l pre x W K hI hK
    simp only [Fin.getElem_fin]
    gi_wp2
    exact hK _ _ ((KeepsOthers.refl' W).from _) (fun _ _ _ h => h) hI (by simp only [Fin.getElem_fin])
  case body =>
    rintro l pre x a' W hl ⟨r, hrr⟩ ⟨hbp, hbt, hBd, hB⟩ rfl hlt
    have hcp := hbp.cell
    have hct := hbt.cell
    have hft := hbt.frozen
    have hbW : b < W.heap.size := by have := hB.size; omega
    have hcb0 := (hB.cell (p := ⟨b, 0, none⟩) hblt).trans HC0.out
    have hcb1 := (hB.cell (p := ⟨b, 1, none⟩) hblt).trans HC1.out
    have hm63 : (st.length : Int) ≤ 9223372036854775807 := by omega
    have hm64 : (1 : Int) ≤ (st.length : Int) := by omega
    have hlW : l < W.heap.size := (Array.getElem?_eq_some_iff.1 hrr).1
    clear hrr
    have hf0 : x.val = 0 → foldPS st (pre ++ [x]) = st[x] := fun hz => by simp [foldPS, List.foldl_append, hz]
    have hf1 : ¬ x.val = 0 → foldPS st (pre ++ [x]) = joinS st[x] (foldPS st pre) := fun hz => by simp [foldPS, List.foldl_append, hz]
    have hl1 : (pre ++ [x]).length = pre.length + 1 := by simp
    by_cases hz : x.val = 0
    · have he : ((st.length : Int) - 1 - (x.val : Int) == (st.length : Int) - 1) = true := by simp [hz]
      have HF := Lib.hid (hf0 hz)
      clear hz hf0 hf1
      gi_wp2
      refine ⟨(KeepsOthers.setCell _ _ _).from _, KpS.set _ (fun k hk => by rcases hk with rfl | rfl <;> omega), hbp.other (by omega) _, ?_, ?_, ?_⟩
      · rw [HF.out]; exact hbt.set _
      · rw [HF.out, hl1]; exact hB2 _ _ (List.getElem_mem _)
      · exact hB.setCell (by show n0 ≤ n0 + 1; omega) _
    · have he : ((st.length : Int) - 1 - (x.val : Int) == (st.length : Int) - 1) = false := beq_eq_false_iff_ne.2 (by omega)
      have HF := Lib.hid (hf1 hz)
      clear hz hf0 hf1
      gi_wp2
      refine wpIn_region_storeL (C := Below W.heap.size W) 7 _ rfl rfl (by kernel_rfl) (by kernel_rfl) (by kernel_rfl) (by kernel_rfl) (Below.refl _ _).drew ?_
      simp only [List.take_succ_cons, List.take_zero]
      refine wpQuietIn_go (v := ?_) (a' := ?_) rfl (fun _ => trivial) (fun w' hC => qval ?_) rfl ?_ ?_; rotate_left; rotate_left
      · have k0 := (hC.cell (p := ⟨n0, 0, none⟩) hbp.lt).trans hcp
        have k1 := (hC.cell (p := ⟨n0 + 1, 0, none⟩) hbt.lt).trans hct
        have k2 := (hC.cell (p := ⟨b, 0, none⟩) hbW).trans hcb0
        clear hC
        go_simp
        with_reducible rfl
      · simp only [Act.put, List.setIfInBounds_toArray, List.set_cons_zero, List.set_cons_succ, i64_w, i32_w]
        rfl
      refine wpQuietIn_go (v := ?_) (a' := ?_) rfl (fun _ => trivial) (fun w' hC => qval ?_) rfl ?_ ?_; rotate_left; rotate_left
      · have k0 := (hC.cell (p := ⟨n0, 0, none⟩) hbp.lt).trans hcp
        have k1 := (hC.cell (p := ⟨n0 + 1, 0, none⟩) hbt.lt).trans hct
        have k2 := (hC.cell (p := ⟨b, 0, none⟩) hbW).trans hcb0
        clear hC
        go_simp
        with_reducible rfl
      · simp only [Act.put, List.setIfInBounds_toArray, List.set_cons_zero, List.set_cons_succ, i64_w, i32_w]
        rfl
      refine wpQuietIn_go (v := ?_) (a' := ?_) rfl (fun _ => trivial) (fun w' hC => qval ?_) rfl ?_ ?_; rotate_left; rotate_left
      · have k0 := (hC.cell (p := ⟨n0, 0, none⟩) hbp.lt).trans hcp
        have k1 := (hC.cell (p := ⟨n0 + 1, 0, none⟩) hbt.lt).trans hct
        have k2 := (hC.cell (p := ⟨b, 0, none⟩) hbW).trans hcb0
        clear hC
        go_simp
        with_reducible rfl
      · simp only [Act.put, List.setIfInBounds_toArray, List.set_cons_zero, List.set_cons_succ, i64_w, i32_w]
        rfl
      refine wpQuietIn_go (v := ?_) (a' := ?_) rfl (fun _ => trivial) (fun w' hC => qval ?_) rfl ?_ ?_; rotate_left; rotate_left
      · have k0 := (hC.cell (p := ⟨n0, 0, none⟩) hbp.lt).trans hcp
        have k1 := (hC.cell (p := ⟨n0 + 1, 0, none⟩) hbt.lt).trans hct
        have k2 := (hC.cell (p := ⟨b, 0, none⟩) hbW).trans hcb0
        clear hC
        go_simp
        with_reducible rfl
      · simp only [Act.put, List.setIfInBounds_toArray, List.set_cons_zero, List.set_cons_succ, i64_w, i32_w]
        rfl
      refine wpQuietIn_go (v := ?_) (a' := ?_) rfl (fun _ => trivial) (fun w' hC => qval ?_) rfl ?_ ?_; rotate_left; rotate_left
      · have k0 := (hC.cell (p := ⟨n0, 0, none⟩) hbp.lt).trans hcp
        have k1 := (hC.cell (p := ⟨n0 + 1, 0, none⟩) hbt.lt).trans hct
        have k2 := (hC.cell (p := ⟨b, 0, none⟩) hbW).trans hcb0
        clear hC
        go_simp
        with_reducible rfl
      · simp only [Act.put, List.setIfInBounds_toArray, List.set_cons_zero, List.set_cons_succ, i64_w, i32_w]
        rfl
      refine wpQuietIn_go (v := ?_) (a' := ?_) rfl (fun _ => trivial) (fun w' hC => qval ?_) rfl ?_ ?_; rotate_left; rotate_left
      · have k0 := (hC.cell (p := ⟨n0, 0, none⟩) hbp.lt).trans hcp
        have k1 := (hC.cell (p := ⟨n0 + 1, 0, none⟩) hbt.lt).trans hct
        have k2 := (hC.cell (p := ⟨b, 0, none⟩) hbW).trans hcb0
        clear hC
        go_simp
        with_reducible rfl
      · simp only [Act.put, List.setIfInBounds_toArray, List.set_cons_zero, List.set_cons_succ, i64_w, i32_w]
        rfl
      refine wpQuietIn_go (v := Value.string (joinS st[x] (foldPS st pre))) (a' := ?_) rfl (fun _ => trivial) (fun w' hC => ?_) rfl ?_ ?_; rotate_left
      · refine qcall 22 #[.string st[x], .string (foldPS st pre)] ?_ (fun _ => by omega) (callsIn_inr l (callsIn_wide.2 ((Jc_S _ _ (hB1 _ _ _ hlt hBd (List.getElem_mem _)).1 w' ((HG.below hB).below hC)).mono fun e w'' ⟨he, hb⟩ => ⟨he, hC.trans (hb.mono hC.size)⟩)))
        go_simp
      · simp only [Act.put, List.setIfInBounds_toArray, List.set_cons_zero, List.set_cons_succ, i64_w, i32_w]
        rfl
      refine wpQuietIn_nil ?_
      intro w' hC
      have hbt' : Boxed w' (n0 + 1) 9 (.string (foldPS st pre)) := hbt.below hC
      have hbp' : Boxed w' n0 23 (.pointer (some ⟨b, 0, none⟩)) := hbp.below hC
      have k1 := hbt'.cell
      have k2 := hbt'.frozen
      refine wpIn_skip (fun _ e => by cases e) (fun _ => trivial) rfl (w1 := w'.setCell ⟨n0 + 1, 0, none⟩ (.string (joinS st[x] (foldPS st pre)))) (by go_simp) ?_
      have hKB : KpS (fun k => k = n0 + 1 + 1 ∨ k = g) W w' := KpS.of_below hC (fun k hk => by have := hB.size; rcases hk with rfl | rfl <;> omega)
      refine ⟨((KeepsOthers.of_below' hC).trans' (KeepsOthers.setCell _ _ _)).from _, KpS.t hKB (KpS.set _ (fun k hk => by rcases hk with rfl | rfl <;> omega)), hbp'.other (by omega) _, ?_, ?_, ?_⟩
      · rw [HF.out]; exact hbt'.set _
      · rw [HF.out, hl1]; exact (hB1 _ _ _ hlt hBd (List.getElem_mem _)).2
      · exact (hB.trans (hC.mono (by have := hB.size; omega))).setCell (by show n0 ≤ n0 + 1; omega) _
  case done =>
    rintro D ys W hD rfl ⟨hbp, hbt, hBd, hB⟩ hK
    rw [foldP_topS] at hbt
    have hcp := hbp.cell
    have hct := hbt.cell
    have hcb2 : W.cell? ⟨b, 2, none⟩ = some (.int .i64 n) := (hB.cell (p := ⟨b, 2, none⟩) hblt).trans (by simp [World.cell?, HR.out.blk])
    clear hBd
    gi_wp2
    gi_big_quiet (fail)
    gi_wp2
    refine ⟨by simp, .inl ⟨_, _, rfl, run_takeDeferred (w := W.drewN nq) hK, ?_⟩⟩
    exact ⟨_, results_tmp2 rfl _ _ _, rfl, hn0 ▸ (pw_below_drewN hB nq).trans (belowK_b (w := w) (Nat.le_of_eq hn0.symm) (W.drewN nq) D _ _ (by omega) hK rfl rfl)⟩
  case stop =>
    rintro D c pre W _ _ h _
    exact h.elim
end Go.Proofs.YtoeibcdnhglobaaDoor.P
