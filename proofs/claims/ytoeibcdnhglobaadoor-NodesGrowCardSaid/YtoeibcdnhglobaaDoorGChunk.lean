/- slices.Chunk: the iterators over a row's parts, in order. -/
import Derived.RangeFuncNested
import Derived.RangeFuncBound
import Derived.RangeFuncCalls
import Derived.RangeFuncLeaves
import Derived.RangeFuncBox
import Derived.Shelf.Abstract
import Derived.Shelf.RegionOpen
import Derived.WalkKit
import Derived.Lib.Hide
import Derived.OwnWalkIn
import Derived.TacticsInMore
import Derived.LoopNIn
import Derived.LoopIn
import Derived.Test.YtoeibcdnhglobaaDoorE3
namespace Go.Proofs.YtoeibcdnhglobaaDoor.P
set_option linter.unusedVariables false
set_option linter.unusedSimpArgs false
open Go.RowKit Go.Shelf Go.Proofs.YtoeibcdnhglobaaDoorW.PrintWords Go.Proofs.YtoeibcdnhglobaaDoorW.PrintLast Go.Proofs.YtoeibcdnhglobaaDoorW.PrintMore
open Go.Proofs.YtoeibcdnhglobaaDoor.Pure
attribute [local go_sem] Oper.semAt_some
attribute [local go_sem] min2_int min_two

/-- A part of a row, as a slice. -/
def partV (ad : Addr) (L k q : Nat) : Value := .slice (some (ad.add (q * k))) (min k (L - q * k)) (min k (L - q * k))
set_option maxRecDepth 100000 in
set_option maxHeartbeats 2000000 in
theorem chunk1_B (m : Nat) (hm : 1 ≤ m) (l Bs Bn : Nat) (ad : Addr) (L c k N : Nat) (hk : 1 ≤ k) (hk2 : k < 1099511627776) (hL : L < 1099511627776) (hc : L ≤ c) (hN : ∀ q, q * k < L ↔ q < N)
    (J Jx : List (Fin N) → World → Prop) (W : World) (hJ : ∀ s A B, J s A → Below A.heap.size A B → J s B)
    (hbs : W.cell? ⟨Bs, 0, none⟩ = some (.slice (some ad) L c)) (hbn : W.cell? ⟨Bn, 0, none⟩ = some (.int .i64 k))
    (hY : ∀ pre x W, J pre W → pre.length < N → YieldAt Fence.wide (m - 1) Tryd.prog l #[partV ad L k x.val] W fun e W' =>
      (e = .returned (.bool true) ∧ J (pre ++ [x]) W' ∧ KpS (fun b => b = Bs ∨ b = Bn) W W') ∨ (e = .returned (.bool false) ∧ Jx (pre ++ [x]) W'))
    (h0 : J [] W) :
    CallsIn Fence.wide m Tryd.prog 117 #[.func (.yield l) #[] #[], .pointer (some ⟨Bs, 0, none⟩), .pointer (some ⟨Bn, 0, none⟩)] W fun e W' => (∃ v, e = .returned v) ∧
      ((∃ ys, ys = List.finRange N ∧ J ys W') ∨ (∃ pre, True ∧ Jx pre W')) := by
  have h00 : J ((List.finRange N).take 0) W := by simpa using h0
  have hk0 : KpS (fun b => b = Bs ∨ b = Bn) W W := fun _ _ _ h => h
  refine callsIn_of_wp Tryd.func117 rfl trivial ?_ rfl
  simp only [Tryd.ntmps117, List.size_toArray, List.length_cons, List.length_nil, Nat.reduceAdd, Nat.reduceSub, Array.replicate_succ, Array.replicate_zero, List.push_toArray, List.append_toArray, List.nil_append, List.cons_append]
  have HNN := Lib.hid hN
  clear hN h0
  gi_wp2
  gi_loopw [4, 5] (fun v4 v5 wr => ∃ (q i : Nat), v4 = .int .i64 i ∧ Hid (i = q * k) ∧ q ≤ N ∧ J ((List.finRange N).take q) wr ∧ KpS (fun b => b = Bs ∨ b = Bn) W wr)
    (fun v4 _ _ => (L - (intOf v4).toNat))
  case atStart => exact ⟨0, 0, rfl, Lib.hid (by omega), by omega, h00, hk0⟩
  case round =>
    obtain ⟨q, i, rfl, HI, hq, hJq, hKq⟩ := hrel
    have hbsr := hKq _ _ (.inl rfl) hbs
    have hbnr := hKq _ _ (.inr rfl) hbn
    by_cases hlt : i < L
    · have hqN : q < N := (HNN.out q).1 (by rw [← HI.out]; exact hlt)
      have hiI : (i : Int) < (L : Int) := by omega
      have hd : decide ((i : Int) < (L : Int)) = true := decide_eq_true hiI
      have hic : i < c := by omega
      have hne : ¬ (c = i) := by omega
      have hiL : (i : Int) ≤ (L : Int) := by omega
      have hyq := fun nq => hY _ (⟨q, hqN⟩ : Fin N) (wr.drewN nq) (hJ _ _ _ hJq (pw_below_drewN (Below.refl _ _) nq)) (by simp; omega)
      have hkq : ∀ nq, KpS (fun b => b = Bs ∨ b = Bn) W (wr.drewN nq) := fun nq p v hp hv => hKq p v hp hv
      have hI2 : (q + 1) * k = q * k + k := Nat.succ_mul q k
      have hJq' : (List.finRange N).take q ++ [⟨q, hqN⟩] = (List.finRange N).take (q + 1) := by
        rw [List.take_succ_eq_append_getElem (by simpa using hqN)]; simp
      have hI3 := HI.out
      have HI2 : Hid (i + k = (q + 1) * k) := Lib.hid (by rw [hI2, ← hI3])
      simp only [partV, ← hI3, hJq'] at hyq
      clear hI2 hI3 hY hJ h00 hk0 hJq hJq' hKq
      rcases Nat.lt_or_ge (L - i) k with hmin | hmin
      · have hmi : ((L - i : Nat) : Int) < (k : Int) := by omega
        have hm1 : ((i : Int) + ((L - i : Nat) : Int)).toNat - i = L - i := by omega
        have hm2 : min k (L - i) = L - i := by omega
        rw [hm2] at hyq
        clear hm2
        gi_wp2
        gi_big_quiet (fail)
        obtain ⟨fn, tmps, assign, body, hy, hR⟩ := hyq nq
        have hkw := hkq nq
        clear hyq hkq
        gi_wp2
        refine hR.mono ?_
        rintro e W3 (⟨rfl, hJ3, hk3⟩ | ⟨rfl, hJx3⟩)
        · have hkn := (hk3 _ _ (.inr rfl) (hkw _ _ (.inr rfl) hbn))
          gi_wp2
          go_roundw
          case rel => exact ⟨q + 1, i + k, by go_num, HI2, by omega, hJ3, fun p v hp hv => hk3 p v hp (hkw p v hp hv)⟩
          case measure => simp only [intOf]; omega
        · gi_wp2
          refine bodyPost_ret (results_none rfl _ _ _) rfl ?_
          exact ⟨⟨_, rfl⟩, .inr ⟨_, trivial, hJx3⟩⟩
      · have hmi : (k : Int) ≤ ((L - i : Nat) : Int) := by omega
        have hm1 : ((i : Int) + (k : Int)).toNat - i = k := by omega
        have hm2 : min k (L - i) = k := by omega
        rw [hm2] at hyq
        clear hm2
        gi_wp2
        gi_big_quiet (fail)
        obtain ⟨fn, tmps, assign, body, hy, hR⟩ := hyq nq
        have hkw := hkq nq
        clear hyq hkq
        gi_wp2
        refine hR.mono ?_
        rintro e W3 (⟨rfl, hJ3, hk3⟩ | ⟨rfl, hJx3⟩)
        · have hkn := (hk3 _ _ (.inr rfl) (hkw _ _ (.inr rfl) hbn))
          gi_wp2
          go_roundw
          case rel => exact ⟨q + 1, i + k, by go_num, HI2, by omega, hJ3, fun p v hp hv => hk3 p v hp (hkw p v hp hv)⟩
          case measure => simp only [intOf]; omega
        · gi_wp2
          refine bodyPost_ret (results_none rfl _ _ _) rfl ?_
          exact ⟨⟨_, rfl⟩, .inr ⟨_, trivial, hJx3⟩⟩
    · have hd : decide ((i : Int) < (L : Int)) = false := decide_eq_false (by omega)
      have hqN : q = N := by
        have h1 := (HNN.out q).2
        have h2 := HI.out
        rcases Nat.lt_or_ge q N with c | c
        · have := h1 c; omega
        · omega
      have hJe : J (List.finRange N) wr := by
        have := hJq
        rwa [List.take_of_length_le (by simp; omega)] at this
      clear hY hJ h00 hk0 hJq hKq
      gi_wp2
      go_end0
      exact ⟨⟨_, rfl⟩, .inl ⟨_, rfl, hJe⟩⟩
theorem Chunk_in_B {m : Nat} (A : Option Addr) (n c k : Nat) (hk : 1 ≤ k) (w : World) :
    CallsIn Fence.wide m Tryd.prog 88 #[.slice A n c, .int .i64 k] w fun e w' => e = .returned (.func (.func 117) #[] #[.pointer (some ⟨w.heap.size, 0, none⟩), .pointer (some ⟨w.heap.size + 1, 0, none⟩)]) ∧
      w' = (w.alloc (.cells #[.slice A n c] 47)).alloc (.cells #[.int .i64 k] 3) := by
  have hkI : (1 : Int) ≤ (k : Int) := by omega
  refine callsIn_of_wp Tryd.func88 rfl trivial ?_ rfl
  simp only [Tryd.ntmps88, List.size_toArray, List.length_cons, List.length_nil, Nat.reduceAdd, Nat.reduceSub, Array.replicate_succ, Array.replicate_zero, List.push_toArray, List.append_toArray, List.nil_append, List.cons_append]
  gi_wp2
  go_ret
  exact ⟨rfl, rfl⟩
set_option maxRecDepth 100000 in
set_option maxHeartbeats 2000000 in
theorem chunk1_S (m : Nat) (hm : 1 ≤ m) (l Bs Bn : Nat) (ad : Addr) (L c k N : Nat) (hk : 1 ≤ k) (hk2 : k < 1099511627776) (hL : L < 1099511627776) (hc : L ≤ c) (hN : ∀ q, q * k < L ↔ q < N)
    (J Jx : List (Fin N) → World → Prop) (W : World) (hJ : ∀ s A B, J s A → Below A.heap.size A B → J s B)
    (hbs : W.cell? ⟨Bs, 0, none⟩ = some (.slice (some ad) L c)) (hbn : W.cell? ⟨Bn, 0, none⟩ = some (.int .i64 k))
    (hY : ∀ pre x W, J pre W → pre.length < N → YieldAt Fence.wide (m - 1) Tryd.prog l #[partV ad L k x.val] W fun e W' =>
      (e = .returned (.bool true) ∧ J (pre ++ [x]) W' ∧ KpS (fun b => b = Bs ∨ b = Bn) W W') ∨ (e = .returned (.bool false) ∧ Jx (pre ++ [x]) W'))
    (h0 : J [] W) :
    CallsIn Fence.wide m Tryd.prog 120 #[.func (.yield l) #[] #[], .pointer (some ⟨Bs, 0, none⟩), .pointer (some ⟨Bn, 0, none⟩)] W fun e W' => (∃ v, e = .returned v) ∧
      ((∃ ys, ys = List.finRange N ∧ J ys W') ∨ (∃ pre, True ∧ Jx pre W')) := by
  have h00 : J ((List.finRange N).take 0) W := by simpa using h0
  have hk0 : KpS (fun b => b = Bs ∨ b = Bn) W W := fun _ _ _ h => h
  refine callsIn_of_wp Tryd.func120 rfl trivial ?_ rfl
  simp only [Tryd.ntmps120, List.size_toArray, List.length_cons, List.length_nil, Nat.reduceAdd, Nat.reduceSub, Array.replicate_succ, Array.replicate_zero, List.push_toArray, List.append_toArray, List.nil_append, List.cons_append]
  have HNN := Lib.hid hN
  clear hN h0
  gi_wp2
  gi_loopw [4, 5] (fun v4 v5 wr => ∃ (q i : Nat), v4 = .int .i64 i ∧ Hid (i = q * k) ∧ q ≤ N ∧ J ((List.finRange N).take q) wr ∧ KpS (fun b => b = Bs ∨ b = Bn) W wr)
    (fun v4 _ _ => (L - (intOf v4).toNat))
  case atStart => exact ⟨0, 0, rfl, Lib.hid (by omega), by omega, h00, hk0⟩
  case round =>
    obtain ⟨q, i, rfl, HI, hq, hJq, hKq⟩ := hrel
    have hbsr := hKq _ _ (.inl rfl) hbs
    have hbnr := hKq _ _ (.inr rfl) hbn
    by_cases hlt : i < L
    · have hqN : q < N := (HNN.out q).1 (by rw [← HI.out]; exact hlt)
      have hiI : (i : Int) < (L : Int) := by omega
      have hd : decide ((i : Int) < (L : Int)) = true := decide_eq_true hiI
      have hic : i < c := by omega
      have hne : ¬ (c = i) := by omega
      have hiL : (i : Int) ≤ (L : Int) := by omega
      have hyq := fun nq => hY _ (⟨q, hqN⟩ : Fin N) (wr.drewN nq) (hJ _ _ _ hJq (pw_below_drewN (Below.refl _ _) nq)) (by simp; omega)
      have hkq : ∀ nq, KpS (fun b => b = Bs ∨ b = Bn) W (wr.drewN nq) := fun nq p v hp hv => hKq p v hp hv
      have hI2 : (q + 1) * k = q * k + k := Nat.succ_mul q k
      have hJq' : (List.finRange N).take q ++ [⟨q, hqN⟩] = (List.finRange N).take (q + 1) := by
        rw [List.take_succ_eq_append_getElem (by simpa using hqN)]; simp
      have hI3 := HI.out
      have HI2 : Hid (i + k = (q + 1) * k) := Lib.hid (by rw [hI2, ← hI3])
      simp only [partV, ← hI3, hJq'] at hyq
      clear hI2 hI3 hY hJ h00 hk0 hJq hJq' hKq
      rcases Nat.lt_or_ge (L - i) k with hmin | hmin
      · have hmi : ((L - i : Nat) : Int) < (k : Int) := by omega
        have hm1 : ((i : Int) + ((L - i : Nat) : Int)).toNat - i = L - i := by omega
        have hm2 : min k (L - i) = L - i := by omega
        rw [hm2] at hyq
        clear hm2
        gi_wp2
        gi_big_quiet (fail)
        obtain ⟨fn, tmps, assign, body, hy, hR⟩ := hyq nq
        have hkw := hkq nq
        clear hyq hkq
        gi_wp2
        refine hR.mono ?_
        rintro e W3 (⟨rfl, hJ3, hk3⟩ | ⟨rfl, hJx3⟩)
        · have hkn := (hk3 _ _ (.inr rfl) (hkw _ _ (.inr rfl) hbn))
          gi_wp2
          go_roundw
          case rel => exact ⟨q + 1, i + k, by go_num, HI2, by omega, hJ3, fun p v hp hv => hk3 p v hp (hkw p v hp hv)⟩
          case measure => simp only [intOf]; omega
        · gi_wp2
          refine bodyPost_ret (results_none rfl _ _ _) rfl ?_
          exact ⟨⟨_, rfl⟩, .inr ⟨_, trivial, hJx3⟩⟩
      · have hmi : (k : Int) ≤ ((L - i : Nat) : Int) := by omega
        have hm1 : ((i : Int) + (k : Int)).toNat - i = k := by omega
        have hm2 : min k (L - i) = k := by omega
        rw [hm2] at hyq
        clear hm2
        gi_wp2
        gi_big_quiet (fail)
        obtain ⟨fn, tmps, assign, body, hy, hR⟩ := hyq nq
        have hkw := hkq nq
        clear hyq hkq
        gi_wp2
        refine hR.mono ?_
        rintro e W3 (⟨rfl, hJ3, hk3⟩ | ⟨rfl, hJx3⟩)
        · have hkn := (hk3 _ _ (.inr rfl) (hkw _ _ (.inr rfl) hbn))
          gi_wp2
          go_roundw
          case rel => exact ⟨q + 1, i + k, by go_num, HI2, by omega, hJ3, fun p v hp hv => hk3 p v hp (hkw p v hp hv)⟩
          case measure => simp only [intOf]; omega
        · gi_wp2
          refine bodyPost_ret (results_none rfl _ _ _) rfl ?_
          exact ⟨⟨_, rfl⟩, .inr ⟨_, trivial, hJx3⟩⟩
    · have hd : decide ((i : Int) < (L : Int)) = false := decide_eq_false (by omega)
      have hqN : q = N := by
        have h1 := (HNN.out q).2
        have h2 := HI.out
        rcases Nat.lt_or_ge q N with c | c
        · have := h1 c; omega
        · omega
      have hJe : J (List.finRange N) wr := by
        have := hJq
        rwa [List.take_of_length_le (by simp; omega)] at this
      clear hY hJ h00 hk0 hJq hKq
      gi_wp2
      go_end0
      exact ⟨⟨_, rfl⟩, .inl ⟨_, rfl, hJe⟩⟩
theorem Chunk_in_S {m : Nat} (A : Option Addr) (n c k : Nat) (hk : 1 ≤ k) (w : World) :
    CallsIn Fence.wide m Tryd.prog 90 #[.slice A n c, .int .i64 k] w fun e w' => e = .returned (.func (.func 120) #[] #[.pointer (some ⟨w.heap.size, 0, none⟩), .pointer (some ⟨w.heap.size + 1, 0, none⟩)]) ∧
      w' = (w.alloc (.cells #[.slice A n c] 22)).alloc (.cells #[.int .i64 k] 3) := by
  have hkI : (1 : Int) ≤ (k : Int) := by omega
  refine callsIn_of_wp Tryd.func90 rfl trivial ?_ rfl
  simp only [Tryd.ntmps90, List.size_toArray, List.length_cons, List.length_nil, Nat.reduceAdd, Nat.reduceSub, Array.replicate_succ, Array.replicate_zero, List.push_toArray, List.append_toArray, List.nil_append, List.cons_append]
  gi_wp2
  go_ret
  exact ⟨rfl, rfl⟩
end Go.Proofs.YtoeibcdnhglobaaDoor.P
