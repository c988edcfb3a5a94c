/- digest.blocks: the iterator over whole blocks of bytes. -/
import Derived.RangeFuncNested
import Derived.RangeFuncBound
import Derived.RangeFuncCalls
import Derived.RangeFuncLeaves
import Derived.Shelf.Abstract
import Derived.Shelf.RegionOpen
import Derived.WalkKit
import Derived.Lib.Hide
import Derived.OwnWalkIn
import Derived.TacticsInMore
import Derived.LoopNIn
import Derived.LoopIn
import Derived.Test.YtoeibcdnhglobaaDoorGTail
namespace Go.Proofs.YtoeibcdnhglobaaDoor.P
set_option linter.unusedVariables false
set_option linter.unusedSimpArgs false
open Go.RowKit Go.Shelf Go.Proofs.YtoeibcdnhglobaaDoorW.PrintWords Go.Proofs.YtoeibcdnhglobaaDoorW.PrintLast Go.Proofs.YtoeibcdnhglobaaDoorW.PrintMore
open Go.Proofs.YtoeibcdnhglobaaDoor.Pure
attribute [local go_sem] Oper.semAt_some

/-- The blocks of S lie as they lay. -/
def KpH (S : Nat → Prop) (W W' : World) : Prop := ∀ k, S k → k < W.heap.size → W'.heap[k]? = W.heap[k]?
theorem KpH.t {S : Nat → Prop} {A B C : World} (h : KpH S A B) (k : KpH S B C) (hz : A.heap.size ≤ B.heap.size) : KpH S A C := fun i hi hl => (k i hi (Nat.lt_of_lt_of_le hl hz)).trans (h i hi hl)
/-- The two boxes of the iterator hold what they held. -/
def KpX (Bn Bs : Nat) (W W' : World) : Prop := ∀ o, (W.heap[Bn]? = some o → W'.heap[Bn]? = some o) ∧ (W.heap[Bs]? = some o → W'.heap[Bs]? = some o)
theorem KpX.t {Bn Bs : Nat} {A B C : World} (h : KpX Bn Bs A B) (k : KpX Bn Bs B C) : KpX Bn Bs A C := fun o => ⟨fun e => (k o).1 ((h o).1 e), fun e => (k o).2 ((h o).2 e)⟩
theorem KpX.b {Bn Bs B : Nat} (hn : Bn < B) (hs : Bs < B) (W : World) (l : Nat) (o o' : Obj) (hl : B ≤ l) (_ : W.heap[l]? = some o) (_ : o.isCells = false) (_ : o.isWalk = false) : KpX Bn Bs W (W.putObj l o') :=
  fun o => ⟨fun e => (World.putObj_heap_other (by omega)).trans e, fun e => (World.putObj_heap_other (by omega)).trans e⟩
theorem KpX.of_eq {Bn Bs : Nat} {W W' : World} (h1 : W'.heap[Bn]? = W.heap[Bn]?) (h2 : W'.heap[Bs]? = W.heap[Bs]?) : KpX Bn Bs W W' := fun o => ⟨fun e => h1.trans e, fun e => h2.trans e⟩

theorem blocks_calls (A : Option Addr) (k c : Nat) (w : World) :
    Calls Tryd.prog 132 #[.slice A k c, .int .i64 64] w fun e w' => e = .returned (.func (.func 150) #[] #[.pointer (some ⟨w.heap.size, 0, none⟩), .pointer (some ⟨w.heap.size + 1, 0, none⟩)]) ∧ w' = (w.alloc (.cells #[.slice A k c] 47)).alloc (.cells #[.int .i64 64] 3) := by
  go_enter Tryd.func132, Tryd.ntmps132
  go_wp2
  go_ret
  exact ⟨rfl, rfl⟩

/-- The q-th block's slice. -/
def blkV (A : Option Addr) (c q : Nat) : Value := .slice (A.map (·.add (64 * q))) 64 (c - 64 * q)
theorem add_add (ad : Addr) (i j : Nat) : (ad.add i).add j = ad.add (i + j) := by
  unfold Addr.add
  by_cases h1 : i = 0 <;> by_cases h2 : j = 0 <;> simp [h1, h2, Nat.add_assoc]
set_option maxRecDepth 100000 in
set_option maxHeartbeats 4000000 in
theorem blocks1_in (m : Nat) (hm : 1 ≤ m) (Bn Bs : Nat) (hne : Bn ≠ Bs) (A : Option Addr) (n c nb : Nat) (hc : n ≤ c) (hn : n < 1099511627776) (hnb : nb = n / 64) (hA : 0 < n → A.isSome = true) (w0 : World) (h0n : Boxed w0 Bn 47 (.slice A n c)) (h0s : Boxed w0 Bs 3 (.int .i64 64)) :
    SeqBox Fence.wide m Tryd.prog 150 #[.pointer (some ⟨Bn, 0, none⟩), .pointer (some ⟨Bs, 0, none⟩)] (fun q : Fin nb => #[blkV A c q.val]) Bn (KpX Bn Bs) (fun ys => ys = List.finRange nb) (fun _ => True) nb w0 := by
  intro l J Jx W hW hJ hJx hY h0
  have hbn : Boxed W Bn 47 (.slice A n c) := h0n.below hW
  have hbs : Boxed W Bs 3 (.int .i64 64) := h0s.below hW
  have h00 : J ((List.finRange nb).take 0) W := by simpa using h0
  refine callsIn_of_wp Tryd.func150 rfl trivial ?_ rfl
  simp only [Tryd.ntmps150, List.size_toArray, List.length_cons, List.length_nil, Nat.reduceAdd, Nat.reduceSub, Array.replicate_succ, Array.replicate_zero, List.push_toArray, List.append_toArray, List.nil_append, List.cons_append]
  gi_wp2
  gi_loopw [] (fun wr => ∃ (q rest c2 : Nat) (A2 : Option Addr), Hid (rest = n - 64 * q ∧ c2 = c - 64 * q ∧ (64 * q < n → A2 = A.map (·.add (64 * q)))) ∧ q ≤ nb ∧ J ((List.finRange nb).take q) wr ∧ Boxed wr Bn 47 (.slice A2 rest c2) ∧ Boxed wr Bs 3 (.int .i64 64))
    (fun wr => match wr.cell? ⟨Bn, 0, none⟩ with | some (.slice _ r _) => r | _ => 0)
  case atStart => exact ⟨0, n, c, A, Lib.hid ⟨by omega, by omega, fun _ => by cases A <;> simp [Addr.add]⟩, by omega, h00, hbn, hbs⟩
  case round =>
    obtain ⟨q, rest, c2, A2, HI, hq, hJq, hbn2, hbs2⟩ := hrel
    have hcn := hbn2.cell
    have hcs := hbs2.cell
    by_cases hge : 64 ≤ rest
    · have hI := HI.out
      have hqn : q < nb := by omega
      have hA2 : A2 = A.map (·.add (64 * q)) := hI.2.2 (by omega)
      obtain ⟨fn, tmps, assign, body, hy, hR⟩ := hY _ (⟨q, hqn⟩ : Fin nb) wr hJq (by simp; omega)
      have hv : blkV A c q = .slice A2 64 c2 := by unfold blkV; rw [← hA2, ← hI.2.1]
      simp only [hv] at hy
      have hpre : (List.finRange nb).take q ++ [⟨q, hqn⟩] = (List.finRange nb).take (q + 1) := by
        rw [List.take_succ_eq_append_getElem (by simpa using hqn)]; simp
      rw [hpre] at hR
      have hd : decide ((64 : Int) ≤ (rest : Int)) = true := decide_eq_true (by omega)
      have hge' : (64 : Int) ≤ (rest : Int) := by omega
      have hgc' : (64 : Int) ≤ (c2 : Int) := by omega
      have hge3 : 64 ≤ c2 := by omega
      obtain ⟨A3, hA3⟩ : ∃ A3, (if c2 = 64 then A2 else A2.map (·.add 64)) = A3 := ⟨_, rfl⟩
      have hnext : 64 * (q + 1) < n → A3 = A.map (·.add (64 * (q + 1))) := fun h => by
        rw [← hA3, if_neg (by omega), hA2]
        cases A with
        | none => rfl
        | some ad => simp [add_add, Nat.mul_add]
      have HNx := Lib.hid hnext
      have HA3 := Lib.hid hA3
      have HA2 := Lib.hid hA2
      have HBN := Lib.hid hbn2
      have HBS := Lib.hid hbs2
      clear hI hqn hA2 hv hpre hJq hbn hbs h00 h0n h0s hY hA3 hnext h0 hbn2 hbs2
      gi_wp2
      refine hR.mono ?_
      rintro e W3 (⟨rfl, hJ3, hk3⟩ | ⟨rfl, hJx3⟩)
      · have hbn3 : Boxed W3 Bn 47 (.slice A2 rest c2) := (hk3 _).1 HBN.out
        have hbs3 : Boxed W3 Bs 3 (.int .i64 64) := (hk3 _).2 HBS.out
        have hcn3 := hbn3.cell
        have hcs3 := hbs3.cell
        have hfn3 := hbn3.frozen
        have HCN := Lib.hid hcn
        clear hcn hcs hk3
        gi_wp2
        have hA3 := HA3.out
        subst hA3
        refine ⟨⟨q + 1, rest - 64, c2 - 64, _, Lib.hid ⟨?_, ?_, HNx.out⟩, ?_, hJ _ W3 _ hJ3 (Touch.set W3 ⟨Bn, 0, none⟩ _ rfl), hbn3.set _, hbs3.other hne.symm _⟩, ?_⟩
        · have := HI.out; omega
        · have := HI.out; omega
        · have := HI.out; omega
        · rw [(hbn3.set _).cell, HCN.out]
          simp only []
          omega
      · gi_wp2
        refine bodyPost_ret (results_none rfl _ _ _) rfl ?_
        exact ⟨⟨_, rfl⟩, .inr ⟨_, trivial, hJx3⟩⟩
    · have hd : decide ((64 : Int) ≤ (rest : Int)) = false := decide_eq_false (by omega)
      have hq1 : q = nb := by have := HI.out; omega
      have hJe : J (List.finRange nb) wr := by
        have := hJq
        rwa [List.take_of_length_le (by simp; omega)] at this
      clear hY h00 hJq
      gi_wp2
      go_end0
      exact ⟨⟨_, rfl⟩, .inl ⟨_, rfl, hJe⟩⟩
end Go.Proofs.YtoeibcdnhglobaaDoor.P
