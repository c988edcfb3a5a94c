/- What a range of peaks lies like in memory; the steps that touch it. -/
import Derived.Test.YtoeibcdnhglobaaDoorGWords
import Derived.Test.YtoeibcdnhglobaaDoorGTz
import Derived.WalkSmall
import Derived.Laws.Bits64
namespace Go.Proofs.YtoeibcdnhglobaaDoor.P
set_option linter.unusedVariables false
set_option linter.unusedSimpArgs false
open Go.RowKit Go.Proofs.YtoeibcdnhglobaaDoorW.PrintWords Go.Proofs.YtoeibcdnhglobaaDoorW.PrintLast Go.Proofs.YtoeibcdnhglobaaDoorW.PrintMore
open Go.Proofs.YtoeibcdnhglobaaDoor.Pure

/-- Only blocks of S, and new ones, have turned. -/
structure Touch (S : Nat → Prop) (w w' : World) : Prop where
  os : w'.os = w.os
  tape : w'.tape = w.tape
  output : w'.output = w.output
  size : w.heap.size ≤ w'.heap.size
  block : ∀ k, k < w.heap.size → ¬ S k → w'.heap[k]? = w.heap[k]?
theorem Touch.refl (S : Nat → Prop) (w : World) : Touch S w w := ⟨rfl, rfl, rfl, Nat.le_refl _, fun _ _ _ => rfl⟩
theorem Touch.trans {S S2 : Nat → Prop} {a b c : World} (h : Touch S a b) (k : Touch S2 b c) (hs : ∀ i, S2 i → S i ∨ a.heap.size ≤ i) : Touch S a c :=
  ⟨k.os.trans h.os, k.tape.trans h.tape, k.output.trans h.output, Nat.le_trans h.size k.size, fun i hi hn => (k.block i (Nat.lt_of_lt_of_le hi h.size) (fun e => by rcases hs i e with e | e; exact hn e; omega)).trans (h.block i hi hn)⟩
theorem Touch.mono {S S2 : Nat → Prop} {a b : World} (h : Touch S a b) (hs : ∀ i, S i → S2 i) : Touch S2 a b := ⟨h.os, h.tape, h.output, h.size, fun i hi hn => h.block i hi (fun e => hn (hs i e))⟩
theorem Touch.of_below {S : Nat → Prop} {a b : World} (h : Below a.heap.size a b) : Touch S a b := ⟨h.os, h.tape, h.output, h.size, fun i hi _ => h.block i hi⟩
theorem Touch.below {S : Nat → Prop} {a b c : World} (h : Touch S a b) (k : Below b.heap.size b c) : Touch S a c := h.trans (Touch.of_below (S := fun _ => False) k) (fun _ e => e.elim)
theorem Touch.set {S : Nat → Prop} (a : World) (p : Addr) (u : Value) (hp : S p.block) : Touch S a (a.setCell p u) := ⟨rfl, rfl, rfl, by simp [World.setCell], fun i _ hn => Below.heap_setCell _ _ _ _ (fun e => hn (e ▸ hp))⟩
theorem Touch.grown {S : Nat → Prop} {a b : World} {row : Option Nat} (hg : a.grownBy b row) (hr : ∀ k, row = some k → S k) : Touch S a b := ⟨hg.os, hg.tape, hg.output, hg.size, fun i hi hn => hg.block i hi (fun e => hn (hr i e.symm))⟩
theorem Touch.to_below {S : Nat → Prop} {a b : World} {B : Nat} (h : Touch S a b) (hB : B ≤ a.heap.size) (hs : ∀ i, S i → B ≤ i) : Below B a b := ⟨h.os, h.tape, h.output, h.size, fun i hi => h.block i (by omega) (fun e => by have := hs i e; omega)⟩
theorem Touch.drewN {S : Nat → Prop} {a b : World} (h : Touch S a b) (q : Nat) : Touch S a (b.drewN q) := ⟨h.os, h.tape, h.output, h.size, h.block⟩
theorem Touch.drew {S : Nat → Prop} {a b : World} (h : Touch S a b) : Touch S a b.drew := ⟨h.os, h.tape, h.output, h.size, h.block⟩
theorem Touch.blk {S : Nat → Prop} {a b : World} (h : Touch S a b) {i : Nat} {o : Obj} (ho : a.heap[i]? = some o) (hn : ¬ S i) : b.heap[i]? = some o := (h.block i (Array.getElem?_eq_some_iff.1 ho).1 hn).trans ho

/-- What a row that is owned looks like stays, where its block stays. -/
theorem own_blk {w w' : World} {base : Nat} {e : TypeId} {size : Nat} {v : Value} {n : Nat} {xs : List Value} (h : w.ownsRow base e size v n xs) (hb : ∀ g, v.ownBlock = some g → w'.heap[g]? = w.heap[g]?) : w'.ownsRow base e size v n xs := by
  refine ⟨h.1, ?_⟩
  rcases h.2 with h0 | ⟨g, cap, cur, rfl, h1, h2, h3⟩
  · exact .inl h0
  · exact .inr ⟨g, cap, cur, rfl, h1, (hb g rfl).trans h2, h3⟩
theorem own_ne {w : World} {base : Nat} {e : TypeId} {size : Nat} {v : Value} {n : Nat} {xs : List Value} (h : w.ownsRow base e size v n xs) {b : Nat} {cs : Array Value} {t : TypeId} {fr : Nat × Nat} (hb : w.heap[b]? = some (.cells cs t fr)) (ht : t ≠ e) : v.ownBlock ≠ some b := by
  rcases h.2 with ⟨rfl, _⟩ | ⟨g, cap, cur, rfl, h1, h2, h3⟩
  · intro e'; cases e'
  · intro e'
    cases e'
    rw [hb] at h2
    cases h2
    exact ht rfl
theorem bits_not (n : Nat) (h : n < 18446744073709551616) : bits .xor .u64 IntKind.u64.max n = ((18446744073709551615 - n : Nat) : Int) := by
  rw [show IntKind.u64.max = ((18446744073709551615 : Nat) : Int) by decide, bits_xor_u64_nat _ _ (by omega) h]
  congr 1
  apply Nat.eq_of_testBit_eq
  intro i
  rw [Nat.testBit_xor, show 18446744073709551615 - n = 2 ^ 64 - (n + 1) by omega, Nat.testBit_two_pow_sub_succ (by omega), show (18446744073709551615 : Nat) = 2 ^ 64 - 1 from rfl, Nat.testBit_two_pow_sub_one]
  by_cases c : i < 64
  · simp [c]
  · simp [c]; exact Nat.testBit_lt_two_pow (Nat.lt_of_lt_of_le h (Nat.pow_le_pow_right (n := 2) (by decide) (Nat.le_of_not_lt c)))
theorem tz_not (n : Nat) (h : n < 9223372036854775808) (w : World) (hT : TzTab w) :
    Calls Tryd.prog 80 #[.int .u64 (bits .xor .u64 IntKind.u64.max n)] w fun e w' => e = .returned (.int .i64 (tn 64 n : Nat)) ∧ w' = w := by
  rw [bits_not n (by omega), ← ctz_tn n h]
  exact tz_calls _ (by omega) w hT
/-- The joins of a merge, each one allowed. -/
def mergeOk {α : Type} (ok : α → α → Prop) (J : α → α → α) : Nat → α → List α → Prop
  | 0, _, _ => True
  | _ + 1, _, [] => True
  | t + 1, h, p :: st => ok p h ∧ mergeOk ok J t (J p h) st
end Go.Proofs.YtoeibcdnhglobaaDoor.P
