/- A region that draws its order, all of whose operations and callees give the same value and keep the same word of the world, whatever the order. -/
import Derived.Test.YtoeibcdnhglobaaDoorGRefA
import Derived.Test.YtoeibcdnhglobaaDoorGRoundT
namespace Go.Proofs.YtoeibcdnhglobaaDoor
set_option linter.unusedVariables false
set_option linter.unusedSimpArgs false
open Go Go.RowKit
section
variable {F : Fence} {n : Nat} {P : Program} {C : World → Prop}
theorem wpIn_region_quietC {id : Nat} {Q : Exit → Act → World → Prop} {a : Act} {w : World} {l : List Oper} (hnd : noDefer l = true) (hm : P.follows .mixedOrders = true) (hB : Region.lexB .any l.toArray = true) (hC : C w.drew)
    (h : wpQuietIn F n P l.toArray C (fun a' => ∀ w', C w' → Q .normal a' w') l a) : (Code.region id l.toArray true).wpIn F n P Q a w := by
  simp only [Region.lexB, Bool.and_eq_true] at hB
  refine wpIn_region_any hm (wpAnyIn_of_quiet' (C := C) (Q := fun a' => ∀ w', C w' → Q .normal a' w') (fun i o hi c => noDefer_at (i := i) hnd (by simpa using hi) c) (fun _ w' hw' h => h w' hw') _ _ _ _ hC ?_)
  have := wpAnyQIn_lex (F := F) (n := n) (C := C) (md := .any) hB.1 l 0 (Array.replicate l.toArray.size false) a (by simp) (by simpa using hB.2) h
  simpa using this
/-- Over the wide fence: 'Below' is kept. -/
theorem wp_region_below {id : Nat} {Q : Exit → Act → World → Prop} {a : Act} {w : World} {l : List Oper} (hnd : noDefer l = true) (hm : P.follows .mixedOrders = true) (hB : Region.lexB .any l.toArray = true)
    (h : wpQuietIn Fence.wide 0 P l.toArray (Below w.heap.size w) (fun a' => ∀ w', Below w.heap.size w w' → Q .normal a' w') l a) : (Code.region id l.toArray true).wp P Q a w :=
  (wpIn_wide (n := 0)).1 (wpIn_region_quietC hnd hm hB (Below.refl _ _).drew h)
/-- The same over an elder world. -/
theorem wp_region_base {W0 : World} {id : Nat} {Q : Exit → Act → World → Prop} {a : Act} {w : World} {l : List Oper} (hW : Below W0.heap.size W0 w) (hnd : noDefer l = true) (hm : P.follows .mixedOrders = true) (hB : Region.lexB .any l.toArray = true)
    (h : wpQuietIn Fence.wide 0 P l.toArray (Below W0.heap.size W0) (fun a' => ∀ w', Below W0.heap.size W0 w' → Q .normal a' w') l a) : (Code.region id l.toArray true).wp P Q a w :=
  (wpIn_wide (n := 0)).1 (wpIn_region_quietC hnd hm hB hW.drew h)
/-- .. with a last store. -/
theorem wp_region_baseS {W0 : World} {id : Nat} {Q : Exit → Act → World → Prop} {a : Act} {w : World} {L : List Oper} (hW : Below W0.heap.size W0 w) (k : Nat) (o : Oper) (hL : L.length = k + 1) (ho : L[k]? = some o) (hnd : noDefer (L.take k) = true) (hm : P.follows .mixedOrders = true) (hB : Region.lexB .any (L.take k).toArray = true)
    (hS : storeT .any (L.take k) o = true)
    (h : wpQuietIn Fence.wide 0 P (L.take k).toArray (Below W0.heap.size W0) (fun a' => ∀ w', Below W0.heap.size W0 w' → o.wpIn Fence.wide 0 P a' w' (fun a'' w'' => Q .normal a'' w'') Q) (L.take k) a) : (Code.region id L.toArray true).wp P Q a w :=
  (wpIn_wide (n := 0)).1 (wpIn_region_storeTL k o hL ho hnd hm hB hS hW.drew h)
theorem bcell {W W' : World} (h : Below W.heap.size W W') : ∀ b o, b < W.heap.size → W'.cell? ⟨b, o, none⟩ = W.cell? ⟨b, o, none⟩ := fun b o hb => h.cell (p := ⟨b, o, none⟩) hb
theorem bqcall {P : Program} {W : World} {o : Oper} {a : Act} {v : Value} {w' : World} (f : FuncId) (args : Array Value) (h : (execOp a.eval o).run P w' = .ok (.enter f args) w') (hC : Below W.heap.size W w')
    (hc : Calls P f args w' fun e w'' => e = .returned v ∧ Below w'.heap.size w' w'') : o.quietAtIn Fence.wide 0 P a (Below W.heap.size W) w' v :=
  qcall f args h (fun e => by cases e) ((callsIn_wide (n := 0 - 1)).2 (hc.mono fun e w'' ⟨he, hb⟩ => ⟨he, hC.trans (hb.mono hC.size)⟩))
end
end Go.Proofs.YtoeibcdnhglobaaDoor
