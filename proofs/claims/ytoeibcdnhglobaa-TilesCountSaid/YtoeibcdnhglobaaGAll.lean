/- tiles.All: the contract. -/
import Derived.Test.YtoeibcdnhglobaaGIter
namespace Go.Proofs.Ytoeibcdnhglobaa.P
set_option linter.unusedVariables false
set_option linter.unusedSimpArgs false
open Go.RowKit Go.Shelf Go.Proofs.YtoeibcdnhglobaaW.PrintWords Go.Proofs.YtoeibcdnhglobaaW.PrintLast Go.Proofs.YtoeibcdnhglobaaW.PrintMore
attribute [local go_sem] Oper.semAt_some

theorem all_stops (m : Nat) (hm : 1 ≤ m) (Bn : Nat) (n : Int) (w : World) (hBn : Bn < w.heap.size) (hc : w.cell? ⟨Bn, 0, none⟩ = some (.int .i64 n)) :
    SeqStopsK Fence.wide m Try.prog 23 #[.pointer (some ⟨Bn, 0, none⟩)] (fun x : S30 => #[encT x]) (KpC Bn) (fun ys => ys = tilesT n) (fun pre => pre <+: tilesT n) (tilesT n).length w := fun l J Jx W hW hJ _ hY h0 => by
  have hc' : W.cell? ⟨Bn, 0, none⟩ = some (.int .i64 n) := (hW.cell (p := ⟨Bn, 0, none⟩) hBn).trans hc
  exact all1_in m hm l Bn n J Jx (fun s A B hs hb => hJ s A B none hs (grown_of_below hb none) (fun r e => by cases e)) hY W hc' h0

set_option maxHeartbeats 1000000 in
theorem all_in {m : Nat} (n : Int) (w : World) :
    CallsIn Fence.wide m Try.prog 19 #[.int .i64 n] w fun e w' => e = .returned (.func (.func 23) #[] #[.pointer (some ⟨w.heap.size, 0, none⟩)]) ∧ w' = w.alloc (.cells #[.int .i64 n] 3) := by
  refine callsIn_of_wp Try.func19 rfl trivial ?_ rfl
  simp only [Try.ntmps19, List.size_toArray, List.length_cons, List.length_nil, Nat.reduceAdd, Nat.reduceSub, Array.replicate_succ, Array.replicate_zero, List.push_toArray, List.append_toArray, List.nil_append, List.cons_append]
  gi_wp2
  go_ret
  exact ⟨rfl, rfl⟩

def cellsT (x : S30) : List Value := [.int .i64 x.f0, .int .i64 x.f1, .int .i64 x.f2]
/-- A loop variable of a tile's type: its block. -/
def BoxT (W : World) (B : Nat) (x : S30) : Prop := W.heap[B]? = some (.cells #[.int .i64 x.f0, .int .i64 x.f1, .int .i64 x.f2] 30 (0, 0))
theorem BoxT.cells {W : World} {B : Nat} {x : S30} (h : BoxT W B x) : W.cell? ⟨B, 0, none⟩ = some (.int .i64 x.f0) ∧ W.cell? ⟨B, 1, none⟩ = some (.int .i64 x.f1) ∧ W.cell? ⟨B, 2, none⟩ = some (.int .i64 x.f2) := by
  simp [World.cell?, show W.heap[B]? = _ from h]
theorem boxT_own (B : Nat) (x : S30) : Own (fun (_ : Unit) W => BoxT W B x) := fun _ X Y row hs hg hrow => by
  have hlt : B < X.heap.size := (Array.getElem?_eq_some_iff.1 hs).1
  refine (hg.block B hlt (fun e' => ?_)).trans hs
  obtain ⟨o, ho, hc⟩ := hrow B e'.symm
  rw [show X.heap[B]? = _ from hs] at ho; cases ho; cases hc

set_option maxRecDepth 100000 in
set_option maxHeartbeats 4000000 in
theorem appendSeq_in (m : Nat) (hm : 4 ≤ m) (Bn : Nat) (n : Int) (w : World) (hBn : Bn < w.heap.size) (hc : w.cell? ⟨Bn, 0, none⟩ = some (.int .i64 n)) :
    CallsIn Fence.wide m Try.prog 22 #[.slice none 0 0, .func (.func 23) #[] #[.pointer (some ⟨Bn, 0, none⟩)]] w fun e W' => ∃ v, e = .returned v ∧ W'.ownsRow w.heap.size 30 3 v (tilesT n).length ((tilesT n).flatMap cellsT) ∧ Below w.heap.size w W' := by
  have h1 : 1 ≤ m := by omega
  obtain ⟨i0, hi, hz0, hz1, hz2⟩ := info_parts info30
  have hlen := tilesT_len n
  have hu30 := Try.underlying30
  refine callsIn_of_wp_marks Try.func22 rfl trivial ?_ rfl
  simp only [Try.ntmps22, List.size_toArray, List.length_cons, List.length_nil, Nat.reduceAdd, Nat.reduceSub, Array.replicate_succ, Array.replicate_zero, List.push_toArray, List.append_toArray, List.nil_append, List.cons_append]
  gi_wp2
  have bO := Boxed.new w 24 (.slice none 0 0)
  have hB0 : Below w.heap.size w (w.alloc (.cells #[.slice none 0 0] 24)) := (Below.refl _ w).alloc (Nat.le_refl _) _
  have hc0 : (w.alloc (.cells #[.slice none 0 0] 24)).cell? ⟨Bn, 0, none⟩ = some (.int .i64 n) := (hB0.cell (p := ⟨Bn, 0, none⟩) hBn).trans hc
  refine wpIn_rangeFunc_ownH rfl h1 (gf := 23) (lb := #[.pointer (some ⟨Bn, 0, none⟩)]) rfl trivial (enters_of Try.func23 (by kernel_rfl) rfl)
    (all_stops (m - 1) (by omega) Bn n _ (by simp; omega) hc0) KpC.t KpC.b (Below.refl _ _) (fun _ => rfl)
    (fun pre W => (∃ v, Boxed W w.heap.size 24 v ∧ W.ownsRow w.heap.size 30 3 v pre.length (pre.flatMap cellsT) ∧ True) ∧ Below w.heap.size w W)
    (fun _ _ _ => False)
    (OwnFrom.and (Own.from (holdsRow_own w.heap.size w.heap.size 24 30 3 (fun (pre : List S30) => pre.length) (fun (pre : List S30) => pre.flatMap cellsT) (fun _ _ => True)) _) (ownFrom_below (Nat.le_refl _) (by simp)))
    (fun _ _ _ _ _ hs _ _ => hs)
    ⟨⟨_, bO, World.ownsRow_nil _ _ _ _, trivial⟩, hB0⟩
    (fun x a' W => ∃ Bx, w.heap.size < Bx ∧ BoxT W Bx x ∧ a' = { tmps := #[.slice none 0 0, .func (.func 23) #[] #[.pointer (some ⟨Bn, 0, none⟩)], .pointer (some ⟨w.heap.size, 0, none⟩), undef, .slice none 0 0, .pointer (some ⟨Bx, 0, none⟩), .func (.func 23) #[] #[.pointer (some ⟨Bn, 0, none⟩)], encT x, undef, undef, undef, undef, undef], defers := [] })
    (fun x a' => by
      rintro _ X Y row ⟨Bx, hBx, hb, ha⟩ hg hrow
      exact ⟨Bx, hBx, (boxT_own Bx x).from _ () X Y row hb hg hrow, ha⟩) ?assign ?body ?done ?stop
  case assign =>
    rintro l pre x W K ⟨⟨v, hv, hrow, _⟩, hB⟩ hK
    have hvl := hv.lt
    unfold encT
    gi_wp2
    exact hK _ _ ((KeepsOthers.alloc _ _).from _) (KpC.of_below ((Below.refl _ W).alloc hB.size _) hBn) ⟨⟨v, hv.alloc _, hrow.alloc _, trivial⟩, hB.alloc hB.size _⟩ ⟨W.heap.size, hvl, World.alloc_heap_new W _, rfl⟩
  case body =>
    rintro l pre x a' W hl ⟨r, hr⟩ ⟨⟨v, hv, hrow, _⟩, hB⟩ ⟨Bx, hBx, bX, rfl⟩ hlt
    have hcv := hv.cell
    obtain ⟨hx0, hx1, hx2⟩ := bX.cells
    clear hr bX hl
    unfold encT
    gi_wp2_with (gi_at_builtin; refine wpListIn_append_own _ rfl _ _ 24 rfl w.heap.size 30 i0 (.agg #[.int .i64 0, .int .i64 0, .int .i64 0]) 3 24 Try.underlying24 hi hz0 hz1 hz2 rfl (by decide) _ _ _ rfl (hrow.alloc _) ⟨W.heap.size, 0, none⟩ 1 1 (cellsT x) rfl rfl (World.news_of_block (cs := #[.int .i64 x.f0, .int .i64 x.f1, .int .i64 x.f2]) (t := 30) (fr := (0, 0)) (heap_alloc_new W _)) (by simp [cellsT, Value.oneCell']) (by simp only [maxLen]; omega) (by omega) (by have := hB.size; simp; omega) ?_; intro v' w1 hown' hgrow _; obtain ⟨g', cap', rfl⟩ := ownsRow_succ hown'; obtain ⟨hv1, hv2, hr2, hk2, hb2⟩ := hv.appended (by decide) hrow hB.size (Nat.le_refl _) hown' hgrow; have hc1 := hv1.cell; have hf1 := hv1.frozen)
    exact ⟨hk2.from _, KpC.of_below hb2 hBn, ⟨⟨_, hv2, by simpa using hr2, trivial⟩, hB.trans hb2⟩⟩
  case done =>
    rintro D ys W hD rfl ⟨⟨v, hv, hrow, _⟩, hB⟩ hK
    have hcv := hv.cell
    gi_wp2
    refine ⟨by simp, .inl ⟨_, _, rfl, run_takeDeferred hK, ?_⟩⟩
    exact ⟨_, results_tmp rfl _ _ _, v, rfl, ownsRow_putObj hrow _ hK rfl, hB.trans (belowK_b (w := w) (Nat.le_refl _) W D _ _ (by simp at hD; omega) hK rfl rfl)⟩
  case stop =>
    rintro D c pre W _ _ h _
    exact h.elim

set_option maxHeartbeats 1000000 in
theorem collect_in (m : Nat) (hm : 5 ≤ m) (Bn : Nat) (n : Int) (w : World) (hBn : Bn < w.heap.size) (hc : w.cell? ⟨Bn, 0, none⟩ = some (.int .i64 n)) :
    CallsIn Fence.wide m Try.prog 18 #[.func (.func 23) #[] #[.pointer (some ⟨Bn, 0, none⟩)]] w fun e W' => ∃ v, e = .returned v ∧ W'.ownsRow w.heap.size 30 3 v (tilesT n).length ((tilesT n).flatMap cellsT) ∧ Below w.heap.size w W' := by
  have h1 : 1 ≤ m := by omega
  refine callsIn_of_wp Try.func18 rfl trivial ?_ rfl
  simp only [Try.ntmps18, List.size_toArray, List.length_cons, List.length_nil, Nat.reduceAdd, Nat.reduceSub, Array.replicate_succ, Array.replicate_zero, List.push_toArray, List.append_toArray, List.nil_append, List.cons_append]
  gi_wp2_with (refine ⟨trivial, ?_⟩; gi_at_call 22; refine (appendSeq_in (m - 1) (by omega) Bn n _ hBn hc).mono ?_; rintro e w' ⟨v, rfl, ho, hb⟩)
  go_ret
  exact ⟨v, rfl, ho, hb⟩
set_option maxHeartbeats 1000000 in
theorem All_in (m : Nat) (hm : 6 ≤ m) (n : Int) (w : World) :
    CallsIn Fence.wide m Try.prog 10 #[.int .i64 n] w fun e W' => ∃ v, e = .returned v ∧ W'.ownsRow w.heap.size 30 3 v (tilesT n).length ((tilesT n).flatMap cellsT) ∧ Below w.heap.size w W' := by
  have hc := (Boxed.new w 3 (.int .i64 n)).cell
  have h1 : 1 ≤ m := by omega
  refine callsIn_of_wp Try.func10 rfl trivial ?_ rfl
  simp only [Try.ntmps10, List.size_toArray, List.length_cons, List.length_nil, Nat.reduceAdd, Nat.reduceSub, Array.replicate_succ, Array.replicate_zero, List.push_toArray, List.append_toArray, List.nil_append, List.cons_append]
  gi_wp2_with (first
    | (refine ⟨trivial, ?_⟩; gi_at_call 19; refine (all_in n _).mono ?_; rintro e w' ⟨rfl, rfl⟩)
    | (refine ⟨trivial, ?_⟩; gi_at_call 18; refine (collect_in (m - 1) (by omega) w.heap.size n _ (by simp) hc).mono ?_; rintro e w' ⟨v, rfl, ho, hb⟩))
  go_ret
  exact ⟨v, rfl, own_weaken ho (by simp), ((Below.refl _ w).alloc (Nat.le_refl _) _).trans (hb.mono (by simp))⟩

theorem reps_flat (R : S30 → List Value → Prop) (hR : ∀ x, R x (cellsT x)) (xs : List S30) : Reps R 3 xs (xs.flatMap cellsT) := by
  have key : ∀ n, n ≤ xs.length → Reps R 3 (xs.take n) ((xs.take n).flatMap cellsT) := by
    intro n
    induction n with
    | zero => intro _; simpa using Reps.none R 3
    | succ n ih =>
      intro hn
      have h := ih (by omega)
      have h2 := h.snoc (hR xs[n]) rfl
      rw [List.take_succ_eq_append_getElem (by omega)]
      simpa only [List.flatMap_append, List.flatMap_cons, List.flatMap_nil, List.append_nil] using h2
  simpa using key xs.length (Nat.le_refl _)
theorem R_of_own {w : World} {base : Nat} {v : Value} {xs : List S30} (h : w.ownsRow base 30 3 v xs.length (xs.flatMap cellsT)) : Kd.R k30 30 w base (fun _ => True) v xs :=
  ⟨fun _ _ => trivial, _, h, reps_flat _ (fun x => k30_mkM _ _ _ x) xs⟩

/-- The tiles of a tree: all, in order. -/
def tiles_All.f (a0 : Int) : Option ((List (S30))) := some (tilesT a0)
theorem tiles_All.calls (a0 : Int) (r : List (S30)) (w : World) (h : tiles_All.f a0 = some r) :
    Calls Try.prog 10 #[.int .i64 a0] w fun e w' => ∃ v0_ : Value, e = .returned (v0_) ∧ Kd.R k30 30 w' w.heap.size (fun _ => True) v0_ r ∧ Below w.heap.size w w' := by
  obtain rfl : tilesT a0 = r := Option.some.inj h
  exact (callsIn_wide.1 (All_in 6 (Nat.le_refl _) a0 w)).mono fun e w' ⟨v, he, ho, hb⟩ => ⟨v, he, R_of_own ho, hb⟩
end Go.Proofs.Ytoeibcdnhglobaa.P
