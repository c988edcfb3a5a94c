/- tiles.News: the contract. -/
import Derived.Test.YtoeibcdnhglobaaGRound
import Derived.Test.YtoeibcdnhglobaaGAll
namespace Go.Proofs.Ytoeibcdnhglobaa.P
set_option linter.unusedVariables false
set_option linter.unusedSimpArgs false
open Go.RowKit Go.Shelf Go.Proofs.YtoeibcdnhglobaaW.PrintWords Go.Proofs.YtoeibcdnhglobaaW.PrintLast Go.Proofs.YtoeibcdnhglobaaW.PrintMore
attribute [local go_sem] Oper.semAt_some
theorem wide_fn (f : FuncId) : Fence.wide.fn f = True := by simp [Fence.wide]
theorem wide_depth : Fence.wide.depth = none := rfl
attribute [local simp] wide_fn wide_depth
attribute [local go_sem] wide_fn wide_depth

/-- The tiles that a smaller tree has not. -/
def newsT (m : Int) (xs : List S30) : List S30 := xs.filter fun x => decide (Wd m x.f0 x.f1 ≠ x.f2)
theorem newsT_hit (m : Int) (pre : List S30) (x : S30) (h : Wd m x.f0 x.f1 ≠ x.f2) : newsT m (pre ++ [x]) = newsT m pre ++ [x] := by simp [newsT, h]
theorem newsT_miss (m : Int) (pre : List S30) (x : S30) (h : Wd m x.f0 x.f1 = x.f2) : newsT m (pre ++ [x]) = newsT m pre := by simp [newsT, h]
theorem newsT_len (m : Int) (xs : List S30) : (newsT m xs).length ≤ xs.length := List.length_filter_le _ _

/-- The world where the loop over the tiles begins. -/
def NewsAt (w W0 : World) (m n : Int) : Prop :=
  Boxed W0 w.heap.size 3 (.int .i64 m) ∧ Boxed W0 (w.heap.size + 1) 24 (.slice none 0 0) ∧ Boxed W0 (w.heap.size + 1 + 1) 3 (.int .i64 n) ∧ W0.heap.size = w.heap.size + 3 ∧ Below w.heap.size w W0
theorem NewsAt.start (w : World) (m n : Int) (q : Nat) : NewsAt w ((((w.alloc (.cells #[.int .i64 m] 3)).drewN q).alloc (.cells #[.slice none 0 0] 24)).alloc (.cells #[.int .i64 n] 3)) m n := by
  have h := (Boxed.new w 3 (.int .i64 m)).kept (W' := (w.alloc (.cells #[.int .i64 m] 3)).drewN q) (grown_of_below (Drawn0.step (Drawn0.refl _) _).below none) (by simp)
  have h2 := Boxed.new ((w.alloc (.cells #[.int .i64 m] 3)).drewN q) 24 (.slice none 0 0)
  have h3 := Boxed.new (((w.alloc (.cells #[.int .i64 m] 3)).drewN q).alloc (.cells #[.slice none 0 0] 24)) 3 (.int .i64 n)
  have hz : ((w.alloc (.cells #[.int .i64 m] 3)).drewN q).heap.size = w.heap.size + 1 := by
    show (w.alloc (.cells #[.int .i64 m] 3)).heap.size = _
    simp
  rw [hz] at h2
  rw [World.size_alloc, hz] at h3
  refine ⟨(h.alloc _).alloc _, h2.alloc _, h3, by simp only [World.size_alloc, hz], ?_⟩
  exact ((pw_below_drewN (((Below.refl _ w).alloc (Nat.le_refl _) _)) _).alloc (by rw [hz]; omega) _).alloc (by simp only [World.size_alloc, hz]; omega) _

theorem KpC.of_boxed {W W' : World} {b : Nat} {t : TypeId} {v : Value} (h : Boxed W b t v) (h' : Boxed W' b t v) : KpC b W W' := fun u hu => by
  rw [h.cell] at hu
  rw [← hu]
  exact h'.cell
theorem Width_inr {k : Nat} (l : Nat) (a b c : Int) (w : World) : CallsIn (Fence.wide.inRound l) k Try.prog 12 #[.int .i64 a, .int .i64 b, .int .i64 c] w fun e w' => e = .returned (.int .i64 (Wd a b c)) ∧ ∃ q, w' = w.drewN q :=
  CallsIn.inRound l (callsIn_wide.2 ((tiles_Width.calls a b c (Wd a b c) w (Width_eq a b c)).mono fun _ _ ⟨he, ⟨hd⟩⟩ => ⟨he, hd⟩))
theorem drewN_more {w w' : World} {k : Nat} (h : ∃ q, w' = (w.drewN k).drewN q) : ∃ q, w' = w.drewN q := by
  obtain ⟨q, rfl⟩ := h
  exact ⟨k + q, World.drewN_drewN ..⟩
theorem drewN_below (B : Nat) (W : World) (q : Nat) : Below B W (W.drewN q) := ⟨rfl, rfl, rfl, Nat.le_refl _, fun _ _ => rfl⟩
theorem KeepsOthers.drewN_own (W : World) (q : Nat) : KeepsOthers W (W.drewN q) := ⟨Nat.le_refl _, fun _ _ h _ => h⟩
theorem _root_.Go.Boxed.drewN_own {W : World} {B : Nat} {t : TypeId} {v : Value} (h : Boxed W B t v) (q : Nat) : Boxed (W.drewN q) B t v := h
theorem _root_.Go.World.ownsRow.drewN_own {W : World} {base : Nat} {e : TypeId} {size : Nat} {v : Value} {k : Nat} {xs : List Value} (h : W.ownsRow base e size v k xs) (q : Nat) : (W.drewN q).ownsRow base e size v k xs := h
theorem sized_in {n : Nat} (a : Int) (w : World) : CallsIn Fence.wide n Try.prog 20 #[.int .i64 a] w fun e w' => e = .returned (.bool (decide (0 ≤ a ∧ a ≤ 1048576))) ∧ Drawn0 w w' :=
  callsIn_wide.2 (tiles_sized.calls a _ w (sized_eq a))

set_option maxRecDepth 100000 in
set_option maxHeartbeats 4000000 in
theorem News_in (k : Nat) (hk : 6 ≤ k) (m n : Int) (hm : 0 ≤ m ∧ m ≤ 1048576) (hn : 0 ≤ n ∧ n ≤ 1048576) (hmn : m ≤ n) (w : World) :
    CallsIn Fence.wide k Try.prog 16 #[.int .i64 m, .int .i64 n] w fun e W' => ∃ v, e = .returned v ∧ W'.ownsRow w.heap.size 30 3 v (newsT m (tilesT n)).length ((newsT m (tilesT n)).flatMap cellsT) ∧ Below w.heap.size w W' := by
  have h1 : 1 ≤ k := by omega
  obtain ⟨i0, hi, hz0, hz1, hz2⟩ := info_parts info30
  have hlen := tilesT_len n
  have hu30 := Try.underlying30
  have hm1 : decide (0 ≤ m ∧ m ≤ 1048576) = true := decide_eq_true hm
  have hn1 : decide (0 ≤ n ∧ n ≤ 1048576) = true := decide_eq_true hn
  have hmn1 : decide (n < m) = false := decide_eq_false (by omega)
  clear hm hn hmn
  refine callsIn_of_wp_marks Try.func16 rfl trivial ?_ rfl
  simp only [Try.ntmps16, List.size_toArray, List.length_cons, List.length_nil, Nat.reduceAdd, Nat.reduceSub, Array.replicate_succ, Array.replicate_zero, List.push_toArray, List.append_toArray, List.nil_append, List.cons_append]
  gi_wp2_with (first
    | (gi_at_call 20; refine (sized_in _ _).mono ?_; rintro e w' ⟨rfl, ⟨nd, rfl⟩⟩)
    | (gi_at_call 19; refine (all_in n _).mono ?_; rintro e w' ⟨rfl, rfl⟩))
  generalize hW0 : ((((w.alloc (Obj.cells #[Value.int IntKind.i64 m] 3)).drewN _).alloc (Obj.cells #[Value.slice none 0 0] 24)).alloc (Obj.cells #[Value.int IntKind.i64 n] 3)) = W0
  obtain ⟨bM, bO, bN, hsz, hB0⟩ : NewsAt w W0 m n := by rw [← hW0]; exact NewsAt.start w m n _
  clear hW0
  refine wpIn_rangeFunc_ownH rfl h1 (gf := 23) (lb := #[.pointer (some ⟨w.heap.size + 1 + 1, 0, none⟩)]) rfl trivial (enters_of Try.func23 (by kernel_rfl) rfl)
    (all_stops (k - 1) (by omega) (w.heap.size + 1 + 1) n _ (by omega) bN.cell) KpC.t KpC.b (Below.refl _ _) (fun _ => rfl)
    (fun pre W => (∃ v, Boxed W (w.heap.size + 1) 24 v ∧ W.ownsRow w.heap.size 30 3 v (newsT m pre).length ((newsT m pre).flatMap cellsT) ∧ True) ∧ Boxed W w.heap.size 3 (.int .i64 m) ∧ Boxed W (w.heap.size + 1 + 1) 3 (.int .i64 n) ∧ Below w.heap.size w W)
    (fun _ _ _ => False)
    (OwnFrom.and (Own.from (holdsRow_own w.heap.size (w.heap.size + 1) 24 30 3 (fun (pre : List S30) => (newsT m pre).length) (fun (pre : List S30) => (newsT m pre).flatMap cellsT) (fun _ _ => True)) _) (OwnFrom.and (Own.from (boxed_own w.heap.size 3 (fun _ => .int .i64 m)) _) (OwnFrom.and (Own.from (boxed_own (w.heap.size + 1 + 1) 3 (fun _ => .int .i64 n)) _) (ownFrom_below (Nat.le_refl _) (by omega)))))
    (fun _ _ _ _ _ hs _ _ => hs)
    ⟨⟨_, bO, World.ownsRow_nil _ _ _ _, trivial⟩, bM, bN, hB0⟩
    (fun x a' W => ∃ Bx, w.heap.size + 1 < Bx ∧ BoxT W Bx x ∧ a' = { tmps := #[.int .i64 m, .int .i64 n, .pointer (some ⟨w.heap.size, 0, none⟩), undef, .slice none 0 0, .pointer (some ⟨w.heap.size + 1, 0, none⟩), .pointer (some ⟨Bx, 0, none⟩), .int .i64 m, .bool true, .bool false, .bool false, .int .i64 n, .bool true, .bool false, .bool false, .bool false, .int .i64 m, .int .i64 n, .bool false, .bool false, .int .i64 n, .func (.func 23) #[] #[.pointer (some ⟨w.heap.size + 1 + 1, 0, none⟩)], encT x, undef, undef, undef, undef, undef, undef, undef, undef, undef, undef, undef, undef, undef, undef], defers := [] })
    (fun x a' => by
      rintro _ X Y row ⟨Bx, hBx, hb, ha⟩ hg hrow
      exact ⟨Bx, hBx, (boxT_own Bx x).from _ () X Y row hb hg hrow, ha⟩) ?assign ?body ?done ?stop
  case assign =>
    rintro l pre x W K ⟨⟨v, hv, hrow, _⟩, hM, hN, hB⟩ hK
    have hvl := hv.lt
    unfold encT
    gi_wp2
    exact hK _ _ ((KeepsOthers.alloc _ _).from _) (KpC.of_boxed hN (hN.alloc _)) ⟨⟨v, hv.alloc _, hrow.alloc _, trivial⟩, hM.alloc _, hN.alloc _, hB.alloc hB.size _⟩ ⟨W.heap.size, hvl, World.alloc_heap_new W _, rfl⟩
  case body =>
    rintro l pre x a' W hl ⟨r, hr⟩ ⟨⟨v, hv, hrow, _⟩, hM, hN, hB⟩ ⟨Bx, hBx, bX, rfl⟩ hlt
    have hcv := hv.cell
    have hcm := hM.cell
    obtain ⟨hx0, hx1, hx2⟩ := bX.cells
    clear hr bX hl
    unfold encT
    have hnl := newsT_len m pre
    have HW := Width_eq m x.f0 x.f1
    by_cases hne : Wd m x.f0 x.f1 = x.f2
    · have hb1 : (Wd m x.f0 x.f1 != x.f2) = false := by simpa using hne
      gi_wp2
      refine wpIn_region_quiet' (by kernel_rfl) (by kernel_rfl) (by kernel_rfl) ?_
      repeat (gi_big_quiet_step ((gi_at_call 12; exact (Width_inr l m x.f0 x.f1 _).mono fun _ _ ⟨he, hq⟩ => ⟨he, drewN_more hq⟩)))
      refine wpQuietIn_nil ?_
      intro _ hw'
      obtain ⟨nq, hw''⟩ := hw'
      subst hw''
      gi_wp2
      exact ⟨(KeepsOthers.drewN_own W nq).from _, KpC.of_boxed hN (hN.drewN_own nq), ⟨⟨v, hv.drewN_own nq, by rw [newsT_miss m pre x hne]; exact hrow.drewN_own nq, trivial⟩, hM.drewN_own nq, hN.drewN_own nq, hB.trans (drewN_below _ _ nq)⟩⟩
    · have hb1 : (Wd m x.f0 x.f1 != x.f2) = true := by simpa using hne
      gi_wp2
      refine wpIn_region_quiet' (by kernel_rfl) (by kernel_rfl) (by kernel_rfl) ?_
      repeat (gi_big_quiet_step ((gi_at_call 12; exact (Width_inr l m x.f0 x.f1 _).mono fun _ _ ⟨he, hq⟩ => ⟨he, drewN_more hq⟩)))
      refine wpQuietIn_nil ?_
      intro _ hw'
      obtain ⟨nq, hw''⟩ := hw'
      have hv' : Boxed (W.drewN nq) (w.heap.size + 1) 24 v := hv.drewN_own nq
      have hrow' : (W.drewN nq).ownsRow w.heap.size 30 3 v (newsT m pre).length ((newsT m pre).flatMap cellsT) := hrow.drewN_own nq
      have hN' : Boxed (W.drewN nq) (w.heap.size + 1 + 1) 3 (.int .i64 n) := hN.drewN_own nq
      have hM' : Boxed (W.drewN nq) w.heap.size 3 (.int .i64 m) := hM.drewN_own nq
      have hB' : Below w.heap.size w (W.drewN nq) := hB.trans (drewN_below _ _ nq)
      have hKO : KeepsOthers W (W.drewN nq) := KeepsOthers.drewN_own W nq
      have hxx : (W.drewN nq).cell? ⟨Bx, 0, none⟩ = some (.int .i64 x.f0) ∧ (W.drewN nq).cell? ⟨Bx, 1, none⟩ = some (.int .i64 x.f1) ∧ (W.drewN nq).cell? ⟨Bx, 2, none⟩ = some (.int .i64 x.f2) := ⟨hx0, hx1, hx2⟩
      rw [← hw''] at hv' hrow' hN' hM' hB' hKO hxx
      clear hw'' hx0 hx1 hx2 hcv hcm
      rename_i Wq
      obtain ⟨hx0, hx1, hx2⟩ := hxx
      have hcv := hv'.cell
      gi_wp2_with (gi_at_builtin; refine wpListIn_append_own _ rfl _ _ 24 rfl w.heap.size 30 i0 (.agg #[.int .i64 0, .int .i64 0, .int .i64 0]) 3 24 Try.underlying24 hi hz0 hz1 hz2 rfl (by decide) _ _ _ rfl (hrow'.alloc _) ⟨Wq.heap.size, 0, none⟩ 1 1 (cellsT x) rfl rfl (World.news_of_block (cs := #[.int .i64 x.f0, .int .i64 x.f1, .int .i64 x.f2]) (t := 30) (fr := (0, 0)) (heap_alloc_new Wq _)) (by simp [cellsT, Value.oneCell']) (by simp only [maxLen]; omega) (by omega) (by have := hB'.size; simp; omega) ?_; intro v' w1 hown' hgrow _; obtain ⟨g', cap', rfl⟩ := ownsRow_succ hown'; obtain ⟨hv1, hv2, hr2, hk2, hb2⟩ := hv'.appended (by decide) hrow' hB'.size (Nat.le_succ _) hown' hgrow; have hc1 := hv1.cell; have hf1 := hv1.frozen; have hN2 := ((hN'.alloc _).kept hgrow (hN'.not_row (by decide) hrow')).other (B' := w.heap.size + 1) (by omega) (.slice (some ⟨g', 0, none⟩) ((newsT m pre).length + 1) cap'); have hM2 := ((hM'.alloc _).kept hgrow (hM'.not_row (by decide) hrow')).other (B' := w.heap.size + 1) (by omega) (.slice (some ⟨g', 0, none⟩) ((newsT m pre).length + 1) cap'))
      exact ⟨(hKO.trans hk2).from _, KpC.of_boxed hN hN2, ⟨⟨_, hv2, by rw [newsT_hit m pre x hne]; simpa using hr2, trivial⟩, hM2, hN2, hB'.trans hb2⟩⟩
  case done =>
    rintro D ys W hD rfl ⟨⟨v, hv, hrow, _⟩, hM, hN, hB⟩ hK
    have hcv := hv.cell
    gi_wp2
    refine ⟨by simp, .inl ⟨_, _, rfl, run_takeDeferred hK, ?_⟩⟩
    exact ⟨_, results_tmp rfl _ _ _, v, rfl, ownsRow_putObj hrow _ hK rfl, hB.trans (belowK_b (w := w) (Nat.le_refl _) W D _ _ (by omega) hK rfl rfl)⟩
  case stop =>
    rintro D c pre W _ _ h _
    exact h.elim

set_option maxHeartbeats 1000000 in
theorem News_none (m n : Int) (h : ¬ ((0 ≤ m ∧ m ≤ 1048576) ∧ (0 ≤ n ∧ n ≤ 1048576) ∧ m ≤ n)) (w : World) :
    Calls Try.prog 16 #[.int .i64 m, .int .i64 n] w fun e W' => e = .returned (.slice none 0 0) ∧ Below w.heap.size w W' := by
  by_cases hm : 0 ≤ m ∧ m ≤ 1048576
  · have hm1 : decide (0 ≤ m ∧ m ≤ 1048576) = true := decide_eq_true hm
    by_cases hn : 0 ≤ n ∧ n ≤ 1048576
    · have hn1 : decide (0 ≤ n ∧ n ≤ 1048576) = true := decide_eq_true hn
      have hmn1 : decide (n < m) = true := decide_eq_true (by omega)
      clear h hm hn
      go_enter Try.func16, Try.ntmps16
      go_wp2_with (go_at_call 20; refine (tiles_sized.calls _ _ _ (sized_eq _)).mono ?_; rintro e w' ⟨rfl, ⟨nd, rfl⟩⟩)
      go_ret
      exact ⟨rfl, ((Below.refl _ w).alloc (Nat.le_refl _) _).trans (drewN_below _ _ _)⟩
    · have hn1 : decide (0 ≤ n ∧ n ≤ 1048576) = false := decide_eq_false hn
      clear h hm hn
      go_enter Try.func16, Try.ntmps16
      go_wp2_with (go_at_call 20; refine (tiles_sized.calls _ _ _ (sized_eq _)).mono ?_; rintro e w' ⟨rfl, ⟨nd, rfl⟩⟩)
      go_ret
      exact ⟨rfl, ((Below.refl _ w).alloc (Nat.le_refl _) _).trans (drewN_below _ _ _)⟩
  · have hm1 : decide (0 ≤ m ∧ m ≤ 1048576) = false := decide_eq_false hm
    clear h hm
    go_enter Try.func16, Try.ntmps16
    go_wp2_with (go_at_call 20; refine (tiles_sized.calls _ _ _ (sized_eq _)).mono ?_; rintro e w' ⟨rfl, ⟨nd, rfl⟩⟩)
    go_ret
    exact ⟨rfl, ((Below.refl _ w).alloc (Nat.le_refl _) _).trans (drewN_below _ _ _)⟩
/-- The tiles of a greater tree that a smaller one has not. -/
def tiles_News.f (a0 : Int) (a1 : Int) : Option ((List (S30))) := if (0 ≤ a0 ∧ a0 ≤ 1048576) ∧ (0 ≤ a1 ∧ a1 ≤ 1048576) ∧ a0 ≤ a1 then some (newsT a0 (tilesT a1)) else some []
theorem tiles_News.calls (a0 : Int) (a1 : Int) (r : List (S30)) (w : World) (h : tiles_News.f a0 a1 = some r) :
    Calls Try.prog 16 #[.int .i64 a0, .int .i64 a1] w fun e w' => ∃ v0_ : Value, e = .returned (v0_) ∧ Kd.R k30 30 w' w.heap.size (fun _ => True) v0_ r ∧ Below w.heap.size w w' := by
  unfold tiles_News.f at h
  split at h
  · rename_i hh
    obtain rfl : newsT a0 (tilesT a1) = r := Option.some.inj h
    exact (callsIn_wide.1 (News_in 6 (Nat.le_refl _) a0 a1 hh.1 hh.2.1 hh.2.2 w)).mono fun e w' ⟨v, he, ho, hb⟩ => ⟨v, he, R_of_own ho, hb⟩
  · rename_i hh
    obtain rfl : [] = r := Option.some.inj h
    exact (News_none a0 a1 hh w).mono fun e w' ⟨he, hb⟩ => ⟨_, he, Kd.R_nil _ _ _ _ _, hb⟩
end Go.Proofs.Ytoeibcdnhglobaa.P
