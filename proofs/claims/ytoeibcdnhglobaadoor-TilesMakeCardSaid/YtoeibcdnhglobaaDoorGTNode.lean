/- tiles.Node: the walk. -/
import Derived.Test.YtoeibcdnhglobaaDoorGChunk
import Derived.Test.YtoeibcdnhglobaaDoorF1
namespace Go.Proofs.YtoeibcdnhglobaaDoor.P
set_option linter.unusedVariables false
set_option linter.unusedSimpArgs false
open Go.RowKit Go.Shelf Go.Proofs.YtoeibcdnhglobaaDoorW.PrintWords Go.Proofs.YtoeibcdnhglobaaDoorW.PrintLast Go.Proofs.YtoeibcdnhglobaaDoorW.PrintMore
open Go.Proofs.YtoeibcdnhglobaaDoor.Pure
attribute [local go_sem] Oper.semAt_some

/-- The hashes of a tile's bytes, 32 by 32. -/
def hs32 (d : List Int) : List ByteArray := (List.range (d.length / 32)).map fun i => strOfNums ((d.drop (32 * i)).take 32)
theorem _root_.Go.KeepsFrom.of_touch {S : Nat → Prop} {B : Nat} {W W' : World} (h : Touch S W W') (hS : ∀ k, S k → ∃ cs t fr, W.heap[k]? = some (.cells cs t fr)) : KeepsFrom B W W' :=
  ⟨h.size, fun k o _ ho hc => by
    refine (h.block k (Array.getElem?_eq_some_iff.1 ho).1 (fun e => ?_)).trans ho
    obtain ⟨cs, t, fr, e2⟩ := hS k e
    rw [e2] at ho; cases ho; cases hc⟩
theorem LawH.from {w : World} {b : Nat} {xs : List ByteArray} {og : Option Nat} {B : Nat} (hB : w.heap.size ≤ B) : OwnFrom B (fun (_ : Unit) W => LawH w b xs og W) := by
  rintro _ W W' row hs hg hrow
  obtain ⟨v, hv, hog⟩ := hs.rng
  have hb := hs.below.grown hg hs.below.size (fun k e => Nat.le_trans hB (hrow k e).1)
  refine ⟨⟨v, ⟨?_, own_blk hv.own fun g hg2 => ?_⟩, hog⟩, hb, hs.tab, hs.glob, fun g e => ⟨(hs.own g e).1, Nat.lt_of_lt_of_le (hs.own g e).2 hg.size⟩, hs.at_⟩
  · refine (hg.block b hv.lt (fun e => ?_)).trans hv.blk
    obtain ⟨o, ho, hc⟩ := (hrow b e.symm).2
    rw [hv.blk] at ho; cases ho; cases hc
  · obtain ⟨_, hlt⟩ := hv.own.lt g hg2
    refine hg.block g hlt (fun e => ?_)
    obtain ⟨o, ho, hc⟩ := (hrow g e.symm).2
    rcases hv.own.2 with ⟨rfl, _⟩ | ⟨g', cap, cur, rfl, h1, h2, h3⟩
    · cases hg2
    · cases hg2
      rw [h2] at ho; cases ho; cases hc
theorem rootH_pos' (l : List ByteArray) (h : 0 < l.length) : rootH l = Tree joinH ByteArray.empty l := by rw [rootH, if_neg (by omega)]
set_option maxRecDepth 100000 in
set_option maxHeartbeats 8000000 in
theorem TNode_in (m : Nat) (hm : 10 ≤ m) (A : Option Addr) (c : Nat) (d : List Int) (w : World) (hr : ReadsInt w .u8 A d.length d) (hb : ∀ x ∈ d, 0 ≤ x ∧ x < 256) (hc : d.length ≤ c) (hlen : d.length < 1099511627776)
    (fr mn : Nat) (h1 : 1 ≤ mn) (h2 : mn ≤ 256) (hp : ((bits .and .i64 (mn : Int) ((mn : Int) - 1)) != 0) = false) (hmod : (((fr : Int) % (mn : Int)) != 0) = false) (hend : (fr + mn) * 32 ≤ d.length) (hT : TzTab w) (hG : GlobH w) :
    CallsIn Fence.wide m Tryd.prog 43 #[.slice A d.length c, .int .i64 fr, .int .i64 mn] w fun e w' => e = .returned (.tuple #[.string (rootH (((hs32 d).drop fr).take mn)), .int .i64 0]) ∧ Below w.heap.size w w' := by
  have hm1 : 1 ≤ m := by omega
  have d1 : decide ((mn : Int) < 1) = false := decide_eq_false (by omega)
  have d2 : decide ((256 : Int) < (mn : Int)) = false := decide_eq_false (by omega)
  have d3 : decide ((fr : Int) < 0) = false := decide_eq_false (by omega)
  have d4 : decide (d.length < fr) = false := decide_eq_false (by omega)
  have d5 : decide ((d.length : Int) < ((fr : Int) + (mn : Int)) * 32) = false := decide_eq_false (by omega)
  have hq1 : (1 : Int) ≤ (mn : Int) := by omega
  have hq2 : (mn : Int) ≤ 256 := by omega
  have hq3 : (0 : Int) ≤ (fr : Int) := by omega
  have hq4 : (fr : Int) ≤ (d.length : Int) := by omega
  have hq5 : ((fr : Int) + (mn : Int)) * 32 ≤ (d.length : Int) := by omega
  have hq6 : (d.length : Int) ≤ 1099511627776 := by omega
  obtain ⟨ad, rfl, hcell⟩ := hr.2.2 (by omega)
  have hfm : (fr + mn) * 32 - fr * 32 = mn * 32 := by omega
  have hcne : ¬ (c = fr * 32) := by omega
  obtain ⟨n0, hn0⟩ : ∃ n0, w.heap.size = n0 := ⟨_, rfl⟩
  refine callsIn_of_wp_marks Tryd.func43 rfl trivial ?_ rfl
  simp only [Tryd.ntmps43, List.size_toArray, List.length_cons, List.length_nil, Nat.reduceAdd, Nat.reduceSub, Array.replicate_succ, Array.replicate_zero, List.push_toArray, List.append_toArray, List.nil_append, List.cons_append]
  gi_wp2_with (first
    | (refine ⟨trivial, ?_⟩; gi_at_call 36; refine (callsIn_wide.2 (Hashes_calls _)).mono ?_; rintro e w' ⟨rfl, hw'⟩; rw [hw']; clear hw' w')
    | (refine ⟨trivial, ?_⟩; gi_at_call 88; refine (Chunk_in_B _ _ _ 32 (by decide) _).mono ?_; rintro e w' ⟨rfl, hw'⟩; rw [hw']; clear hw' w'))
  have hL0 := LawH.new w hT hG
  rw [hn0] at hL0
  have hb1 : Below n0 w (w.alloc (.cells #[.func (.func 41) #[] #[], .slice none 0 0, .int .i64 0] 91)) := hn0 ▸ (Below.refl _ w).alloc (Nat.le_refl _) _
  have z1 : (w.alloc (.cells #[.func (.func 41) #[] #[], .slice none 0 0, .int .i64 0] 91)).heap.size = n0 + 1 := by simp [hn0]
  generalize w.alloc (.cells #[.func (.func 41) #[] #[], .slice none 0 0, .int .i64 0] 91) = W1 at *
  have hb2 := (Below.refl W1.heap.size W1).alloc (Nat.le_refl _) (.cells #[Value.pointer (some ⟨n0, 0, none⟩)] 23)
  have x2 := Boxed.new W1 23 (Value.pointer (some ⟨n0, 0, none⟩))
  rw [z1] at x2
  have z2 : (W1.alloc (.cells #[Value.pointer (some ⟨n0, 0, none⟩)] 23)).heap.size = n0 + 1 + 1 := by simp [z1]
  have hL2 := hL0.after hb2
  generalize W1.alloc (.cells #[Value.pointer (some ⟨n0, 0, none⟩)] 23) = W2 at *
  have hb3 := (Below.refl W2.heap.size W2).alloc (Nat.le_refl _) (.cells #[Value.slice (some (ad.add (fr * 32))) (mn * 32) (c - fr * 32)] 47)
  have x3 := Boxed.new W2 47 (Value.slice (some (ad.add (fr * 32))) (mn * 32) (c - fr * 32))
  rw [z2] at x3
  have z3 : (W2.alloc (.cells #[Value.slice (some (ad.add (fr * 32))) (mn * 32) (c - fr * 32)] 47)).heap.size = n0 + 1 + 1 + 1 := by simp [z2]
  have hL3 := hL2.after hb3
  have x23 := x2.below hb3
  generalize W2.alloc (.cells #[Value.slice (some (ad.add (fr * 32))) (mn * 32) (c - fr * 32)] 47) = W3 at *
  have hb4 := (Below.refl W3.heap.size W3).alloc (Nat.le_refl _) (.cells #[Value.int IntKind.i64 32] 3)
  have x4 := Boxed.new W3 3 (Value.int IntKind.i64 32)
  rw [z3] at x4
  have z4 : (W3.alloc (.cells #[Value.int IntKind.i64 32] 3)).heap.size = n0 + 1 + 1 + 1 + 1 := by simp [z3]
  have hL4 := hL3.after hb4
  have x24 := x23.below hb4
  have x34 := x3.below hb4
  generalize W3.alloc (.cells #[Value.int IntKind.i64 32] 3) = W4 at *
  clear hb2 hb3 hb1 hL0 hL2 hL3 x2 x23 x3 hb4
  obtain ⟨el, hel⟩ : ∃ el : Fin mn → ByteArray, el = fun x => strOfNums ((d.drop ((fr + x.val) * 32)).take 32) := ⟨_, rfl⟩
  have hrd : ∀ (x : Fin mn) (W : World), Below w.heap.size w W → (convert 47 9 (partV (ad.add (fr * 32)) (mn * 32) 32 x.val)).run Tryd.prog W = .ok (.string (el x)) W := by
    intro x W hW
    have hx := x.isLt
    have hl32 : ((d.drop ((fr + x.val) * 32)).take 32).length = 32 := by rw [List.length_take, List.length_drop]; omega
    have hmin : min 32 (mn * 32 - x.val * 32) = 32 := by omega
    unfold partV
    rw [hmin]
    subst hel
    refine string_of_reads (P := Tryd.prog) (src := 47) (dst := 9) Tryd.underlying47 Tryd.underlying5 Tryd.underlying9 ⟨hl32, by omega, fun _ => ⟨_, rfl, fun j hj => ?_⟩⟩
    have h1 := hcell ((fr + x.val) * 32 + j) (by omega)
    have h2 : ((ad.add (fr * 32)).add (x.val * 32)).add j = ad.add ((fr + x.val) * 32 + j) := by rw [add_add, add_add, show fr * 32 + (x.val * 32 + j) = (fr + x.val) * 32 + j by omega]
    rw [h2, pw_cell_below hW h1]
    simp [List.getD_eq_getElem?_getD, hj, List.getElem?_take]
  have hsz : ∀ x : Fin mn, (el x).size = 32 := by
    intro x
    have hx := x.isLt
    subst hel
    have hl32 : ((d.drop ((fr + x.val) * 32)).take 32).length = 32 := by rw [List.length_take, List.length_drop]; omega
    simp [strOfNums, ByteArray.size, hl32]
    omega
  have hfin : (List.finRange mn).map el = ((hs32 d).drop fr).take mn := by
    subst hel
    unfold hs32
    apply List.ext_getElem
    · simp; omega
    · intro i hi1 hi2
      simp [Nat.mul_comm]
  have HEL := Lib.hid hel
  clear hel
  refine wpIn_rangeFunc_ownH (Kp := KpS (fun b => b = n0 + 1 + 1 ∨ b = n0 + 1 + 1 + 1)) (w0 := W4) (N := mn) (S := fun ys => ys = List.finRange mn) (Sp := fun _ => True) (encs := fun q : Fin mn => #[partV (ad.add (fr * 32)) (mn * 32) 32 q.val]) rfl hm1 (gf := 117) (lb := #[.pointer (some ⟨n0 + 1 + 1, 0, none⟩), .pointer (some ⟨n0 + 1 + 1 + 1, 0, none⟩)]) rfl trivial (enters_of Tryd.func117 (by kernel_rfl) rfl)
    (fun l J Jx W hW hJ hJx hY h0 => chunk1_B (m - 1) (by omega) l (n0 + 1 + 1) (n0 + 1 + 1 + 1) (ad.add (fr * 32)) (mn * 32) (c - fr * 32) 32 mn (by decide) (by decide) (by omega) (by omega) (fun q => by omega) J Jx W
      (fun s A B hs hb => hJ s A B none hs (grown_of_below hb none) (fun r e => by cases e))
      ((hW.cell (p := ⟨n0 + 1 + 1, 0, none⟩) x34.lt).trans x34.cell) ((hW.cell (p := ⟨n0 + 1 + 1 + 1, 0, none⟩) x4.lt).trans x4.cell) hY h0)
    KpS.t KpS.b (Below.refl _ _) (fun _ => rfl)
    (fun pre W => ∃ og, (LawH w n0 (pre.map el) og W ∧ (∀ g, og = some g → n0 + 1 + 1 + 1 + 1 ≤ g)) ∧ Boxed W (n0 + 1) 23 (.pointer (some ⟨n0, 0, none⟩)))
    (fun _ _ _ => False)
    (by
      rintro pre X Y row ⟨og, ⟨h1, h2⟩, h3⟩ hg hrow
      exact ⟨og, ⟨LawH.from (by omega) () X Y row h1 hg hrow, h2⟩, (Own.from (boxed_own (n0 + 1) 23 (fun (_ : Unit) => .pointer (some ⟨n0, 0, none⟩))) _) () X Y row h3 hg hrow⟩)
    (fun _ _ _ _ _ hs _ _ => hs)
    ⟨none, ⟨hL4, fun g e => by cases e⟩, x24⟩
    (fun x a' W => a' = { tmps := #[Value.slice (some ad) d.length c, Value.int IntKind.i64 ↑fr, Value.int IntKind.i64 ↑mn, undef, undef, undef, Value.string ⟨#[]⟩, Value.int IntKind.i64 0, Value.pointer (some ⟨n0 + 1, 0, none⟩), partV (ad.add (fr * 32)) (mn * 32) 32 x.val, undef, undef, Value.int IntKind.i64 ↑mn, Value.bool false, Value.bool false, Value.int IntKind.i64 ↑mn, Value.bool false, Value.bool false, Value.bool false, Value.int IntKind.i64 ↑mn, Value.int IntKind.i64 ↑mn, Value.int IntKind.i64 (↑mn - 1), Value.int IntKind.i64 (bits BinOp.and IntKind.i64 (↑mn) (↑mn - 1)), Value.bool false, Value.bool false, Value.bool false, Value.int IntKind.i64 ↑fr, Value.bool false, Value.bool false, Value.bool false, Value.int IntKind.i64 ↑fr, Value.int IntKind.i64 ↑mn, Value.int IntKind.i64 (↑fr % ↑mn), Value.bool false, Value.bool false, Value.int IntKind.i64 ↑fr, Value.slice (some ad) d.length c, Value.int IntKind.i64 ↑d.length, Value.bool false, Value.bool false, Value.int IntKind.i64 ↑fr, Value.int IntKind.i64 ↑mn, Value.int IntKind.i64 (↑fr + ↑mn), Value.int IntKind.i64 ((↑fr + ↑mn) * 32), Value.slice (some ad) d.length c, Value.int IntKind.i64 ↑d.length, Value.bool false, Value.bool false, Value.pointer (some ⟨n0, 0, none⟩), Value.slice (some ad) d.length c, Value.int IntKind.i64 ↑fr, Value.int IntKind.i64 (↑fr * 32), Value.int IntKind.i64 ↑fr, Value.int IntKind.i64 ↑mn, Value.int IntKind.i64 (↑fr + ↑mn), Value.int IntKind.i64 ((↑fr + ↑mn) * 32), Value.slice (some (ad.add (fr * 32))) (mn * 32) (c - fr * 32), Value.func (Fn.func 117) #[] #[Value.pointer (some ⟨n0 + 1 + 1, 0, none⟩), Value.pointer (some ⟨n0 + 1 + 1 + 1, 0, none⟩)], partV (ad.add (fr * 32)) (mn * 32) 32 x.val, undef, undef, undef, undef, undef, undef, undef, undef, undef, undef], defers := [] })
    (fun x a' => by rintro _ X Y row ha hg hrow; exact ha) ?assign ?body ?done ?stop
  case assign =>
    rintro l pre x W K hI hK
    gi_wp2
    exact hK _ _ ((KeepsOthers.refl' W).from _) (fun _ _ _ h => h) hI rfl
  case body =>
    rintro l pre x a' W hl ⟨r, hrr⟩ ⟨og, ⟨hL, hog⟩, hbx⟩ rfl hlt
    have hcv := hrd x W hL.below
    have hcb := hbx.cell
    have hpl : (pre.map el).length < 1000000000 := by simp; omega
    have hss : ∀ s ∈ pre.map el, s.size ≤ 32 := by
      intro s hs
      obtain ⟨y, _, rfl⟩ := List.mem_map.1 hs
      exact Nat.le_of_eq (hsz y)
    have k1 := callsIn_inr (k := m - 1 - 1 - 1) l (callsIn_wide.2 (hL.add (el x) hpl hss (Nat.le_of_eq (hsz x))))
    have hm3 : 1 ≤ m - 1 - 1 := by omega
    have hx1 : pre.map el ++ [el x] = (pre ++ [x]).map el := by simp
    rw [hx1] at k1
    have hLl := hL.lt
    gi_wp2_with (refine ⟨trivial, ?_⟩; gi_at_call 23; refine k1.mono ?_; rintro e w1 ⟨rfl, og1, hL1, ht1, hog1⟩)
    have hbl := hL.rng
    obtain ⟨v, hv, hvo⟩ := hL.rng
    have hz : n0 + 1 + 1 + 1 + 1 ≤ W.heap.size := by have := (Array.getElem?_eq_some_iff.1 hrr).1; omega
    refine ⟨KeepsFrom.of_touch ht1 ?_, ?_, og1, ⟨hL1, ?_⟩, ?_⟩
    · rintro k (rfl | hk)
      · exact ⟨_, _, _, hv.blk⟩
      · rw [← hvo] at hk
        rcases hv.own.2 with ⟨rfl, _⟩ | ⟨g', cap, cur, rfl, e1, e2, e3⟩
        · cases hk
        · cases hk; exact ⟨_, _, _, e2⟩
    · intro p u hp hu
      refine (World.cell?_of_block (ht1.block p.block (World.block_lt_of_cell? _ _ hu) ?_)).trans hu
      rintro (e | e)
      · rcases hp with h | h <;> omega
      · have := hog _ e.symm; rcases hp with h | h <;> omega
    · intro g hg
      rcases hog1 with e | ⟨g2, e, hge⟩
      · exact hog g (e ▸ hg)
      · rw [hg] at e; cases e; omega
    · refine (ht1.block _ (by omega) ?_).trans hbx
      rintro (e | e)
      · omega
      · have := hog _ e.symm; omega
  case done =>
    rintro D ys W hD rfl ⟨og, ⟨hL, hog⟩, hbx⟩ hK
    have hcb := hbx.cell
    have hpl : ((List.finRange mn).map el).length < 1000000000 := by simp; omega
    have hss : ∀ s ∈ (List.finRange mn).map el, s.size ≤ 32 := by
      intro s hs
      obtain ⟨y, _, rfl⟩ := List.mem_map.1 hs
      exact Nat.le_of_eq (hsz y)
    have k1 := (callsIn_wide (n := m - 1)).2 (hL.top hpl hss)
    have hpos : decide (0 < ((List.finRange mn).map el).length) = true := decide_eq_true (by simp; omega)
    rw [hpos, ← rootH_pos' _ (by simp; omega), hfin] at k1
    have hDlt : D < W.heap.size := (Array.getElem?_eq_some_iff.1 hK).1
    clear hfin hpl hss hpos hrd hsz
    gi_wp2_with (refine ⟨trivial, ?_⟩; gi_at_call 25; refine k1.mono ?_; rintro e w1 ⟨rfl, hb1, hL1⟩)
    have hK1 : w1.heap[D]? = some (.deferred (some [])) := (hb1.block D hDlt).trans hK
    refine ⟨by simp, .inl ⟨_, _, rfl, run_takeDeferred hK1, ?_⟩⟩
    exact ⟨_, results_tmp2 rfl _ _ _, rfl, hL1.below.trans (hn0 ▸ belowK_b (w := w) (Nat.le_refl _) w1 D _ _ (by omega) hK1 rfl rfl)⟩
  case stop =>
    rintro D c pre W _ _ h _
    exact h.elim
end Go.Proofs.YtoeibcdnhglobaaDoor.P
