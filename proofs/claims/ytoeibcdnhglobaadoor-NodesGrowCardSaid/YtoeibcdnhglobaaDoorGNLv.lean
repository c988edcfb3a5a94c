/- pantilelaw15.lives: the walk. -/
import Derived.Test.YtoeibcdnhglobaaDoorGNGr
namespace Go.Proofs.YtoeibcdnhglobaaDoor.P
set_option linter.unusedVariables false
set_option linter.unusedSimpArgs false
open Go.RowKit Go.Shelf Go.Proofs.YtoeibcdnhglobaaDoorW.PrintWords Go.Proofs.YtoeibcdnhglobaaDoorW.PrintLast Go.Proofs.YtoeibcdnhglobaaDoorW.PrintMore
open Go.Proofs.YtoeibcdnhglobaaDoor.Pure

theorem nodeK_01 : nodeK 0 1 = ⟨#[110, 47, 48, 48, 47, 48, 48, 48, 48, 48, 48, 49]⟩ := by
  unfold nodeK padS
  rw [dec_small 0 (by omega), dec_small 1 (by omega)]
  decide +kernel
theorem nodeK_10 : nodeK 1 0 = ⟨#[110, 47, 48, 49, 47, 48, 48, 48, 48, 48, 48, 48]⟩ := by
  unfold nodeK padS
  rw [dec_small 0 (by omega), dec_small 1 (by omega)]
  decide +kernel
theorem nodeK_312 : nodeK 3 12 = ⟨#[110, 47, 48, 51, 47, 48, 48, 48, 48, 48, 49, 50]⟩ := by
  unfold nodeK padS
  rw [← dec_step 12 (by omega), dec_small 3 (by omega), dec_small (12 / 10) (by omega)]
  decide +kernel
set_option maxRecDepth 100000 in
set_option maxHeartbeats 4000000 in
theorem lives15_calls (w : World) (hT : PowTab w) (hG : GlobH w) : Calls Tryd.prog 69 #[] w fun e w' => e = .returned (.bool true) ∧ Below w.heap.size w w' := by
  have kN : ∀ W : World, Below w.heap.size w W → Calls Tryd.prog 73 #[.int .i64 3, .int .i64 12] W fun e w' => e = .returned (.string (nodeK 3 12)) ∧ Below W.heap.size W w' := fun W hW => NodeK_calls 3 12 (by omega) (by omega) (by omega) (by omega) W (hT.below hW)
  rw [nodeK_312] at kN
  have hB : Below w.heap.size w ((w.alloc (.cells #[.string ⟨#[97]⟩] 9)).alloc (.cells #[.string ⟨#[98]⟩] 9)) :=
    ((Below.refl w.heap.size w).alloc (Nat.le_refl _) _).alloc ((Below.refl w.heap.size w).alloc (Nat.le_refl _) _).size _
  have kG : Calls Tryd.prog 66 #[.int .i64 1, .slice (some ⟨w.heap.size, 0, none⟩) 1 1, .slice (some ⟨w.heap.size + 1, 0, none⟩) 1 1] ((w.alloc (.cells #[.string ⟨#[97]⟩] 9)).alloc (.cells #[.string ⟨#[98]⟩] 9)) fun e w' => ∃ g1 c1 g2 c2, e = .returned (.tuple #[.slice (some ⟨g1, 0, none⟩) 2 c1, .slice (some ⟨g2, 0, none⟩) 1 c2]) ∧
      w'.cell? ⟨g1, 0, none⟩ = some (.string ⟨#[110, 47, 48, 48, 47, 48, 48, 48, 48, 48, 48, 49]⟩) ∧ w'.cell? ⟨g1, 3, none⟩ = some (.string ⟨#[110, 47, 48, 49, 47, 48, 48, 48, 48, 48, 48, 48]⟩) ∧ Below w.heap.size w w' := by
    have hn1 := heap_alloc_new w (.cells #[.string ⟨#[97]⟩] 9)
    have hs1 : (w.alloc (.cells #[.string ⟨#[97]⟩] 9)).heap.size = w.heap.size + 1 := Array.size_push _
    have hn2 := heap_alloc_new (w.alloc (.cells #[.string ⟨#[97]⟩] 9)) (.cells #[.string ⟨#[98]⟩] 9)
    rw [hs1] at hn2
    have c0 : (w.alloc (.cells #[.string ⟨#[97]⟩] 9)).cell? ⟨w.heap.size, 0, none⟩ = some (.string ⟨#[97]⟩) := by unfold World.cell?; simp only []; rw [hn1]; rfl
    have c1 := pw_cell_below ((Below.refl (w.alloc (.cells #[.string ⟨#[97]⟩] 9)).heap.size (w.alloc (.cells #[.string ⟨#[97]⟩] 9))).alloc (Nat.le_refl _) (.cells #[.string ⟨#[98]⟩] 9)) c0
    have c2 : ((w.alloc (.cells #[.string ⟨#[97]⟩] 9)).alloc (.cells #[.string ⟨#[98]⟩] 9)).cell? ⟨w.heap.size + 1, 0, none⟩ = some (.string ⟨#[98]⟩) := by unfold World.cell?; simp only []; rw [hn2]; rfl
    have hs : ∀ s ∈ ([⟨#[97]⟩, ⟨#[98]⟩] : List ByteArray), s.size ≤ 32 := by
      intro s h
      simp only [List.mem_cons, List.not_mem_nil, or_false] at h
      rcases h with rfl | rfl <;> decide
    have hrow : StrRow ((w.alloc (.cells #[.string ⟨#[97]⟩] 9)).alloc (.cells #[.string ⟨#[98]⟩] 9)) (some ⟨w.heap.size, 0, none⟩) (pkN [⟨#[97]⟩, ⟨#[98]⟩] 1) := by
      refine .inr ⟨_, rfl, fun j hj => ?_⟩
      have hj0 : j = 0 := by
        have : (pkN [⟨#[97]⟩, ⟨#[98]⟩] 1).length = 1 := rfl
        omega
      subst hj0
      exact c1
    have hrd : ReadsOf Value.string ByteArray.empty ((w.alloc (.cells #[.string ⟨#[97]⟩] 9)).alloc (.cells #[.string ⟨#[98]⟩] 9)) (some ⟨w.heap.size + 1, 0, none⟩) (([⟨#[97]⟩, ⟨#[98]⟩] : List ByteArray).length - 1) (([⟨#[97]⟩, ⟨#[98]⟩] : List ByteArray).drop 1) := by
      refine ⟨rfl, by simp, fun _ => ⟨_, rfl, fun j hj => ?_⟩⟩
      have hj0 : j = 0 := by simpa using hj
      subst hj0
      rw [add_plain]
      exact c2
    refine (NGrow_calls [⟨#[97]⟩, ⟨#[98]⟩] 1 (by decide) (by decide) hs (some ⟨w.heap.size, 0, none⟩) (some ⟨w.heap.size + 1, 0, none⟩) 1 1 _ hrow hrd (hT.below hB) (hG.below hB)).mono ?_
    rintro e w' ⟨v1, v2, rfl, ho1, ho2, hb⟩
    have hg : grownL [⟨#[97]⟩, ⟨#[98]⟩] 1 (([⟨#[97]⟩, ⟨#[98]⟩] : List ByteArray).length - 1) = [(nodeK 0 1, ⟨#[98]⟩), (nodeK 1 0, seg [⟨#[97]⟩, ⟨#[98]⟩] 0 2)] := rfl
    rw [hg, nodeK_01, nodeK_10] at ho1
    have hp2 : pkN [⟨#[97]⟩, ⟨#[98]⟩] ([⟨#[97]⟩, ⟨#[98]⟩] : List ByteArray).length = [seg [⟨#[97]⟩, ⟨#[98]⟩] 0 2] := rfl
    rw [hp2] at ho2
    obtain ⟨g1, q1, rfl, _⟩ := World.ownsRow.form ho1 (by simp)
    obtain ⟨g2, q2, rfl, _⟩ := World.ownsRow.form ho2 (by simp)
    have h0 := World.ownsRow.cellAt ho1 0 (by simp)
    have h3 := World.ownsRow.cellAt ho1 3 (by simp)
    exact ⟨g1, q1, g2, q2, rfl, h0, h3, hB.trans (hb.mono hB.size)⟩
  clear hT hG hB
  go_enter Tryd.func69, Tryd.ntmps69
  go_wp2_with (first
    | (go_at_call 66; go_loud (refine kG.mono ?_; rintro e w1 ⟨g1, q1, g2, q2, rfl, hc0, hc3, hb1⟩; clear kG))
    | (go_at_call 73; go_loud (refine (kN _ hb1).mono ?_; rintro e w2 ⟨rfl, hb2⟩; have hd0 := pw_cell_below hb2 hc0; have hd3 := pw_cell_below hb2 hc3; clear hc0 hc3 kN)))
  go_ret
  exact ⟨rfl, hb1.trans (hb2.mono hb1.size)⟩
end Go.Proofs.YtoeibcdnhglobaaDoor.P
