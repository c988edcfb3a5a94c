/- The law's join, as a range's. -/
import Derived.Test.YtoeibcdnhglobaaDoorGRange
namespace Go.Proofs.YtoeibcdnhglobaaDoor.P
set_option linter.unusedVariables false
set_option linter.unusedSimpArgs false
open Go.RowKit Go.Proofs.YtoeibcdnhglobaaDoor.Pure
def GlobS (w : World) : Prop := True
theorem GlobS.below {w w' : World} (h : GlobS w) {B : Nat} (hb : Below B w w') : GlobS w' := trivial
def okS (a b : ByteArray) : Prop := a.size + b.size + 2 ≤ 9223372036854775807
theorem Jc_S (a b : ByteArray) (h : okS a b) (w : World) (hG : GlobS w) : Calls Tryd.prog 22 #[.string a, .string b] w fun e w' => e = .returned (.string (joinS a b)) ∧ Below w.heap.size w w' :=
  (join_calls a b h w).mono fun e w' ⟨he, hw⟩ => ⟨he, hw ▸ Below.refl _ _⟩
theorem merge_okS : ∀ (t : Nat) (h : ByteArray) (st : List ByteArray), wt (h :: st) ≤ 9223372036854775807 → mergeOk okS joinS t h st
  | 0, _, _, _ => trivial
  | _ + 1, _, [], _ => trivial
  | t + 1, h, p :: st, hw => by
    simp only [wt, List.map_cons, List.sum_cons] at hw
    refine ⟨?_, merge_okS t _ st ?_⟩
    · unfold okS; omega
    · simp only [wt, List.map_cons, List.sum_cons, joinS_size]; omega
theorem merge_wt : ∀ (t : Nat) (h : ByteArray) (st : List ByteArray), t ≤ st.length → wt (merge joinS t h st) = wt (h :: st)
  | 0, _, _, _ => rfl
  | _ + 1, _, [], h => by simp at h
  | t + 1, h, p :: st, hl => by
    simp only [merge]
    rw [merge_wt t _ st (by simpa using hl)]
    simp only [wt, List.map_cons, List.sum_cons, joinS_size]
    omega
theorem stk_wt (xs : List ByteArray) (h : xs.length < 2 ^ 64) : wt (stk joinS xs) = wt xs := by
  have key : ∀ n, n ≤ xs.length → wt (stk joinS (xs.take n)) = wt (xs.take n) := by
    intro n
    induction n with
    | zero => intro _; rfl
    | succ n ih =>
      intro hn
      rw [List.take_succ_eq_append_getElem (by omega), stk_snoc, merge_wt _ _ _ (stk_enough _ (by rw [List.length_take]; omega)), wt_append]
      have := ih (by omega)
      simp only [wt, List.map_cons, List.sum_cons, List.map_nil, List.sum_nil] at this ⊢
      omega
  simpa using key xs.length (Nat.le_refl _)
end Go.Proofs.YtoeibcdnhglobaaDoor.P
