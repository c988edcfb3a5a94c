/- PeaksOwns: the walk. -/
import Derived.Test.YtoeibcdnhglobaaDoorGLaw09
namespace Go.Proofs.YtoeibcdnhglobaaDoor.P
set_option linter.unusedVariables false
set_option linter.unusedSimpArgs false
open Go.RowKit Go.Shelf Go.Proofs.YtoeibcdnhglobaaDoorW.PrintWords Go.Proofs.YtoeibcdnhglobaaDoorW.PrintLast Go.Proofs.YtoeibcdnhglobaaDoorW.PrintMore
open Go.Proofs.YtoeibcdnhglobaaDoor.Pure

theorem own_slice {w : World} {base : Nat} {e : TypeId} {size : Nat} {v : Value} {n : Nat} {xs : List Value} (h : w.ownsRow base e size v n xs) :
    ∃ A c, v = .slice A n c ∧ n ≤ c ∧ ∀ j, j < n → ∃ g, A = some ⟨g, 0, none⟩ ∧ base ≤ g := by
  rcases h.2 with ⟨rfl, rfl⟩ | ⟨g, cap, cur, rfl, h1, _, h3, _⟩
  · exact ⟨none, 0, rfl, Nat.le_refl _, fun j hj => absurd hj (Nat.not_lt_zero j)⟩
  · exact ⟨_, cap, rfl, h3, fun _ _ => ⟨g, rfl, h1⟩⟩
theorem own_readsS {w : World} {base : Nat} {A : Option Addr} {n c : Nat} {l : List ByteArray} (h : w.ownsRow base 9 1 (.slice A n c) n (l.map fun x => .string x)) (hn : n ≤ 9223372036854775807) : ReadsOf Value.string ByteArray.empty w A l.length l := by
  have hl : l.length = n := by have := h.1; simpa using this
  refine ⟨rfl, by omega, fun h0 => ?_⟩
  obtain ⟨A', c', hv, _, hA⟩ := own_slice h
  cases hv
  obtain ⟨g, rfl, _⟩ := hA 0 (by omega)
  refine ⟨_, rfl, fun j hj => ?_⟩
  have hadd : (⟨g, 0, none⟩ : Addr).add j = ⟨g, j, none⟩ := by unfold Addr.add; split <;> simp_all
  rw [hadd, h.cellAt j (by omega)]
  simp [hj]
theorem Touch.of_below' {a b : World} {B : Nat} (h : Below B a b) : Below B a b := h
theorem wt_take (l : List ByteArray) (i : Nat) : wt (l.take i) ≤ wt l := by
  have : wt l = wt (l.take i) + wt (l.drop i) := by rw [← wt_append, List.take_append_drop]
  omega
theorem wt_bd (l : List ByteArray) (M : Nat) (h : ∀ x ∈ l, x.size ≤ M) : wt l ≤ l.length * (M + 2) := by
  induction l with
  | nil => simp [wt]
  | cons a r ih =>
    have h1 := ih (fun x hx => h x (List.mem_cons_of_mem _ hx))
    have h2 := h a List.mem_cons_self
    simp only [wt, List.map_cons, List.sum_cons, List.length_cons, Nat.add_mul, Nat.one_mul] at h1 ⊢
    omega

set_option maxRecDepth 100000 in
set_option maxHeartbeats 8000000 in
theorem PeaksOwns_calls (A : Option Addr) (c : Nat) (l : List ByteArray) (w : World) (hr : ReadsOf Value.string ByteArray.empty w A l.length l) (hc : l.length ≤ c) (hsz : ∀ x ∈ l, x.size ≤ 140737488355328) (hT : TzTab w) :
    Calls Tryd.prog 3 #[.slice A l.length c] w fun e w' => e = .returned (.bool true) ∧ Below w.heap.size w w' := by
  obtain ⟨l1, hl20, hr1, hc1, hsz1, hcase⟩ : ∃ l1 : List ByteArray, l1.length ≤ 20 ∧ ReadsOf Value.string ByteArray.empty w A l1.length l1 ∧ l1.length ≤ c ∧ (∀ x ∈ l1, x.size ≤ 140737488355328) ∧
      ((20 < l.length ∧ ∀ W : World, (Instr.slice 22 (.slice A l.length c) none (some (.int .i64 20)) none).run Tryd.prog W = .ok (.slice A l1.length c) W) ∨ (¬ 20 < l.length ∧ l1 = l)) := by
    by_cases h20 : 20 < l.length
    · obtain ⟨i9, hi9, _, hsz9, _⟩ := info_parts inf9
      obtain ⟨hcut, hA, hC⟩ := print_take_of (P := Tryd.prog) Value.string ByteArray.empty 22 9 .i64 Tryd.underlying22 hi9 hsz9 A c l 20 (by omega) (by omega) hc
      exact ⟨l.take 20, by rw [List.length_take]; omega, hA w hr, hC, fun x hx => hsz x (List.mem_of_mem_take hx), .inl ⟨h20, hcut⟩⟩
    · exact ⟨l, by omega, hr, hc, hsz, .inr ⟨h20, rfl⟩⟩
  have hW : wt l1 ≤ 3000000000000000 := Nat.le_trans (wt_bd l1 _ hsz1) (by have := Nat.mul_le_mul_right (140737488355328 + 2) hl20; omega)
  have hL := LawS.new w hT
  have hb0 := hL.lt
  have kA := fun (i : Nat) (wr : World) (og : Option Nat) (hi : i < l1.length) (h : LawS w w.heap.size (l1.take i) og wr) => LawS.add h l1[i] (by rw [List.length_take]; omega) (by rw [← List.take_succ_eq_append_getElem hi]; have := wt_take l1 (i + 1); omega)
  have kP := fun (wr : World) (og : Option Nat) (h : LawS w w.heap.size l1 og wr) => LawS.peaks h (by omega)
  have kY := fun (wr : World) (og : Option Nat) (h : LawS w w.heap.size l1 og wr) => LawS.add h (⟨#[121]⟩ : ByteArray) (by omega) (by rw [wt_append]; have e : wt [(⟨#[121]⟩ : ByteArray)] = 3 := rfl; omega)
  have hwt2 : wt (l1 ++ [(⟨#[121]⟩ : ByteArray)]) ≤ 3000000000000003 := by rw [wt_append]; have e : wt [(⟨#[121]⟩ : ByteArray)] = 3 := rfl; omega
  have hlen2 : (l1 ++ [(⟨#[121]⟩ : ByteArray)]).length = l1.length + 1 := by simp
  have kT := fun (wr : World) (og : Option Nat) (h : LawS w w.heap.size (l1 ++ [(⟨#[121]⟩ : ByteArray)]) og wr) => LawS.top h (by omega) (by
    rw [hlen2]
    exact Nat.le_trans (Nat.mul_le_mul (show l1.length + 1 + 2 ≤ 23 by omega) (Nat.add_le_add_right hwt2 2)) (by decide))
  have e5 : decide (0 < (l1 ++ [(⟨#[121]⟩ : ByteArray)]).length) = true := by simp
  rw [e5] at kT
  have kW := fun (B : Option Addr) (c2 : Nat) (wr : World) (h : ReadsOf Value.string ByteArray.empty wr B (l1 ++ [(⟨#[121]⟩ : ByteArray)]).length (l1 ++ [(⟨#[121]⟩ : ByteArray)])) (h2 : (l1 ++ [(⟨#[121]⟩ : ByteArray)]).length ≤ c2) =>
    Words_calls _ (l1 ++ [(⟨#[121]⟩ : ByteArray)]) (Nat.le_refl _) (by omega) (by omega) B c2 wr h h2
  have kL := fun (wr : World) (og : Option Nat) (xs : List ByteArray) (h : LawS w w.heap.size xs og wr) => lives09_calls wr (hT.below h.below hT.lt)
  clear hsz hsz1 hr hc hwt2 e5 hW
  have hr0 := hr1
  simp only [hlen2] at kW
  rcases hcase with ⟨h20, hcut⟩ | ⟨h20, rfl⟩
  have hd : decide ((20 : Int) < (l.length : Int)) = true := decide_eq_true (by omega)
  clear h20
  rotate_left
  have hd : decide ((20 : Int) < (l1.length : Int)) = false := decide_eq_false (by omega)
  clear h20
  all_goals
    go_enter Tryd.func3, Tryd.ntmps3
    go_wp2_with (go_at_call 21; refine (New_S _).mono ?_; rintro e w' ⟨rfl, hw'⟩; rw [hw']; clear hw' w')
    go_loopw [4] (fun v4 wr => ∃ (i : Nat) (og : Option Nat), v4 = .int .i64 i ∧ i ≤ l1.length ∧ LawS w w.heap.size (l1.take i) og wr) (fun v4 _ => l1.length - (intOf v4).toNat)
    case atStart => exact ⟨0, none, rfl, by omega, by simpa using hL⟩
    case round =>
      obtain ⟨i, og, rfl, hi, hLi⟩ := hrel
      by_cases hlt : i < l1.length
      · obtain ⟨ad, rfl, hcell⟩ := hr1.at_ i (by omega) (by omega)
        have hcell2 := (hLi.below.cell (World.block_lt_of_cell? _ _ hcell)).trans hcell
        have hrd : rdOf ByteArray.empty l1 (i : Int) = l1[i] := by simp [rdOf, List.getD_eq_getElem?_getD, hlt]
        rw [hrd, Int.toNat_natCast] at hcell2
        have k1 := kA i wr og hlt hLi
        clear hcell hrd kA kP kY kT kW kL
        go_wp2_with (go_at_call 23; with_reducible refine k1.mono ?_; rintro e w1 ⟨rfl, og1, hL1, _, _⟩; clear k1)
        go_roundw
        case rel => exact ⟨i + 1, og1, rfl, by omega, by rw [List.take_succ_eq_append_getElem hlt]; exact hL1⟩
        case measure => simp only [intOf]; omega
      · obtain rfl : i = l1.length := by omega
        rw [List.take_length] at hLi
        have k1 := kP wr og hLi
        have hOg := hLi.own
        have hbl := hLi.lt
        clear kA kP hr1 hlt hi
        go_wp2_with (go_at_call 24; with_reducible refine k1.mono ?_; rintro e w2 ⟨pv, rfl, hop, hb2, hL2⟩; clear k1; obtain ⟨Ap, cp, rfl, hcp, hAp⟩ := own_slice hop)
        generalize hn : (stk joinS l1).length = n at *
        have hn20 : n ≤ 20 := by have := stk_length joinS l1; omega
        generalize ((stk joinS l1).reverse.map fun x => Value.string x) = ys0 at *
        have hge := hb2.size
        have hw0 := hL2.below.size
        generalize wr = wA at *
        go_loopw [6] (fun v6 wr2 => ∃ (i : Nat) (ys : List Value), v6 = .int .i64 i ∧ i ≤ n ∧ wr2.ownsRow wA.heap.size 9 1 (.slice Ap n cp) n ys ∧ LawS w w.heap.size l1 og wr2) (fun v6 _ => n - (intOf v6).toNat)
        case atStart => exact ⟨0, ys0, rfl, by omega, hop, hL2⟩
        case round =>
          obtain ⟨i, ys, rfl, hi, hop2, hL3⟩ := hrel
          by_cases hlt : i < n
          · obtain ⟨g, rfl, hgb⟩ := hAp i hlt
            have hlen := hop2.1
            have hcell := hop2.cellAt i (by omega)
            have hfz := hop2.frozenAt i
            rw [List.getElem?_eq_getElem (by omega)] at hcell
            have hst := hop2.stored i (.string ⟨#[120]⟩)
            have hL4 : LawS w w.heap.size l1 og (wr.setCell ⟨g, i, none⟩ (.string ⟨#[120]⟩)) := hL3.far (S := fun k => k = g) (Touch.set _ _ _ rfl) (fun k hk => by
              subst hk
              have := hLi.below.size
              exact ⟨by omega, by omega, fun e => by have := (hOg _ e).2; omega⟩)
            clear kY kT kW kL hop hop2
            go_wp2
            go_roundw
            case rel => exact ⟨i + 1, _, rfl, by omega, hst.1, hL4⟩
            case measure => simp only [intOf]; omega
          · obtain rfl : i = n := by omega
            have kYw := kY wr og hL3
            have hA1 : A = none → l1 = [] := fun e => by
              rcases Nat.eq_zero_or_pos l1.length with h0 | h0
              · exact List.length_eq_zero_iff.1 h0
              · obtain ⟨ad, e2, _⟩ := hr0.2.2 h0
                rw [e] at e2; cases e2
            have hb16 : ∀ q, q ≤ 21 → q * 16 ≤ 140737488355328 := fun q hq => by omega
            clear kY hop hop2 hAp hcp hb2 hL2 hLi hOg hbl hA1
            go_wp2_with (first
              | (go_at_call 23; with_reducible refine kYw.mono ?_; rintro e w3 ⟨rfl, og3, hL5, _, _⟩; clear kYw hL3; have hr3 := hr0.below hL5.below)
              | (at_builtin; refine print_append_row_of (w0 := w3) Value.string ByteArray.empty w3.heap.size rfl _ _ 22 9 (.string ⟨#[]⟩) 16 rfl Tryd.underlying22 inf9 rfl (by decide) (fun _ => rfl) (.slice none 0 0) [] l1 A l1.length c rfl rfl (World.ownsRow_nil _ _ _ _) hr3 (Below.refl _ _) (Nat.le_refl _) (hb16 _ (by simp; omega)) ?_; intro v1 w4 hown4 hB4 _ _; clear hr3)
              | (at_builtin; refine print_append_of (w0 := w3) Value.string w3.heap.size rfl _ _ 22 9 (.string ⟨#[]⟩) 16 rfl Tryd.underlying22 inf9 rfl (by decide) v1 ([] ++ l1) (⟨#[121]⟩ : ByteArray) rfl rfl rfl hown4 hB4 hB4.size (hb16 _ (by simp; omega)) ?_; intro v2 w5 hown5 hB5 _ _; clear hown4; obtain ⟨B, c2, rfl, hc2, _⟩ := own_slice hown5; have hL6 := hL5.after hB5; have hown6 : w5.ownsRow w3.heap.size 9 1 (.slice B ([] ++ l1 ++ [(⟨#[121]⟩ : ByteArray)]).length c2) ([] ++ l1 ++ [(⟨#[121]⟩ : ByteArray)]).length (([] ++ l1 ++ [(⟨#[121]⟩ : ByteArray)]).map fun x => .string x) := hown5; have hrd5 := own_readsS hown6 (by simp; omega); clear hL5 hown5 hown6)
              | (go_at_call 25; with_reducible refine (kT _ _ hL6).mono ?_; rintro e w6 ⟨rfl, hb6, hL7⟩; have hrd6 := hrd5.below hb6; clear hL6 hrd5)
              | (go_at_call 26; with_reducible refine (kW B c2 _ (by simpa using hrd6) (by simpa using hc2)).mono ?_; rintro e w7 ⟨rfl, q7, hw7⟩; rw [hw7]; clear hw7 w7; have hL8 := hL7.after (pw_below_drewN (Below.refl _ _) q7); clear hL7 hrd6)
              | (go_at_call 27; with_reducible refine (kL _ _ _ hL8).mono ?_; rintro e w8 ⟨rfl, hb8⟩; have hL9 := hL8.after hb8; clear hL8))
            go_ret
            exact ⟨by simp, hL9.below⟩
end Go.Proofs.YtoeibcdnhglobaaDoor.P
