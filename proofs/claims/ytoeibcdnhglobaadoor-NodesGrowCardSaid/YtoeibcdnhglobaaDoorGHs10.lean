/- pantileref10.Hashes: the walk. -/
import Derived.Test.YtoeibcdnhglobaaDoorF4
namespace Go.Proofs.YtoeibcdnhglobaaDoor.P
set_option linter.unusedVariables false
set_option linter.unusedSimpArgs false
open Go.RowKit Go.Shelf Go.Proofs.YtoeibcdnhglobaaDoorW.PrintWords Go.Proofs.YtoeibcdnhglobaaDoorW.PrintLast Go.Proofs.YtoeibcdnhglobaaDoorW.PrintMore
open Go.Proofs.YtoeibcdnhglobaaDoor.Pure

/-- The hashes of the first leaves, of the first 20 bytes of each. -/
def hash10 (ps : List Part) (most : Nat) : List ByteArray := (ps.take most).map fun p => leafH (p.d.take 20)
theorem hash10_len (ps : List Part) (most : Nat) : (hash10 ps most).length = min most ps.length := by simp [hash10]
theorem hash10_sz (ps : List Part) (most : Nat) : ∀ s ∈ hash10 ps most, s.size ≤ 32 := by
  intro s hs
  obtain ⟨p, _, rfl⟩ := List.mem_map.1 hs
  exact Nat.le_of_eq (leafH_size _)
theorem hash10_snoc (ps : List Part) (most i : Nat) (h1 : i < ps.length) (h2 : i < most) : (hash10 ps most).take i ++ [leafH (ps[i].d.take 20)] = (hash10 ps most).take (i + 1) := by
  have hl : i < (hash10 ps most).length := by rw [hash10_len]; omega
  rw [List.take_succ_eq_append_getElem hl]
  simp [hash10]
theorem own_slc0 {w : World} {base n : Nat} {e : TypeId} {size : Nat} {v : Value} {xs : List Value} (h : w.ownsRow base e size v n xs) : ∃ A c, v = .slice A n c ∧ n ≤ c := by
  rcases h.2 with ⟨rfl, h0⟩ | ⟨g, cap, cur, rfl, _, hg, hcap, _⟩
  · exact ⟨none, 0, by rw [h0], by omega⟩
  · exact ⟨_, _, rfl, hcap⟩
set_option maxRecDepth 100000 in
set_option maxHeartbeats 8000000 in
theorem Hashes10_calls (A : Option Addr) (c : Nat) (ps : List Part) (most : Nat) (hmost : most ≤ 1000000) (w : World) (h : Leaves w A ps) :
    Calls Tryd.prog 46 #[.slice A ps.length c, .int .i64 most] w fun e w' => ∃ v, e = .returned v ∧ w'.ownsRow w.heap.size 9 1 v (hash10 ps most).length (encs Value.string (hash10 ps most)) ∧ Below w.heap.size w w' := by
  obtain ⟨n0, hn0⟩ : ∃ n0, w.heap.size = n0 := ⟨_, rfl⟩
  have hown0 : w.ownsRow n0 9 1 (.slice none 0 0) ((hash10 ps most).take 0).length (encs Value.string ((hash10 ps most).take 0)) := by simpa [encs] using own_nil w n0 9 1
  have hbl0 : Below n0 w w := hn0 ▸ Below.refl _ _
  have HP := Lib.hid h
  have HN := Lib.hid hn0
  rw [hn0]
  clear h hn0
  have hm1 : (most : Int) ≤ 1000000 := by omega
  go_enter Tryd.func46, Tryd.ntmps46
  go_wp2
  go_loopw [5, 6, 7] (fun v5 v6 v7 wr => ∃ i : Nat, v6 = .int .i64 i ∧ i ≤ ps.length ∧ i ≤ most ∧ wr.ownsRow n0 9 1 v5 ((hash10 ps most).take i).length (encs Value.string ((hash10 ps most).take i)) ∧ Below n0 w wr) (fun _ v6 _ _ => most - (intOf v6).toNat)
  case atStart => exact ⟨0, rfl, by omega, by omega, hown0, hbl0⟩
  case round =>
    clear hown0 hbl0
    obtain ⟨i, rfl, hi, him, hown, hbl⟩ := hrel
    obtain ⟨A3, c3, rfl, _⟩ := own_slc0 hown
    by_cases hlt : i < ps.length
    · have hd : decide (i < ps.length) = true := decide_eq_true hlt
      by_cases hlm : i < most
      · have hd2 : decide (i < most) = true := decide_eq_true hlm
        obtain ⟨ad, rfl, hcell⟩ := HP.out.at_ i hlt
        have hb0 : Below w.heap.size w wr := by rw [HN.out]; exact hbl
        have hcw := pw_cell_below hb0 hcell
        have hmem := List.getElem_mem hlt
        have hrd := (HP.out.rd _ hmem).below hb0
        have hcap := HP.out.cap _ hmem
        have hok := HP.out.ok _ hmem
        have hsn := hash10_snoc ps most i hlt hlm
        obtain ⟨x, hx⟩ : ∃ x, x = leafH (ps[i].d.take 20) := ⟨_, rfl⟩
        obtain ⟨m, kR, hcase⟩ : ∃ m, (Calls Tryd.prog 38 #[.slice ps[i].A m ps[i].c] wr fun e w' => e = .returned (.string x) ∧ Below wr.heap.size wr w') ∧
            ((decide ((20 : Int) < (ps[i].d.length : Int)) = true ∧ m = 20 ∧ (20 : Int) ≤ (ps[i].c : Int)) ∨ (decide ((20 : Int) < (ps[i].d.length : Int)) = false ∧ m = ps[i].d.length)) := by
          by_cases h20 : 20 < ps[i].d.length
          · have hl : (ps[i].d.take 20).length = 20 := by rw [List.length_take]; omega
            have k := LeafR_calls ps[i].A ps[i].c (ps[i].d.take 20) (by omega) wr (by rw [hl]; exact hrd.take_ 20 (by omega)) (fun y hy => hok y (List.mem_of_mem_take hy))
            rw [hl, ← hx] at k
            exact ⟨20, k, .inl ⟨decide_eq_true (by omega), rfl, by omega⟩⟩
          · have ht : ps[i].d.take 20 = ps[i].d := List.take_of_length_le (by omega)
            rw [ht] at hx
            have k := LeafR_calls ps[i].A ps[i].c ps[i].d (by omega) wr hrd hok
            rw [← hx] at k
            exact ⟨_, k, .inr ⟨decide_eq_false (by omega), rfl⟩⟩
        rw [← hx] at hsn
        have HSN := Lib.hid hsn
        have hbs := hbl.size
        have hl16 : (((hash10 ps most).take i).length + 1) * 16 ≤ 140737488355328 := by rw [List.length_take]; omega
        have hl0 : n0 ≤ wr.heap.size := by have := HN.out; omega
        have h1 : (i : Int) < (ps.length : Int) := by omega
        generalize ps[i] = pt at *
        clear hsn hx hrd hok hmem hcell
        generalize (hash10 ps most).take i = P at *
        rcases hcase with ⟨h0, rfl, g0⟩ | ⟨h0, rfl⟩
        all_goals
          go_wp2_with (first
            | (go_at_call 38; go_loud (with_reducible refine kR.mono ?_; rintro e w1 ⟨rfl, hb1⟩; have ho1 := pw_own_below hown hb1; have hB1 := hbl.trans (hb1.mono hl0); have hl1 := Nat.le_trans hl0 hb1.size; clear kR))
            | (at_builtin; go_loud (refine print_append_of (w0 := w) Value.string n0 rfl _ _ 22 9 (.string ⟨#[]⟩) 16 rfl Tryd.underlying22 inf9 rfl (by decide) (.slice A3 P.length c3) P x rfl rfl rfl ho1 hB1 hl1 hl16 ?_; intro v4 w4 hown4 hB4 _ _; rw [HSN.out] at hown4)))
          exact ⟨⟨i + 1, rfl, by omega, by omega, hown4, hB4⟩, by simp only [intOf]; omega⟩
      · have hd2 : decide (i < most) = false := decide_eq_false hlm
        have hL : (hash10 ps most).take i = hash10 ps most := List.take_of_length_le (by rw [hash10_len]; omega)
        rw [hL] at hown ⊢
        go_wp2
        go_ret
        exact ⟨_, rfl, hown, hbl⟩
    · have hd : decide (i < ps.length) = false := decide_eq_false hlt
      have hL : (hash10 ps most).take i = hash10 ps most := List.take_of_length_le (by rw [hash10_len]; omega)
      rw [hL] at hown ⊢
      go_wp2
      go_ret
      exact ⟨_, rfl, hown, hbl⟩
end Go.Proofs.YtoeibcdnhglobaaDoor.P
