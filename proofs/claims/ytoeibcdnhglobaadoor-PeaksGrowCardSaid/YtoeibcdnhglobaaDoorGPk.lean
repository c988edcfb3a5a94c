/- The document's Peaks and Same: the walks. -/
import Derived.Test.YtoeibcdnhglobaaDoorGOwns
import Derived.Test.YtoeibcdnhglobaaDoorPurePk
namespace Go.Proofs.YtoeibcdnhglobaaDoor.P
set_option linter.unusedVariables false
set_option linter.unusedSimpArgs false
open Go.RowKit Go.Shelf Go.Proofs.YtoeibcdnhglobaaDoorW.PrintWords Go.Proofs.YtoeibcdnhglobaaDoorW.PrintLast Go.Proofs.YtoeibcdnhglobaaDoorW.PrintMore
open Go.Proofs.YtoeibcdnhglobaaDoor.Pure

set_option maxRecDepth 100000 in
set_option maxHeartbeats 4000000 in
theorem Same_calls (A0 A1 : Option Addr) (c0 c1 : Nat) (l : List ByteArray) (w : World) (h0 : ReadsOf Value.string ByteArray.empty w A0 l.length l) (h1 : ReadsOf Value.string ByteArray.empty w A1 l.length l) :
    Calls Tryd.prog 34 #[.slice A0 l.length c0, .slice A1 l.length c1] w fun e w' => e = .returned (.bool true) ∧ Below w.heap.size w w' := by
  have hbig := h0.2.1
  go_enter Tryd.func34, Tryd.ntmps34
  go_wp2
  go_loopw [5] (fun v5 wr => ∃ (i : Nat), v5 = .int .i64 i ∧ i ≤ l.length ∧ Below w.heap.size w wr) (fun v5 _ => l.length - (intOf v5).toNat)
  case atStart => exact ⟨0, rfl, by omega, Below.refl _ _⟩
  case round =>
    obtain ⟨i, rfl, hi, hb⟩ := hrel
    by_cases hlt : i < l.length
    · obtain ⟨ad0, rfl, hcell0⟩ := h0.at_ i (by omega) (by omega)
      obtain ⟨ad1, rfl, hcell1⟩ := h1.at_ i (by omega) (by omega)
      have hd0 := (hb.cell (World.block_lt_of_cell? _ _ hcell0)).trans hcell0
      have hd1 := (hb.cell (World.block_lt_of_cell? _ _ hcell1)).trans hcell1
      rw [Int.toNat_natCast] at hd0 hd1
      generalize rdOf ByteArray.empty l (i : Int) = x at *
      have hlI : (i : Int) < (l.length : Int) := by omega
      have hdd : decide ((i : Int) < (l.length : Int)) = true := decide_eq_true hlI
      clear hcell0 hcell1 h0 h1
      go_wp2
      go_quiet (fail)
      go_wp2
      go_roundw
      case rel => exact ⟨i + 1, rfl, by omega, pw_below_drewN hb _⟩
      case measure => simp only [intOf]; omega
    · have hdd : decide ((i : Int) < (l.length : Int)) = false := decide_eq_false (by omega)
      clear h0 h1
      go_wp2
      go_ret
      exact ⟨rfl, hb⟩

theorem _root_.Go.World.ownsRow.drewN_own2 {W : World} {base : Nat} {e : TypeId} {size : Nat} {v : Value} {k : Nat} {xs : List Value} (h : W.ownsRow base e size v k xs) (q : Nat) : (W.drewN q).ownsRow base e size v k xs := h
set_option maxRecDepth 100000 in
set_option maxHeartbeats 8000000 in
theorem Peaks_calls (A : Option Addr) (c : Nat) (l : List ByteArray) (w : World) (hr : ReadsOf Value.string ByteArray.empty w A l.length l) (hc : l.length ≤ c) (hm : l.length < 1000000) (hwt : wt l ≤ 9223372036854775807) :
    Calls Tryd.prog 35 #[.slice A l.length c] w fun e w' => ∃ v out, e = .returned v ∧ Pk joinS ByteArray.empty l out ∧ w'.ownsRow w.heap.size 9 1 v out.length (out.map fun x => .string x) ∧ Below w.heap.size w w' := by
  have HM := Lib.hid hm
  have HW := Lib.hid hwt
  clear hm hwt
  go_enter Tryd.func35, Tryd.ntmps35
  go_wp2
  go_loopw [0, 3] (fun v0 v3 wr => ∃ (rest done : List ByteArray) (A2 : Option Addr) (c2 : Nat), v0 = .slice A2 rest.length c2 ∧ rest.length ≤ c2 ∧ ReadsOf Value.string ByteArray.empty w A2 rest.length rest ∧ rest.length ≤ l.length ∧ wt rest ≤ wt l ∧
      wr.ownsRow w.heap.size 9 1 v3 done.length (done.map fun x => .string x) ∧ Below w.heap.size w wr ∧ done.length + rest.length ≤ l.length ∧ Hid (∀ out, Pk joinS ByteArray.empty rest out → Pk joinS ByteArray.empty l (done ++ out)))
    (fun v0 _ _ => match v0 with | .slice _ n _ => n | _ => 0)
  case atStart => exact ⟨l, [], A, c, rfl, hc, hr, Nat.le_refl _, Nat.le_refl _, World.ownsRow_nil _ _ _ _, Below.refl _ _, by simp, Lib.hid fun out h => h⟩
  case round =>
    obtain ⟨rest, done, A2, c2, rfl, hc2, hr2, hl2, hw2, hown, hb, hdl, HI⟩ := hrel
    by_cases h0 : 0 < rest.length
    · have hd : decide ((0 : Int) < (rest.length : Int)) = true := decide_eq_true (by omega)
      have hrl : rest.length < 1000000 := Nat.lt_of_le_of_lt hl2 HM.out
      have HR := Lib.hid hrl
      clear hrl
      go_wp2
      have hrl := HR.out
      go_loop [4] (fun v4 => ∃ K : Nat, v4 = .int .i64 K ∧ K ≤ rest.length ∧ 0 < K ∧ Hid (∃ j, K = 2 ^ j)) (fun v4 => rest.length + 1 - (intOf v4).toNat)
      case atStart => exact ⟨1, rfl, h0, Nat.one_pos, Lib.hid ⟨0, rfl⟩⟩
      case round =>
        obtain ⟨K, rfl, hK, hK0, HK⟩ := hrel
        have hwr : wrap64 (2 * (K : Int)) = 2 * (K : Int) := wrap64_id (by omega) (by omega)
        by_cases hlt : 2 * K ≤ rest.length
        · have hdd : decide (2 * (K : Int) ≤ (rest.length : Int)) = true := decide_eq_true (by omega)
          go_wp2
          refine ⟨⟨2 * K, by simp, by omega, by omega, Lib.hid ?_⟩, by simp only [intOf]; omega⟩
          obtain ⟨j, rfl⟩ := HK.out
          exact ⟨j + 1, by rw [Nat.pow_succ, Nat.mul_comm]⟩
        · have hdd : decide (2 * (K : Int) ≤ (rest.length : Int)) = false := decide_eq_false (by omega)
          obtain ⟨i9, hi9, _, hsz9, _⟩ := info_parts inf9
          obtain ⟨hcut1, hA1, hC1⟩ := print_take_of (P := Tryd.prog) Value.string ByteArray.empty 22 9 .i64 Tryd.underlying22 hi9 hsz9 A2 c2 rest (K : Nat) (by omega) (by omega) hc2
          obtain ⟨A3, hcut2, hA3, hC3⟩ := print_drop_of (P := Tryd.prog) Value.string ByteArray.empty 22 9 .i64 Tryd.underlying22 hi9 hsz9 A2 c2 rest (K : Nat) (by omega) (by omega) hc2
          rw [Int.toNat_natCast] at hcut1 hA1 hC1 hcut2 hA3 hC3
          have l1 : (rest.take K).length = K := by rw [List.length_take]; omega
          have l2 : (rest.drop K).length = rest.length - K := by rw [List.length_drop]
          have hwt2 : wt rest = wt (rest.take K) + wt (rest.drop K) := by rw [← wt_append, List.take_append_drop]
          have kW := Words_calls _ (rest.take K) (Nat.le_refl _) (by omega) (by have := HW.out; omega) A2 c2 wr (hA1 wr (hr2.below hb)) hC1
          have hb16 : (done.length + 1) * 16 ≤ 140737488355328 := by have := HM.out; omega
          have hbs := hb.size
          have HCC := Lib.hid hC3
          clear hC1 hC3 hi9 hsz9 hA1
          rw [l1] at hcut1 kW
          go_wp2_with (first
            | (go_at_call 26; with_reducible refine kW.mono ?_; rintro e w2 ⟨rfl, q2, hw2'⟩; rw [hw2']; clear hw2' w2)
            | (at_builtin; go_loud (refine print_append_of (w0 := w) Value.string w.heap.size rfl _ _ 22 9 (.string ⟨#[]⟩) 16 rfl Tryd.underlying22 inf9 rfl (by decide) u3 done (Tree joinS ByteArray.empty (rest.take K)) rfl rfl rfl (hown.drewN_own2 q2) (pw_below_drewN hb q2) hbs hb16 ?_; intro v5 w5 hown5 hB5 _ _)))
          have hPk : ∀ out, Pk joinS ByteArray.empty (rest.drop K) out → Pk joinS ByteArray.empty rest (Tree joinS ByteArray.empty (rest.take K) :: out) := fun out ho => by
            obtain ⟨j, hj⟩ := HK.out
            have := Pk.cons (J := joinS) (e := ByteArray.empty) j (rest.take K) (rest.drop K) out (l1.trans hj) (by rw [l2, ← hj]; omega) ho
            rwa [List.take_append_drop] at this
          refine ⟨⟨rest.drop K, done ++ [Tree joinS ByteArray.empty (rest.take K)], A3, c2 - K, by rw [l2], HCC.out, hA3 w hr2, by omega, by omega, hown5, hB5, by simp only [List.length_append, List.length_cons, List.length_nil]; omega, Lib.hid (fun out ho => ?_)⟩, by simp only []; omega⟩
          have := HI.out _ (hPk out ho)
          simpa using this
    · have hd : decide ((0 : Int) < (rest.length : Int)) = false := decide_eq_false (by omega)
      obtain rfl : rest = [] := List.length_eq_zero_iff.1 (by omega)
      have hP := HI.out [] .nil
      clear hr hr2
      go_wp2
      go_ret
      exact ⟨_, done, rfl, by simpa using hP, hown, hb⟩
end Go.Proofs.YtoeibcdnhglobaaDoor.P
