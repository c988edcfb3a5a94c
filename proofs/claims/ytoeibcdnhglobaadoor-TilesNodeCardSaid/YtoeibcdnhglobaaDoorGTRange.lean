/- tiles.Node where it refuses: the walks. -/
import Derived.Test.YtoeibcdnhglobaaDoorGTNode
namespace Go.Proofs.YtoeibcdnhglobaaDoor.P
set_option linter.unusedVariables false
set_option linter.unusedSimpArgs false
open Go.RowKit Go.Shelf Go.Proofs.YtoeibcdnhglobaaDoorW.PrintWords Go.Proofs.YtoeibcdnhglobaaDoorW.PrintLast Go.Proofs.YtoeibcdnhglobaaDoorW.PrintMore
open Go.Proofs.YtoeibcdnhglobaaDoor.Pure

/-- One of the powers of two up to 256. -/
def pwB (m : Int) : Bool := m == 1 || m == 2 || m == 4 || m == 8 || m == 16 || m == 32 || m == 64 || m == 128 || m == 256
theorem pwB_iff (m : Nat) (h1 : 1 ≤ m) (h2 : m ≤ 256) : (bits .and .i64 (m : Int) ((m : Int) - 1) != 0) = !pwB m := by
  have key : ∀ k : Fin 257, 1 ≤ k.val → (bits .and .i64 (k.val : Int) ((k.val : Int) - 1) != 0) = !pwB k.val := by decide +kernel
  exact key ⟨m, by omega⟩ h1
theorem pwB_bd {m : Int} (h : pwB m = true) : 1 ≤ m ∧ m ≤ 256 := by
  unfold pwB at h
  simp only [Bool.or_eq_true, beq_iff_eq] at h
  omega
set_option maxHeartbeats 4000000 in
theorem TNode_range (A : Option Addr) (n c : Nat) (fr mn : Int) (w : World) (hbad : pwB mn = false ∨ fr < 0 ∨ (0 ≤ fr ∧ fr % mn ≠ 0)) :
    Calls Tryd.prog 43 #[.slice A n c, .int .i64 fr, .int .i64 mn] w fun e w' => e = .returned (.tuple #[.string ⟨#[]⟩, .int .i64 6]) ∧ w' = w := by
  by_cases h1 : mn < 1
  · clear hbad
    go_enter Tryd.func43, Tryd.ntmps43
    go_wp2
    go_ret2
    exact ⟨rfl, rfl⟩
  by_cases h2 : 256 < mn
  · clear hbad
    have h1' : decide (mn < 1) = false := decide_eq_false h1
    have h2' : decide (256 < mn) = true := decide_eq_true h2
    go_enter Tryd.func43, Tryd.ntmps43
    go_wp2
    go_ret2
    exact ⟨rfl, rfl⟩
  obtain ⟨k, rfl⟩ : ∃ k : Nat, mn = k := ⟨mn.toNat, by omega⟩
  have hk := pwB_iff k (by omega) (by omega)
  have h1' : decide ((k : Int) < 1) = false := decide_eq_false h1
  have h2' : decide (256 < (k : Int)) = false := decide_eq_false h2
  have b1 : (1 : Int) ≤ (k : Int) := by omega
  have b2 : (k : Int) ≤ 256 := by omega
  cases hp : pwB k with
  | false =>
    rw [hp] at hk
    clear hbad hp h1 h2
    go_enter Tryd.func43, Tryd.ntmps43
    go_wp2
    go_ret2
    exact ⟨rfl, rfl⟩
  | true =>
    rw [hp] at hk
    simp only [Bool.not_true] at hk
    rcases hbad with hb | hb | ⟨hb0, hb⟩
    · rw [hp] at hb; cases hb
    · have h3 : decide (fr < 0) = true := decide_eq_true hb
      clear hp h1 h2
      go_enter Tryd.func43, Tryd.ntmps43
      go_wp2
      go_ret2
      exact ⟨rfl, rfl⟩
    · have h3 : decide (fr < 0) = false := decide_eq_false (by omega)
      have h4 : (fr % (k : Int) != 0) = true := by rw [bne_iff_ne]; exact hb
      clear hp h1 h2 hb
      go_enter Tryd.func43, Tryd.ntmps43
      go_wp2
      go_ret2
      exact ⟨rfl, rfl⟩
set_option maxHeartbeats 4000000 in
theorem TNode_short (A : Option Addr) (n c : Nat) (hn : n ≤ 1099511627776) (fr mn : Int) (w : World) (hp : pwB mn = true) (hf : 0 ≤ fr) (hm : fr % mn = 0) (hs : (n : Int) < fr ∨ (n : Int) < (fr + mn) * 32) :
    Calls Tryd.prog 43 #[.slice A n c, .int .i64 fr, .int .i64 mn] w fun e w' => e = .returned (.tuple #[.string ⟨#[]⟩, .int .i64 3]) ∧ w' = w := by
  obtain ⟨b1, b2⟩ := pwB_bd hp
  obtain ⟨k, rfl⟩ : ∃ k : Nat, mn = k := ⟨mn.toNat, by omega⟩
  have hk := pwB_iff k (by omega) (by omega)
  rw [hp] at hk
  simp only [Bool.not_true] at hk
  have h1' : decide ((k : Int) < 1) = false := decide_eq_false (by omega)
  have h2' : decide (256 < (k : Int)) = false := decide_eq_false (by omega)
  have h3 : decide (fr < 0) = false := decide_eq_false (by omega)
  have h4 : (fr % (k : Int) != 0) = false := by rw [hm]; rfl
  clear hp hm
  by_cases hs1 : (n : Int) < fr
  · have h5 : decide ((n : Int) < fr) = true := decide_eq_true hs1
    clear hs
    go_enter Tryd.func43, Tryd.ntmps43
    go_wp2
    go_ret2
    exact ⟨rfl, rfl⟩
  · have hs2 : (n : Int) < (fr + (k : Int)) * 32 := by omega
    have h5 : decide ((n : Int) < fr) = false := decide_eq_false hs1
    have h6 : decide ((n : Int) < (fr + (k : Int)) * 32) = true := decide_eq_true hs2
    have hf2 : fr ≤ 1099511627776 := by omega
    clear hs
    go_enter Tryd.func43, Tryd.ntmps43
    go_wp2
    go_ret2
    exact ⟨rfl, rfl⟩
end Go.Proofs.YtoeibcdnhglobaaDoor.P
