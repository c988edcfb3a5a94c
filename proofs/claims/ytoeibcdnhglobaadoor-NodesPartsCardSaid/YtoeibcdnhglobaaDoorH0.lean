/- Texts of the seat, joined: PureLvl, GSplit, GSrc, GRin. -/
import Derived.Test.YtoeibcdnhglobaaDoorE0
import Derived.Test.YtoeibcdnhglobaaDoorE1
import Derived.Shelf.Small.Bits
import Derived.Test.YtoeibcdnhglobaaDoorF1
import Derived.Test.YtoeibcdnhglobaaDoorE3
import Derived.Test.YtoeibcdnhglobaaDoorWLast
/- The levels of a tree: pairs joined, level by level. No program in sight. -/
namespace Go.Proofs.YtoeibcdnhglobaaDoor.Pure
set_option linter.unusedVariables false
set_option linter.unusedSimpArgs false
section
variable {α : Type} (J : α → α → α)
/-- Pairs joined; one that is left over is dropped. -/
def up : List α → List α
  | a :: b :: r => J a b :: up r
  | _ => []
def lvl (h : List α) : Nat → List α
  | 0 => h
  | j + 1 => up J (lvl h j)
theorem up_length : ∀ (l : List α), (up J l).length = l.length / 2
  | [] => by simp [up]
  | [_] => by simp [up]
  | a :: b :: r => by simp only [up, List.length_cons, up_length r]; omega
theorem up_get : ∀ (l : List α) (i : Nat) (h1 : i < (up J l).length) (h2 : 2 * i < l.length) (h3 : 2 * i + 1 < l.length), (up J l)[i] = J l[2 * i] l[2 * i + 1]
  | [], i, h1, h2, h3 => absurd h2 (Nat.not_lt_zero _)
  | [_], i, h1, h2, h3 => by simp only [List.length_singleton] at h3; omega
  | a :: b :: r, 0, _, _, _ => rfl
  | a :: b :: r, i + 1, h1, h2, h3 => by
    have h4 : 2 * (i + 1) = 2 * i + 1 + 1 := by omega
    have ih := up_get r i (by simpa [up] using h1) (by simp only [List.length_cons] at h2; omega) (by simp only [List.length_cons] at h3; omega)
    simp only [up, h4, List.getElem_cons_succ]
    exact ih
theorem up_snoc (l : List α) (i : Nat) (h : 2 * i + 1 < l.length) : up J (l.take (2 * (i + 1))) = up J (l.take (2 * i)) ++ [J l[2 * i] l[2 * i + 1]] := by
  apply List.ext_getElem
  · rw [List.length_append, up_length, up_length, List.length_take, List.length_take, List.length_singleton]; omega
  · intro k h1 h2
    have hl1 : (up J (l.take (2 * (i + 1)))).length = i + 1 := by rw [up_length, List.length_take]; omega
    have hl2 : (up J (l.take (2 * i))).length = i := by rw [up_length, List.length_take]; omega
    rw [up_get J _ k h1 (by rw [List.length_take]; omega) (by rw [List.length_take]; omega)]
    by_cases hk : k < i
    · rw [List.getElem_append_left (by omega), up_get J _ k (by omega) (by rw [List.length_take]; omega) (by rw [List.length_take]; omega)]
      simp
    · obtain rfl : k = i := by omega
      rw [List.getElem_append_right (by omega)]
      simp [hl2]
theorem up_take (l : List α) (m : Nat) (hm : l.length ≤ m + 1) (he : m % 2 = 0) : up J (l.take m) = up J l := by
  rcases Nat.lt_or_ge m l.length with h | h
  · apply List.ext_getElem
    · rw [up_length, up_length, List.length_take]; omega
    · intro k h1 h2
      rw [up_length, List.length_take] at h1
      rw [up_get J _ k (by rw [up_length, List.length_take]; omega) (by rw [List.length_take]; omega) (by rw [List.length_take]; omega), up_get J _ k h2 (by omega) (by omega)]
      simp
  · rw [List.take_of_length_le h]
theorem lvl_length (h : List α) : ∀ j, (lvl J h j).length = h.length / 2 ^ j
  | 0 => by simp [lvl]
  | j + 1 => by rw [lvl, up_length, lvl_length h j, Nat.div_div_eq_div_mul, Nat.pow_succ]
/-- A node of the tree: what the leaves below it make. -/
theorem lvl_get (e : α) (h : List α) : ∀ (j i : Nat) (hi : i < (lvl J h j).length), (lvl J h j)[i] = Tree J e ((h.drop (i * 2 ^ j)).take (2 ^ j))
  | 0, i, hi => by
    have hi' : i < h.length := hi
    have : (h.drop (i * 2 ^ 0)).take (2 ^ 0) = [h[i]] := by
      rw [Nat.pow_zero, Nat.mul_one, List.drop_eq_getElem_cons hi']; rfl
    rw [this]
    rfl
  | j + 1, i, hi => by
    have hp : 0 < 2 ^ j := Nat.two_pow_pos j
    have hl := lvl_length J h j
    have hl1 := lvl_length J h (j + 1)
    have hle : (i + 1) * 2 ^ (j + 1) ≤ h.length := by
      have h2 : i + 1 ≤ h.length / 2 ^ (j + 1) := by omega
      exact (Nat.le_div_iff_mul_le (Nat.two_pow_pos _)).1 h2
    have e1 : (i + 1) * 2 ^ (j + 1) = i * 2 ^ (j + 1) + 2 ^ (j + 1) := Nat.succ_mul _ _
    have e2 : 2 ^ (j + 1) = 2 ^ j + 2 ^ j := by rw [Nat.pow_succ]; omega
    have e3 : 2 * i * 2 ^ j = i * 2 ^ (j + 1) := by rw [Nat.pow_succ, Nat.mul_comm 2 i, Nat.mul_assoc, Nat.mul_comm 2]
    have e4 : (2 * i + 1) * 2 ^ j = i * 2 ^ (j + 1) + 2 ^ j := by rw [Nat.succ_mul, e3]
    have hb : 2 * i + 1 < (lvl J h j).length := by
      rw [hl]
      refine Nat.lt_of_lt_of_le (Nat.lt_succ_self _) ((Nat.le_div_iff_mul_le hp).2 ?_)
      rw [show (2 * i + 1).succ = 2 * (i + 1) by omega, Nat.mul_comm 2, Nat.mul_assoc, ← Nat.pow_succ']
      exact hle
    show (up J (lvl J h j))[i] = _
    rw [up_get J _ i hi (by omega) hb, lvl_get e h j _ (by omega), lvl_get e h j _ hb, e3, e4]
    rw [← Tree_join J e _ _ (j := j) (by rw [List.length_take, List.length_drop]; omega) (by rw [List.length_take, List.length_drop]; omega) (by rw [List.length_take, List.length_drop]; omega)]
    congr 1
    rw [e2, List.take_add, List.drop_drop]
/-- How many levels: till one is left, or none. -/
def depth : Nat → Nat → Nat
  | 0, _ => 1
  | f + 1, n => if n ≤ 1 then 1 else 1 + depth f (n / 2)
end
end Go.Proofs.YtoeibcdnhglobaaDoor.Pure

/- bits.Len by the shelf; proof.split: the walk. -/
namespace Go.Proofs.YtoeibcdnhglobaaDoor.P
set_option linter.unusedVariables false
set_option linter.unusedSimpArgs false
open Go.RowKit Go.Shelf Go.Proofs.YtoeibcdnhglobaaDoorW.PrintWords Go.Proofs.YtoeibcdnhglobaaDoorW.PrintLast Go.Proofs.YtoeibcdnhglobaaDoorW.PrintMore
open Go.Proofs.YtoeibcdnhglobaaDoor.Pure
def Tryd.lays125_ren : Go.Shelf.Ren := ⟨fun | 125 => 123 | 128 => 142 | 129 => 143 | n => n, fun | 46 => 93 | 3 => 3 | 51 => 133 | 53 => 135 | 4 => 4 | 5 => 5 | 9 => 9 | n => n, fun | n => n⟩
theorem Tryd.lays125 : Go.Proofs.Lays.n125 Tryd.prog Tryd.lays125_ren := {
  mixed := by kernel_rfl
  f125 := Tryd.func123.trans (congrArg some (by kernel_rfl))
  f128 := Tryd.func142.trans (congrArg some (by kernel_rfl))
  f129 := Tryd.func143.trans (congrArg some (by kernel_rfl))
  t3 := Tryd.underlying3
  a3 := Tryd.isAgg3
  z3 := Tryd.sizeOf3
  v3 := Tryd.zeroValue3
  t4 := Tryd.underlying4
  a4 := Tryd.isAgg4
  z4 := Tryd.sizeOf4
  v4 := Tryd.zeroValue4
  t5 := Tryd.underlying5
  a5 := Tryd.isAgg5
  z5 := Tryd.sizeOf5
  v5 := Tryd.zeroValue5
  t9 := Tryd.underlying9
  a9 := Tryd.isAgg9
  z9 := Tryd.sizeOf9
  v9 := Tryd.zeroValue9
  t46 := Tryd.underlying93
  a46 := Tryd.isAgg93
  z46 := Tryd.sizeOf93
  v46 := Tryd.zeroValue93
  t51 := Tryd.underlying133
  a51 := Tryd.isAgg133
  z51 := Tryd.sizeOf133
  v51 := Tryd.zeroValue133
  t53 := Tryd.underlying135
  a53 := Tryd.isAgg135
  z53 := Tryd.sizeOf135
  v53 := Tryd.zeroValue135 }

theorem bits_Len_ (x : Int) (w : World) (h0 : 0 ≤ x) (h1 : x ≤ 18446744073709551615) :
    Calls Tryd.prog 123 #[.int .u64 x] w fun e w' => e = .returned (.int .i64 (Lib.bitLen x.toNat)) ∧ w' = w := Any.bits_Len Tryd.lays125 x w h0 h1
theorem bitLenAux_log : ∀ (f x : Nat), 0 < x → x < 2 ^ f → Lib.bitLenAux f x = Nat.log2 x + 1
  | 0, x, h0, h => by simp at h; omega
  | f + 1, x, h0, h => by
    unfold Lib.bitLenAux
    rw [if_neg (by omega)]
    by_cases h1 : x = 1
    · subst h1
      have : Lib.bitLenAux f (1 / 2) = 0 := by
        cases f with
        | zero => rfl
        | succ f => unfold Lib.bitLenAux; simp
      rw [this]
      decide
    · have ih := bitLenAux_log f (x / 2) (by omega) (by rw [Nat.pow_succ] at h; omega)
      rw [ih]
      conv => rhs; rw [Nat.log2_def]
      rw [if_pos (by omega)]
      omega
theorem bitLen_log (x : Nat) (h0 : 0 < x) (h : x < 18446744073709551616) : Lib.bitLen x = Nat.log2 x + 1 := bitLenAux_log 64 x h0 h
theorem half_of_len (n : Nat) (h2 : 2 ≤ n) (hn : n < 1099511627776) : ∃ k : Nat, k < 40 ∧ half n = 2 ^ k ∧ Lib.bitLen (n - 1) = k + 1 := by
  refine ⟨Nat.log2 (n - 1), ?_, rfl, bitLen_log _ (by omega) (by omega)⟩
  exact (Nat.log2_lt (by omega)).2 (by omega)
theorem pow_wrap (k : Nat) (hk : k < 40) : wrap64 ((2 : Int) ^ k) = ((2 ^ k : Nat) : Int) := by
  have h : 2 ^ k < 1099511627776 := Nat.lt_of_lt_of_eq (Nat.pow_lt_pow_right (by decide) hk) (by decide : 2 ^ 40 = 1099511627776)
  rw [show (2 : Int) ^ k = ((2 ^ k : Nat) : Int) by norm_cast]
  generalize 2 ^ k = z at *
  exact wrap64_id (by omega) (by omega)
set_option maxHeartbeats 1000000 in
theorem split_calls (n : Nat) (h2 : 2 ≤ n) (hn : n < 1099511627776) (w : World) :
    Calls Tryd.prog 96 #[.int .i64 n] w fun e w' => e = .returned (.int .i64 (half n : Nat)) ∧ w' = w := by
  obtain ⟨k, hk, hh, hl⟩ := half_of_len n h2 hn
  have kl := fun W => bits_Len_ ((n : Int) - 1) W (by omega) (by omega)
  rw [show ((n : Int) - 1).toNat = n - 1 by omega, hl] at kl
  have hs := pow_wrap k hk
  rw [hh]
  have hw : IntKind.u64.wrap ((n : Int) - 1) = (n : Int) - 1 := by rw [IntKind.wrap_u64]; omega
  have hkk : ((k + 1 : Nat) : Int) - 1 = (k : Int) := by omega
  have hk0 : (0 : Int) ≤ (k : Int) := by omega
  have hk1 : (k : Int) < 40 := by omega
  have hn0 : (2 : Int) ≤ (n : Int) := by omega
  have hn1 : (n : Int) < 1099511627776 := by omega
  clear hh hl hk h2 hn
  generalize ((2 ^ k : Nat) : Int) = r at *
  go_enter Tryd.func96, Tryd.ntmps96
  go_wp2_with (go_at_call 123; refine (kl _).mono ?_; rintro e w' ⟨rfl, rfl⟩)
  go_ret
  exact ⟨by show Ending.returned (.int .i64 (wrap64 (2 ^ k))) = _; rw [hs], rfl⟩
end Go.Proofs.YtoeibcdnhglobaaDoor.P

/- proof.list: a source of nodes as it lies in memory; its Node: the walk. -/
namespace Go.Proofs.YtoeibcdnhglobaaDoor.P
set_option linter.unusedVariables false
set_option linter.unusedSimpArgs false
open Go.RowKit Go.Shelf Go.Proofs.YtoeibcdnhglobaaDoorW.PrintWords Go.Proofs.YtoeibcdnhglobaaDoorW.PrintLast Go.Proofs.YtoeibcdnhglobaaDoorW.PrintMore
open Go.Proofs.YtoeibcdnhglobaaDoor.Pure

/-- A source of K levels over the hashes h. -/
structure SrcAt (w : World) (A : Option Addr) (K : Nat) (h : List ByteArray) : Prop where
  at_ : ∀ j, j < K → ∃ ad Aj cj, A = some ad ∧ w.cell? (ad.add j) = some (.slice Aj (lvl joinH h j).length cj) ∧ ReadsOf Value.string ByteArray.empty w Aj (lvl joinH h j).length (lvl joinH h j)
  none_ : ∀ j, K ≤ j → (lvl joinH h j).length = 0
  few : K ≤ 1000001
  len : h.length ≤ 1000000
theorem SrcAt.below {w w' : World} {A : Option Addr} {K : Nat} {h : List ByteArray} (s : SrcAt w A K h) (hb : Below w.heap.size w w') : SrcAt w' A K h :=
  ⟨fun j hj => by
    obtain ⟨ad, Aj, cj, e, hc, hr⟩ := s.at_ j hj
    exact ⟨ad, Aj, cj, e, pw_cell_below hb hc, hr.below hb⟩, s.none_, s.few, s.len⟩
theorem lvl_le (h : List ByteArray) (j : Nat) : (lvl joinH h j).length ≤ h.length := by rw [lvl_length]; exact Nat.div_le_self _ _
set_option maxRecDepth 100000 in
set_option maxHeartbeats 4000000 in
/-- A node that is there. -/
theorem Node_yes (A : Option Addr) (K c : Nat) (h : List ByteArray) (j i : Nat) (w : World) (s : SrcAt w A K h) (hi : i < (lvl joinH h j).length) :
    Calls Tryd.prog 188 #[.slice A K c, .int .i64 j, .int .i64 i] w fun e w' => e = .returned (.tuple #[.string ((lvl joinH h j)[i]), .bool true]) ∧ w' = w := by
  have hj : j < K := by
    rcases Nat.lt_or_ge j K with c | c
    · exact c
    · have := s.none_ j c; omega
  obtain ⟨ad, Aj, cj, rfl, hc, hr⟩ := s.at_ j hj
  obtain ⟨ad2, rfl, hc2⟩ := hr.at_ i (by omega) (by omega)
  have hrd : rdOf ByteArray.empty (lvl joinH h j) (i : Int) = (lvl joinH h j)[i] := by simp [rdOf, List.getD_eq_getElem?_getD, hi]
  rw [hrd, Int.toNat_natCast] at hc2
  have hKm := s.few
  have hle := lvl_le h j
  have hlm := s.len
  generalize (lvl joinH h j)[i] = x at *
  generalize hn : (lvl joinH h j).length = n at *
  clear hn hr s hrd
  have d1 : decide ((j : Int) < 0) = false := decide_eq_false (by omega)
  have d2 : decide ((K : Int) ≤ (j : Int)) = false := decide_eq_false (by omega)
  have d3 : decide ((i : Int) < 0) = false := decide_eq_false (by omega)
  have d4 : decide ((n : Int) ≤ (i : Int)) = false := decide_eq_false (by omega)
  have e1 : (j : Int) < (K : Int) := by omega
  have e2 : (i : Int) < (n : Int) := by omega
  have e3 : (0 : Int) ≤ (j : Int) := by omega
  have e4 : (0 : Int) ≤ (i : Int) := by omega
  go_enter Tryd.func188, Tryd.ntmps188
  go_wp2
  go_ret2
  exact ⟨rfl, rfl⟩
set_option maxRecDepth 100000 in
set_option maxHeartbeats 4000000 in
/-- A node that is not there. -/
theorem Node_no (A : Option Addr) (K c : Nat) (h : List ByteArray) (level index : Int) (w : World) (s : SrcAt w A K h) (hno : level < 0 ∨ index < 0 ∨ (0 ≤ level ∧ 0 ≤ index ∧ ((lvl joinH h level.toNat).length : Int) ≤ index)) :
    Calls Tryd.prog 188 #[.slice A K c, .int .i64 level, .int .i64 index] w fun e w' => e = .returned (.tuple #[.string ⟨#[]⟩, .bool false]) ∧ w' = w := by
  have hKm := s.few
  by_cases h1 : level < 0
  · have d1 : decide (level < 0) = true := decide_eq_true h1
    clear hno
    go_enter Tryd.func188, Tryd.ntmps188
    go_wp2
    go_ret2
    exact ⟨rfl, rfl⟩
  have d1 : decide (level < 0) = false := decide_eq_false h1
  by_cases h2 : (K : Int) ≤ level
  · have d2 : decide ((K : Int) ≤ level) = true := decide_eq_true h2
    clear hno
    go_enter Tryd.func188, Tryd.ntmps188
    go_wp2
    go_ret2
    exact ⟨rfl, rfl⟩
  have d2 : decide ((K : Int) ≤ level) = false := decide_eq_false h2
  by_cases h3 : index < 0
  · have d3 : decide (index < 0) = true := decide_eq_true h3
    clear hno
    go_enter Tryd.func188, Tryd.ntmps188
    go_wp2
    go_ret2
    exact ⟨rfl, rfl⟩
  have d3 : decide (index < 0) = false := decide_eq_false h3
  obtain ⟨j, rfl⟩ : ∃ j : Nat, level = j := ⟨level.toNat, by omega⟩
  rw [Int.toNat_natCast] at hno
  obtain ⟨ad, Aj, cj, rfl, hc, hr⟩ := s.at_ j (by omega)
  have hle := lvl_le h j
  have hlm := s.len
  have h4 : ((lvl joinH h j).length : Int) ≤ index := by omega
  generalize hn : (lvl joinH h j).length = n at *
  clear hn hr s hno
  have d4 : decide ((n : Int) ≤ index) = true := decide_eq_true h4
  have e1 : (j : Int) < (K : Int) := by omega
  have e3 : (0 : Int) ≤ (j : Int) := by omega
  go_enter Tryd.func188, Tryd.ntmps188
  go_wp2
  go_ret2
  exact ⟨rfl, rfl⟩
end Go.Proofs.YtoeibcdnhglobaaDoor.P

/- A region that draws its order, in a round of a loop over an iterator: what serves outside a round serves there, where no operation defers. -/
namespace Go.Proofs.YtoeibcdnhglobaaDoor
set_option linter.unusedVariables false
set_option linter.unusedSimpArgs false
open Go Go.RowKit
section
variable {n l : Nat} {P : Program} {ops : Array Oper} {md : Region.Mode} {Q : Exit → Act → World → Prop}
theorem rowsIn_wide' {row : String} {args : Array Value} {w : World} {R : Value → World → Prop} (h : Go.Rows P row args w R) : RowsIn (Fence.wide.inRound l) n P row args w R := by
  intro c cs hr
  obtain ⟨v, w', r, s⟩ := h c cs
  exact ⟨v, w', r, stepsIn_wide.2 s⟩
theorem wpOpIn_of_plain {i : Nat} {K K' : Act → World → Prop} {a : Act} {w : World} (hnd : ∀ (i : Nat) (o : Oper), ops[i]? = some o → ∀ c, o.op ≠ .defer c) (hL : ¬ LetsOut Q) (hK : ∀ a w, K a w → K' a w)
    (h : wpOp P ops Q i K a w) : wpOpIn (Fence.wide.inRound l) n P ops Q i K' a w := by
  unfold wpOp at h
  unfold wpOpIn
  cases ho : ops[i]? with
  | none => simp only [ho] at h ⊢; exact hK _ _ h
  | some o =>
    simp only [ho] at h ⊢
    by_cases hw : Region.wanted o (yielded ops a.tmps) = true
    · rw [if_pos hw] at h ⊢
      rcases h with h | ⟨_, h⟩
      · unfold Oper.wp at h
        unfold Oper.wpIn
        refine ⟨fun _ _ => trivial, ?_⟩
        rw [Oper.semAt_plain _ _ _ (hnd i o ho)]
        generalize (execOp a.eval o).run P w = r at *
        cases r with
        | ok x w' =>
          cases x <;> simp only [Oper.upon] at h <;> simp only [Oper.uponIn]
          case value v => exact hK _ _ h
          case skip => exact hK _ _ h
          case defer d => exact hK _ _ h
          case enter f args =>
            refine ⟨(fun e => by cases e), CallsIn.inRound l (callsIn_wide.2 (h.mono fun e w'' he => ?_))⟩
            cases e with
            | returned v => exact hK _ _ he
            | panicked c => exact he
            | outgrown => exact he
          case row row args => exact ⟨(fun e => by cases e), rowsIn_wide' (h.mono fun v w'' he => hK _ _ he)⟩
        | halt x w' =>
          cases x <;> simp only [Oper.upon] at h <;> simp only [Oper.uponIn]
          case panic v => exact h
      · exact absurd h hL
    · rw [if_neg hw] at h ⊢
      exact ⟨fun _ _ => trivial, hK _ _ h⟩
theorem wpAnyIn_of_plain (hnd : ∀ (i : Nat) (o : Oper), ops[i]? = some o → ∀ c, o.op ≠ .defer c) (hL : ¬ LetsOut Q) : ∀ (fuel : Nat) (listed : Array Bool) (a : Act) (w : World),
    wpAny P md ops Q fuel listed a w → wpAnyIn (Fence.wide.inRound l) n P md ops Q fuel listed a w
  | 0, _, _, _, h => h
  | fuel + 1, listed, a, w, h => ⟨h.1, fun i hi => wpOpIn_of_plain hnd hL (wpAnyIn_of_plain hnd hL fuel _) (h.2 i hi)⟩
open Go.Proofs.YtoeibcdnhglobaaDoorW.PrintLast
/-- Begin such a region, by the words of WLast. -/
theorem startIn_ {S : World → Prop} {ds : List Nat} {id m : Nat} {L : List Oper} {a : Act} {w : World} (l' : Array Bool) (hnd : noDefer L = true) (hL : ¬ LetsOut Q) (hm : P.follows .mixedOrders = true) (hn : L.toArray.size = m) (hl : Array.replicate m false = l') (hS : S w.drew)
    (h : S w.drew → wpAnyLast P .any L.toArray Q S ds m l' a w.drew) : (Code.region id L.toArray true).wpIn (Fence.wide.inRound l) n P Q a w := by
  subst hn
  subst hl
  exact wpIn_region_any hm (wpAnyIn_of_plain (fun i o hi c => noDefer_at (i := i) hnd (by simpa using hi) c) hL _ _ _ _ (wpAny_of_last _ _ _ _ (h hS)))
end
end Go.Proofs.YtoeibcdnhglobaaDoor
