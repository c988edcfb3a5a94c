/- Texts of the seat, joined: GTz, GWords, GRange. -/
import Derived.Test.YtoeibcdnhglobaaDoorChecked
import Derived.Shelf.Spec.TrailingZeros
import Derived.Test.YtoeibcdnhglobaaDoorQx0
import Derived.Test.YtoeibcdnhglobaaDoorE0
import Derived.Lib.Hide
import Derived.WalkSmall
import Derived.Laws.Bits64
/- bits.TrailingZeros, laid at the program: by the shelf. -/
namespace Go.Proofs.YtoeibcdnhglobaaDoor.P
set_option linter.unusedVariables false
set_option linter.unusedSimpArgs false
open Go.Shelf
def Tryd.lays27_ren : Go.Shelf.Ren := ⟨fun | 27 => 80 | 28 => 108 | 29 => 109 | n => n, fun | 25 => 93 | 3 => 3 | 27 => 133 | 22 => 135 | 4 => 4 | 53 => 159 | 0 => 0 | 5 => 5 | 54 => 160 | n => n, fun | 0 => 0 | 1 => 1 | n => n⟩
theorem Tryd.lays27 : Go.Proofs.Lays7.n27 Tryd.prog Tryd.lays27_ren := {
  mixed := by kernel_rfl
  f27 := Tryd.func80.trans (congrArg some (by kernel_rfl))
  f28 := Tryd.func108.trans (congrArg some (by kernel_rfl))
  f29 := Tryd.func109.trans (congrArg some (by kernel_rfl))
  t0 := Tryd.underlying0
  a0 := Tryd.isAgg0
  z0 := Tryd.sizeOf0
  v0 := Tryd.zeroValue0
  i0 := by kernel_rfl
  t3 := Tryd.underlying3
  a3 := Tryd.isAgg3
  z3 := Tryd.sizeOf3
  v3 := Tryd.zeroValue3
  i3 := by kernel_rfl
  t4 := Tryd.underlying4
  a4 := Tryd.isAgg4
  z4 := Tryd.sizeOf4
  v4 := Tryd.zeroValue4
  i4 := by kernel_rfl
  t5 := Tryd.underlying5
  a5 := Tryd.isAgg5
  z5 := Tryd.sizeOf5
  v5 := Tryd.zeroValue5
  i5 := by kernel_rfl
  t22 := Tryd.underlying135
  a22 := Tryd.isAgg135
  z22 := Tryd.sizeOf135
  v22 := Tryd.zeroValue135
  i22 := by kernel_rfl
  t25 := Tryd.underlying93
  a25 := Tryd.isAgg93
  z25 := Tryd.sizeOf93
  v25 := Tryd.zeroValue93
  i25 := by kernel_rfl
  t27 := Tryd.underlying133
  a27 := Tryd.isAgg133
  z27 := Tryd.sizeOf133
  v27 := Tryd.zeroValue133
  i27 := by kernel_rfl
  t53 := Tryd.underlying159
  a53 := Tryd.isAgg159
  z53 := Tryd.sizeOf159
  v53 := Tryd.zeroValue159
  i53 := by kernel_rfl
  t54 := Tryd.underlying160
  a54 := Tryd.isAgg160
  z54 := Tryd.sizeOf160
  g0 := by kernel_rfl
  g1 := by kernel_rfl }
/-- The table that the count of trailing zeros reads lies whole. -/
def TzTab (w : World) : Prop := TabAt 1 Lib.deBruijn64tab w
theorem tz_calls (x : Nat) (hx : x < 18446744073709551616) (w : World) (hT : TabAt (Tryd.lays27_ren.g 1) Lib.deBruijn64tab w) :
    Calls Tryd.prog 80 #[.int .u64 x] w fun e w' => e = .returned (.int .i64 (Lib.ctz 64 x)) ∧ w' = w := Any7.bits_TrailingZeros Tryd.lays27 x hx w (fun _ => hT)
end Go.Proofs.YtoeibcdnhglobaaDoor.P

/- The document's tree of texts, and the law's join: by hand. -/
namespace Go.Proofs.YtoeibcdnhglobaaDoor.P
set_option linter.unusedVariables false
set_option linter.unusedSimpArgs false
open Go.RowKit Go.Proofs.YtoeibcdnhglobaaDoorW.PrintWords Go.Proofs.YtoeibcdnhglobaaDoorW.PrintLast Go.Proofs.YtoeibcdnhglobaaDoorW.PrintMore
open Go.Proofs.YtoeibcdnhglobaaDoor.Pure

theorem inf9 : (Tryd.prog.info? 9).map (fun i => (i.zero, i.size, i.bytes)) = some (some (.string ⟨#[]⟩), 1, 16) := by kernel_rfl
/-- Two texts, with brackets around. -/
def joinS (a b : ByteArray) : ByteArray := (((⟨#[40]⟩ : ByteArray) ++ a) ++ b) ++ (⟨#[41]⟩ : ByteArray)
theorem joinS_size (a b : ByteArray) : (joinS a b).size = a.size + b.size + 2 := by
  simp only [joinS, ByteArray.size_append]
  show 1 + a.size + b.size + 1 = _
  omega
theorem join_calls (a b : ByteArray) (h : a.size + b.size + 2 ≤ 9223372036854775807) (w : World) :
    Calls Tryd.prog 22 #[.string a, .string b] w fun e w' => e = .returned (.string (joinS a b)) ∧ w' = w := by
  have c1 : (⟨#[40]⟩ : ByteArray).size = 1 := rfl
  have c2 : (⟨#[41]⟩ : ByteArray).size = 1 := rfl
  have c3 : 1 + a.size ≤ 9223372036854775807 := by omega
  have c4 : ((⟨#[40]⟩ : ByteArray) ++ a).size + b.size ≤ 9223372036854775807 := by rw [ByteArray.size_append, c1]; omega
  have c5 : (((⟨#[40]⟩ : ByteArray) ++ a) ++ b).size + 1 ≤ 9223372036854775807 := by rw [ByteArray.size_append, ByteArray.size_append, c1]; omega
  go_enter Tryd.func22, Tryd.ntmps22
  go_wp2
  go_ret
  exact ⟨rfl, rfl⟩

theorem wrap64_id {x : Int} (h0 : -9223372036854775808 ≤ x) (h1 : x ≤ 9223372036854775807) : wrap64 x = x := by unfold wrap64; omega
theorem wr_pow {j n : Nat} (hs : 2 ^ (j + 1) = 2 ^ j * 2) (hn : n < 1099511627776) (hj : 2 ^ j < n) : wrap64 (2 * (2 : Int) ^ j) = ((2 ^ (j + 1) : Nat) : Int) := by
  have e : (2 : Int) ^ j = ((2 ^ j : Nat) : Int) := by norm_cast
  rw [e, hs, wrap64_id (by omega) (by omega)]
  omega
theorem Half_calls (n : Nat) (h2 : 2 ≤ n) (hn : n < 1099511627776) (w : World) :
    Calls Tryd.prog 83 #[.int .i64 n] w fun e w' => e = .returned (.int .i64 (half n : Nat)) ∧ w' = w := by
  go_enter Tryd.func83, Tryd.ntmps83
  go_wp2
  go_loop [3] (fun v => ∃ j : Nat, v = .int .i64 (2 ^ j : Nat) ∧ 2 ^ j < n) (fun v => n - (intOf v).toNat)
  case atStart => exact ⟨0, rfl, by omega⟩
  case round =>
    obtain ⟨j, rfl, hj⟩ := hrel
    have hp : 0 < 2 ^ j := Nat.two_pow_pos j
    have hs : 2 ^ (j + 1) = 2 ^ j * 2 := Nat.pow_succ 2 j
    have hh : 2 ^ (j + 1) < n ∨ half n = 2 ^ j := by
      rcases Nat.lt_or_ge (2 ^ (j + 1)) n with c | c
      · exact .inl c
      · right
        have := half_at (j := j) (m := n - 2 ^ j) (by omega) (by omega)
        rwa [show 2 ^ j + (n - 2 ^ j) = n by omega] at this
    have HK := Lib.hid hh; have HS := Lib.hid hs; have HP := Lib.hid hp; have HN := Lib.hid hn; clear hh hs hp hn
    go_wp2
    · rename_i hlt
      have hwr : wrap64 (2 * (2 : Int) ^ j) = ((2 ^ (j + 1) : Nat) : Int) := wr_pow HS.out HN.out hj
      rw [hwr] at hlt ⊢
      have hs := HS.out
      have hp := HP.out
      have hp2 : (2 ^ (j + 1) : Nat) < n := by omega
      refine ⟨⟨j + 1, rfl, hp2⟩, ?_⟩
      simp only [intOf]
      omega
    · have hge : (n : Int) ≤ wrap64 (2 * 2 ^ j) := by assumption
      have hwr : wrap64 (2 * (2 : Int) ^ j) = ((2 ^ (j + 1) : Nat) : Int) := wr_pow HS.out HN.out hj
      rw [hwr] at hge
      have hhalf : half n = 2 ^ j := by
        rcases HK.out with c | c
        · exfalso; omega
        · exact c
      go_ret
      rw [hhalf]
      exact ⟨by simp, rfl⟩
theorem rdS_at (l : List ByteArray) (h : 0 < l.length) : rdOf ByteArray.empty l 0 = l[0] := by
  simp [rdOf, List.getD_eq_getElem?_getD, h]
/-- The weight of texts: their sizes, and two more for each. -/
def wt (l : List ByteArray) : Nat := (l.map fun a => a.size + 2).sum
theorem wt_append (a b : List ByteArray) : wt (a ++ b) = wt a + wt b := by simp [wt]
theorem tree_size : ∀ (f : Nat) (l : List ByteArray), l.length ≤ f → (tree joinS ByteArray.empty f l).size ≤ wt l ∧ (0 < l.length → (tree joinS ByteArray.empty f l).size + 2 = wt l)
  | 0, l, h => by
    obtain rfl : l = [] := List.length_eq_zero_iff.1 (by omega)
    exact ⟨Nat.zero_le _, fun h => absurd h (Nat.lt_irrefl 0)⟩
  | f + 1, [], _ => ⟨Nat.zero_le _, fun h => absurd h (Nat.lt_irrefl 0)⟩
  | f + 1, [x], _ => ⟨by simp [tree, wt], fun _ => by simp [tree, wt]⟩
  | f + 1, x :: y :: r, h => by
    have hh := half_lt (n := r.length + 2) (by omega)
    simp only [List.length_cons] at h
    have i1 := (tree_size f ((x :: y :: r).take (half (r.length + 2))) (by simp only [List.length_take, List.length_cons]; omega)).2 (by simp only [List.length_take, List.length_cons]; omega)
    have i2 := (tree_size f ((x :: y :: r).drop (half (r.length + 2))) (by simp only [List.length_drop, List.length_cons]; omega)).2 (by simp only [List.length_drop, List.length_cons]; omega)
    have hw : wt (x :: y :: r) = wt ((x :: y :: r).take (half (r.length + 2))) + wt ((x :: y :: r).drop (half (r.length + 2))) := by rw [← wt_append, List.take_append_drop]
    have e : (tree joinS ByteArray.empty (f + 1) (x :: y :: r)).size + 2 = wt (x :: y :: r) := by
      unfold tree
      rw [joinS_size, hw]
      omega
    exact ⟨by omega, fun _ => e⟩
theorem Tree_size (l : List ByteArray) (h : 0 < l.length) : (Tree joinS ByteArray.empty l).size + 2 = wt l := (tree_size _ l (Nat.le_refl _)).2 h

set_option maxRecDepth 100000 in
set_option maxHeartbeats 1000000 in
theorem Words_calls (d : Nat) : ∀ (l : List ByteArray) (hd : l.length ≤ d) (hm : l.length < 1099511627776) (hwt : wt l ≤ 9223372036854775807) (A : Option Addr) (c : Nat) (w : World) (hr : ReadsOf Value.string ByteArray.empty w A l.length l) (hc : l.length ≤ c),
    Calls Tryd.prog 26 #[.slice A l.length c] w fun e w' => e = .returned (.string (Tree joinS ByteArray.empty l)) ∧ ∃ q, w' = w.drewN q := by
  induction d with
  | zero =>
    intro l hd hm hwt A c w hr hc
    obtain rfl : l = [] := List.length_eq_zero_iff.1 (by omega)
    clear hd hm hwt
    have h0 : (0 : Int) = 0 := rfl
    go_enter Tryd.func26, Tryd.ntmps26
    go_wp2
    go_ret
    exact ⟨rfl, 0, rfl⟩
  | succ d ih =>
    intro l hd hm hwt A c w hr hc
    match l, hd with
    | [], _ =>
      clear hwt ih
      go_enter Tryd.func26, Tryd.ntmps26
      go_wp2
      go_ret
      exact ⟨rfl, 0, rfl⟩
    | [x], _ =>
      clear hwt ih hm
      obtain ⟨ad, rfl, hcell⟩ := hr.at_ 0 (Int.le_refl 0) (by simp)
      have hx : rdOf ByteArray.empty [x] 0 = x := rfl
      rw [hx] at hcell
      have hcell' : w.cell? ad = some (.string x) := by simpa [Addr.add] using hcell
      clear hcell hx
      have g1 : (0 : Int) < (([x] : List ByteArray).length : Int) := by simp
      go_enter Tryd.func26, Tryd.ntmps26
      go_wp2
      go_ret
      exact ⟨rfl, 0, rfl⟩
    | x :: y :: r, hd =>
      have hlen2 : 2 ≤ (x :: y :: r).length := by simp
      have hT := Tree_two joinS ByteArray.empty (x :: y :: r) hlen2
      generalize hl : (x :: y :: r) = l at *
      clear hl
      have hh := half_lt hlen2
      obtain ⟨i9, hi9, _, hsz9, _⟩ := info_parts inf9
      have hq : ((half l.length : Nat) : Int).toNat = half l.length := Int.toNat_natCast _
      obtain ⟨hcut1, hA1, hC1⟩ := print_take_of (P := Tryd.prog) Value.string ByteArray.empty 22 9 .i64 Tryd.underlying22 hi9 hsz9 A c l (half l.length : Nat) (by omega) (by omega) hc
      obtain ⟨A2, hcut2, hA2, hC2⟩ := print_drop_of (P := Tryd.prog) Value.string ByteArray.empty 22 9 .i64 Tryd.underlying22 hi9 hsz9 A c l (half l.length : Nat) (by omega) (by omega) hc
      have hr1 := hA1 w hr
      have hr2 := hA2 w hr
      rw [hq] at hr1 hr2 hC1 hC2 hcut1 hcut2
      have hwt2 : wt l = wt (l.take (half l.length)) + wt (l.drop (half l.length)) := by rw [← wt_append, List.take_append_drop]
      have l1 : (l.take (half l.length)).length = half l.length := by rw [List.length_take]; omega
      have l2 : (l.drop (half l.length)).length = l.length - half l.length := by rw [List.length_drop]
      have s1 := Tree_size (l.take (half l.length)) (by omega)
      have s2 := Tree_size (l.drop (half l.length)) (by omega)
      have k1 := fun q => ih (l.take (half l.length)) (by omega) (by omega) (by omega) A c (w.drewN q) hr1 (by omega)
      have k2 := fun q => ih (l.drop (half l.length)) (by omega) (by omega) (by omega) A2 (c - half l.length) (w.drewN q) hr2 (by omega)
      have kh := Half_calls l.length hlen2 hm
      rw [hT]
      generalize Tree joinS ByteArray.empty (l.take (half l.length)) = X at *
      generalize Tree joinS ByteArray.empty (l.drop (half l.length)) = Y at *
      have c1 : (⟨#[40]⟩ : ByteArray).size = 1 := rfl
      have c2 : (⟨#[41]⟩ : ByteArray).size = 1 := rfl
      have c3 : 1 + X.size ≤ 9223372036854775807 := by omega
      have c4 : ((⟨#[40]⟩ : ByteArray) ++ X).size + Y.size ≤ 9223372036854775807 := by rw [ByteArray.size_append, c1]; omega
      have c5 : (((⟨#[40]⟩ : ByteArray) ++ X) ++ Y).size + 1 ≤ 9223372036854775807 := by rw [ByteArray.size_append, ByteArray.size_append, c1]; omega
      have e0 : ((l.length : Int) == 0) = false := beq_eq_false_iff_ne.2 (by omega)
      have e1 : ((l.length : Int) == 1) = false := beq_eq_false_iff_ne.2 (by omega)
      unfold joinS
      clear hd hm hwt hr hwt2 s1 s2 hT hA1 hA2 hr1 hr2 hi9 hsz9 hC1 hC2 hlen2 hq ih l1 l2
      generalize hgh : half l.length = m at *
      generalize (List.take m l).length = n1 at *
      generalize (List.drop m l).length = n2 at *
      generalize c - m = c2' at *
      go_enter Tryd.func26, Tryd.ntmps26
      go_wp2_with (go_at_call 83; refine (kh _).mono ?_; rintro e w' ⟨rfl, rfl⟩)
      go_quiet (first | (go_at_call 26; with_reducible exact Calls.quiet_of (k1 _)) | (go_at_call 26; with_reducible exact Calls.quiet_of (k2 _)))
      go_wp2
      go_ret
      exact ⟨rfl, nq, rfl⟩
end Go.Proofs.YtoeibcdnhglobaaDoor.P

/- What a range of peaks lies like in memory; the steps that touch it. -/
namespace Go.Proofs.YtoeibcdnhglobaaDoor.P
set_option linter.unusedVariables false
set_option linter.unusedSimpArgs false
open Go.RowKit Go.Proofs.YtoeibcdnhglobaaDoorW.PrintWords Go.Proofs.YtoeibcdnhglobaaDoorW.PrintLast Go.Proofs.YtoeibcdnhglobaaDoorW.PrintMore
open Go.Proofs.YtoeibcdnhglobaaDoor.Pure

/-- Only blocks of S, and new ones, have turned. -/
structure Touch (S : Nat → Prop) (w w' : World) : Prop where
  os : w'.os = w.os
  tape : w'.tape = w.tape
  output : w'.output = w.output
  size : w.heap.size ≤ w'.heap.size
  block : ∀ k, k < w.heap.size → ¬ S k → w'.heap[k]? = w.heap[k]?
theorem Touch.refl (S : Nat → Prop) (w : World) : Touch S w w := ⟨rfl, rfl, rfl, Nat.le_refl _, fun _ _ _ => rfl⟩
theorem Touch.trans {S S2 : Nat → Prop} {a b c : World} (h : Touch S a b) (k : Touch S2 b c) (hs : ∀ i, S2 i → S i ∨ a.heap.size ≤ i) : Touch S a c :=
  ⟨k.os.trans h.os, k.tape.trans h.tape, k.output.trans h.output, Nat.le_trans h.size k.size, fun i hi hn => (k.block i (Nat.lt_of_lt_of_le hi h.size) (fun e => by rcases hs i e with e | e; exact hn e; omega)).trans (h.block i hi hn)⟩
theorem Touch.mono {S S2 : Nat → Prop} {a b : World} (h : Touch S a b) (hs : ∀ i, S i → S2 i) : Touch S2 a b := ⟨h.os, h.tape, h.output, h.size, fun i hi hn => h.block i hi (fun e => hn (hs i e))⟩
theorem Touch.of_below {S : Nat → Prop} {a b : World} (h : Below a.heap.size a b) : Touch S a b := ⟨h.os, h.tape, h.output, h.size, fun i hi _ => h.block i hi⟩
theorem Touch.below {S : Nat → Prop} {a b c : World} (h : Touch S a b) (k : Below b.heap.size b c) : Touch S a c := h.trans (Touch.of_below (S := fun _ => False) k) (fun _ e => e.elim)
theorem Touch.set {S : Nat → Prop} (a : World) (p : Addr) (u : Value) (hp : S p.block) : Touch S a (a.setCell p u) := ⟨rfl, rfl, rfl, by simp [World.setCell], fun i _ hn => Below.heap_setCell _ _ _ _ (fun e => hn (e ▸ hp))⟩
theorem Touch.grown {S : Nat → Prop} {a b : World} {row : Option Nat} (hg : a.grownBy b row) (hr : ∀ k, row = some k → S k) : Touch S a b := ⟨hg.os, hg.tape, hg.output, hg.size, fun i hi hn => hg.block i hi (fun e => hn (hr i e.symm))⟩
theorem Touch.to_below {S : Nat → Prop} {a b : World} {B : Nat} (h : Touch S a b) (hB : B ≤ a.heap.size) (hs : ∀ i, S i → B ≤ i) : Below B a b := ⟨h.os, h.tape, h.output, h.size, fun i hi => h.block i (by omega) (fun e => by have := hs i e; omega)⟩
theorem Touch.drewN {S : Nat → Prop} {a b : World} (h : Touch S a b) (q : Nat) : Touch S a (b.drewN q) := ⟨h.os, h.tape, h.output, h.size, h.block⟩
theorem Touch.drew {S : Nat → Prop} {a b : World} (h : Touch S a b) : Touch S a b.drew := ⟨h.os, h.tape, h.output, h.size, h.block⟩
theorem Touch.blk {S : Nat → Prop} {a b : World} (h : Touch S a b) {i : Nat} {o : Obj} (ho : a.heap[i]? = some o) (hn : ¬ S i) : b.heap[i]? = some o := (h.block i (Array.getElem?_eq_some_iff.1 ho).1 hn).trans ho

/-- What a row that is owned looks like stays, where its block stays. -/
theorem own_blk {w w' : World} {base : Nat} {e : TypeId} {size : Nat} {v : Value} {n : Nat} {xs : List Value} (h : w.ownsRow base e size v n xs) (hb : ∀ g, v.ownBlock = some g → w'.heap[g]? = w.heap[g]?) : w'.ownsRow base e size v n xs := by
  refine ⟨h.1, ?_⟩
  rcases h.2 with h0 | ⟨g, cap, cur, rfl, h1, h2, h3⟩
  · exact .inl h0
  · exact .inr ⟨g, cap, cur, rfl, h1, (hb g rfl).trans h2, h3⟩
theorem own_ne {w : World} {base : Nat} {e : TypeId} {size : Nat} {v : Value} {n : Nat} {xs : List Value} (h : w.ownsRow base e size v n xs) {b : Nat} {cs : Array Value} {t : TypeId} {fr : Nat × Nat} (hb : w.heap[b]? = some (.cells cs t fr)) (ht : t ≠ e) : v.ownBlock ≠ some b := by
  rcases h.2 with ⟨rfl, _⟩ | ⟨g, cap, cur, rfl, h1, h2, h3⟩
  · intro e'; cases e'
  · intro e'
    cases e'
    rw [hb] at h2
    cases h2
    exact ht rfl
theorem bits_not (n : Nat) (h : n < 18446744073709551616) : bits .xor .u64 IntKind.u64.max n = ((18446744073709551615 - n : Nat) : Int) := by
  rw [show IntKind.u64.max = ((18446744073709551615 : Nat) : Int) by decide, bits_xor_u64_nat _ _ (by omega) h]
  congr 1
  apply Nat.eq_of_testBit_eq
  intro i
  rw [Nat.testBit_xor, show 18446744073709551615 - n = 2 ^ 64 - (n + 1) by omega, Nat.testBit_two_pow_sub_succ (by omega), show (18446744073709551615 : Nat) = 2 ^ 64 - 1 from rfl, Nat.testBit_two_pow_sub_one]
  by_cases c : i < 64
  · simp [c]
  · simp [c]; exact Nat.testBit_lt_two_pow (Nat.lt_of_lt_of_le h (Nat.pow_le_pow_right (n := 2) (by decide) (Nat.le_of_not_lt c)))
theorem tz_not (n : Nat) (h : n < 9223372036854775808) (w : World) (hT : TzTab w) :
    Calls Tryd.prog 80 #[.int .u64 (bits .xor .u64 IntKind.u64.max n)] w fun e w' => e = .returned (.int .i64 (tn 64 n : Nat)) ∧ w' = w := by
  rw [bits_not n (by omega), ← ctz_tn n h]
  exact tz_calls _ (by omega) w hT
/-- The joins of a merge, each one allowed. -/
def mergeOk {α : Type} (ok : α → α → Prop) (J : α → α → α) : Nat → α → List α → Prop
  | 0, _, _ => True
  | _ + 1, _, [] => True
  | t + 1, h, p :: st => ok p h ∧ mergeOk ok J t (J p h) st
end Go.Proofs.YtoeibcdnhglobaaDoor.P
