/- The document's tree of texts, and the law's join: by hand. -/
import Derived.Test.YtoeibcdnhglobaaDoorQx0
import Derived.Test.YtoeibcdnhglobaaDoorPureStack
import Derived.Lib.Hide
namespace Go.Proofs.YtoeibcdnhglobaaDoor.P
set_option linter.unusedVariables false
set_option linter.unusedSimpArgs false
open Go.RowKit Go.Proofs.YtoeibcdnhglobaaDoorW.PrintWords Go.Proofs.YtoeibcdnhglobaaDoorW.PrintLast Go.Proofs.YtoeibcdnhglobaaDoorW.PrintMore
open Go.Proofs.YtoeibcdnhglobaaDoor.Pure

theorem inf9 : (Tryd.prog.info? 9).map (fun i => (i.zero, i.size, i.bytes)) = some (some (.string ⟨#[]⟩), 1, 16) := by kernel_rfl
/-- Two texts, with brackets around. -/
def joinS (a b : ByteArray) : ByteArray := (((⟨#[40]⟩ : ByteArray) ++ a) ++ b) ++ (⟨#[41]⟩ : ByteArray)
theorem joinS_size (a b : ByteArray) : (joinS a b).size = a.size + b.size + 2 := by
  simp only [joinS, ByteArray.size_append]
  show 1 + a.size + b.size + 1 = _
  omega
theorem join_calls (a b : ByteArray) (h : a.size + b.size + 2 ≤ 9223372036854775807) (w : World) :
    Calls Tryd.prog 22 #[.string a, .string b] w fun e w' => e = .returned (.string (joinS a b)) ∧ w' = w := by
  have c1 : (⟨#[40]⟩ : ByteArray).size = 1 := rfl
  have c2 : (⟨#[41]⟩ : ByteArray).size = 1 := rfl
  have c3 : 1 + a.size ≤ 9223372036854775807 := by omega
  have c4 : ((⟨#[40]⟩ : ByteArray) ++ a).size + b.size ≤ 9223372036854775807 := by rw [ByteArray.size_append, c1]; omega
  have c5 : (((⟨#[40]⟩ : ByteArray) ++ a) ++ b).size + 1 ≤ 9223372036854775807 := by rw [ByteArray.size_append, ByteArray.size_append, c1]; omega
  go_enter Tryd.func22, Tryd.ntmps22
  go_wp2
  go_ret
  exact ⟨rfl, rfl⟩

theorem wrap64_id {x : Int} (h0 : -9223372036854775808 ≤ x) (h1 : x ≤ 9223372036854775807) : wrap64 x = x := by unfold wrap64; omega
theorem wr_pow {j n : Nat} (hs : 2 ^ (j + 1) = 2 ^ j * 2) (hn : n < 1099511627776) (hj : 2 ^ j < n) : wrap64 (2 * (2 : Int) ^ j) = ((2 ^ (j + 1) : Nat) : Int) := by
  have e : (2 : Int) ^ j = ((2 ^ j : Nat) : Int) := by norm_cast
  rw [e, hs, wrap64_id (by omega) (by omega)]
  omega
theorem Half_calls (n : Nat) (h2 : 2 ≤ n) (hn : n < 1099511627776) (w : World) :
    Calls Tryd.prog 83 #[.int .i64 n] w fun e w' => e = .returned (.int .i64 (half n : Nat)) ∧ w' = w := by
  go_enter Tryd.func83, Tryd.ntmps83
  go_wp2
  go_loop [3] (fun v => ∃ j : Nat, v = .int .i64 (2 ^ j : Nat) ∧ 2 ^ j < n) (fun v => n - (intOf v).toNat)
  case atStart => exact ⟨0, rfl, by omega⟩
  case round =>
    obtain ⟨j, rfl, hj⟩ := hrel
    have hp : 0 < 2 ^ j := Nat.two_pow_pos j
    have hs : 2 ^ (j + 1) = 2 ^ j * 2 := Nat.pow_succ 2 j
    have hh : 2 ^ (j + 1) < n ∨ half n = 2 ^ j := by
      rcases Nat.lt_or_ge (2 ^ (j + 1)) n with c | c
      · exact .inl c
      · right
        have := half_at (j := j) (m := n - 2 ^ j) (by omega) (by omega)
        rwa [show 2 ^ j + (n - 2 ^ j) = n by omega] at this
    have HK := Lib.hid hh; have HS := Lib.hid hs; have HP := Lib.hid hp; have HN := Lib.hid hn; clear hh hs hp hn
    go_wp2
    · rename_i hlt
      have hwr : wrap64 (2 * (2 : Int) ^ j) = ((2 ^ (j + 1) : Nat) : Int) := wr_pow HS.out HN.out hj
      rw [hwr] at hlt ⊢
      have hs := HS.out
      have hp := HP.out
      have hp2 : (2 ^ (j + 1) : Nat) < n := by omega
      refine ⟨⟨j + 1, rfl, hp2⟩, ?_⟩
      simp only [intOf]
      omega
    · have hge : (n : Int) ≤ wrap64 (2 * 2 ^ j) := by assumption
      have hwr : wrap64 (2 * (2 : Int) ^ j) = ((2 ^ (j + 1) : Nat) : Int) := wr_pow HS.out HN.out hj
      rw [hwr] at hge
      have hhalf : half n = 2 ^ j := by
        rcases HK.out with c | c
        · exfalso; omega
        · exact c
      go_ret
      rw [hhalf]
      exact ⟨by simp, rfl⟩
theorem rdS_at (l : List ByteArray) (h : 0 < l.length) : rdOf ByteArray.empty l 0 = l[0] := by
  simp [rdOf, List.getD_eq_getElem?_getD, h]
/-- The weight of texts: their sizes, and two more for each. -/
def wt (l : List ByteArray) : Nat := (l.map fun a => a.size + 2).sum
theorem wt_append (a b : List ByteArray) : wt (a ++ b) = wt a + wt b := by simp [wt]
theorem tree_size : ∀ (f : Nat) (l : List ByteArray), l.length ≤ f → (tree joinS ByteArray.empty f l).size ≤ wt l ∧ (0 < l.length → (tree joinS ByteArray.empty f l).size + 2 = wt l)
  | 0, l, h => by
    obtain rfl : l = [] := List.length_eq_zero_iff.1 (by omega)
    exact ⟨Nat.zero_le _, fun h => absurd h (Nat.lt_irrefl 0)⟩
  | f + 1, [], _ => ⟨Nat.zero_le _, fun h => absurd h (Nat.lt_irrefl 0)⟩
  | f + 1, [x], _ => ⟨by simp [tree, wt], fun _ => by simp [tree, wt]⟩
  | f + 1, x :: y :: r, h => by
    have hh := half_lt (n := r.length + 2) (by omega)
    simp only [List.length_cons] at h
    have i1 := (tree_size f ((x :: y :: r).take (half (r.length + 2))) (by simp only [List.length_take, List.length_cons]; omega)).2 (by simp only [List.length_take, List.length_cons]; omega)
    have i2 := (tree_size f ((x :: y :: r).drop (half (r.length + 2))) (by simp only [List.length_drop, List.length_cons]; omega)).2 (by simp only [List.length_drop, List.length_cons]; omega)
    have hw : wt (x :: y :: r) = wt ((x :: y :: r).take (half (r.length + 2))) + wt ((x :: y :: r).drop (half (r.length + 2))) := by rw [← wt_append, List.take_append_drop]
    have e : (tree joinS ByteArray.empty (f + 1) (x :: y :: r)).size + 2 = wt (x :: y :: r) := by
      unfold tree
      rw [joinS_size, hw]
      omega
    exact ⟨by omega, fun _ => e⟩
theorem Tree_size (l : List ByteArray) (h : 0 < l.length) : (Tree joinS ByteArray.empty l).size + 2 = wt l := (tree_size _ l (Nat.le_refl _)).2 h

set_option maxRecDepth 100000 in
set_option maxHeartbeats 1000000 in
theorem Words_calls (d : Nat) : ∀ (l : List ByteArray) (hd : l.length ≤ d) (hm : l.length < 1099511627776) (hwt : wt l ≤ 9223372036854775807) (A : Option Addr) (c : Nat) (w : World) (hr : ReadsOf Value.string ByteArray.empty w A l.length l) (hc : l.length ≤ c),
    Calls Tryd.prog 26 #[.slice A l.length c] w fun e w' => e = .returned (.string (Tree joinS ByteArray.empty l)) ∧ ∃ q, w' = w.drewN q := by
  induction d with
  | zero =>
    intro l hd hm hwt A c w hr hc
    obtain rfl : l = [] := List.length_eq_zero_iff.1 (by omega)
    clear hd hm hwt
    have h0 : (0 : Int) = 0 := rfl
    go_enter Tryd.func26, Tryd.ntmps26
    go_wp2
    go_ret
    exact ⟨rfl, 0, rfl⟩
  | succ d ih =>
    intro l hd hm hwt A c w hr hc
    match l, hd with
    | [], _ =>
      clear hwt ih
      go_enter Tryd.func26, Tryd.ntmps26
      go_wp2
      go_ret
      exact ⟨rfl, 0, rfl⟩
    | [x], _ =>
      clear hwt ih hm
      obtain ⟨ad, rfl, hcell⟩ := hr.at_ 0 (Int.le_refl 0) (by simp)
      have hx : rdOf ByteArray.empty [x] 0 = x := rfl
      rw [hx] at hcell
      have hcell' : w.cell? ad = some (.string x) := by simpa [Addr.add] using hcell
      clear hcell hx
      have g1 : (0 : Int) < (([x] : List ByteArray).length : Int) := by simp
      go_enter Tryd.func26, Tryd.ntmps26
      go_wp2
      go_ret
      exact ⟨rfl, 0, rfl⟩
    | x :: y :: r, hd =>
      have hlen2 : 2 ≤ (x :: y :: r).length := by simp
      have hT := Tree_two joinS ByteArray.empty (x :: y :: r) hlen2
      generalize hl : (x :: y :: r) = l at *
      clear hl
      have hh := half_lt hlen2
      obtain ⟨i9, hi9, _, hsz9, _⟩ := info_parts inf9
      have hq : ((half l.length : Nat) : Int).toNat = half l.length := Int.toNat_natCast _
      obtain ⟨hcut1, hA1, hC1⟩ := print_take_of (P := Tryd.prog) Value.string ByteArray.empty 22 9 .i64 Tryd.underlying22 hi9 hsz9 A c l (half l.length : Nat) (by omega) (by omega) hc
      obtain ⟨A2, hcut2, hA2, hC2⟩ := print_drop_of (P := Tryd.prog) Value.string ByteArray.empty 22 9 .i64 Tryd.underlying22 hi9 hsz9 A c l (half l.length : Nat) (by omega) (by omega) hc
      have hr1 := hA1 w hr
      have hr2 := hA2 w hr
      rw [hq] at hr1 hr2 hC1 hC2 hcut1 hcut2
      have hwt2 : wt l = wt (l.take (half l.length)) + wt (l.drop (half l.length)) := by rw [← wt_append, List.take_append_drop]
      have l1 : (l.take (half l.length)).length = half l.length := by rw [List.length_take]; omega
      have l2 : (l.drop (half l.length)).length = l.length - half l.length := by rw [List.length_drop]
      have s1 := Tree_size (l.take (half l.length)) (by omega)
      have s2 := Tree_size (l.drop (half l.length)) (by omega)
      have k1 := fun q => ih (l.take (half l.length)) (by omega) (by omega) (by omega) A c (w.drewN q) hr1 (by omega)
      have k2 := fun q => ih (l.drop (half l.length)) (by omega) (by omega) (by omega) A2 (c - half l.length) (w.drewN q) hr2 (by omega)
      have kh := Half_calls l.length hlen2 hm
      rw [hT]
      generalize Tree joinS ByteArray.empty (l.take (half l.length)) = X at *
      generalize Tree joinS ByteArray.empty (l.drop (half l.length)) = Y at *
      have c1 : (⟨#[40]⟩ : ByteArray).size = 1 := rfl
      have c2 : (⟨#[41]⟩ : ByteArray).size = 1 := rfl
      have c3 : 1 + X.size ≤ 9223372036854775807 := by omega
      have c4 : ((⟨#[40]⟩ : ByteArray) ++ X).size + Y.size ≤ 9223372036854775807 := by rw [ByteArray.size_append, c1]; omega
      have c5 : (((⟨#[40]⟩ : ByteArray) ++ X) ++ Y).size + 1 ≤ 9223372036854775807 := by rw [ByteArray.size_append, ByteArray.size_append, c1]; omega
      have e0 : ((l.length : Int) == 0) = false := beq_eq_false_iff_ne.2 (by omega)
      have e1 : ((l.length : Int) == 1) = false := beq_eq_false_iff_ne.2 (by omega)
      unfold joinS
      clear hd hm hwt hr hwt2 s1 s2 hT hA1 hA2 hr1 hr2 hi9 hsz9 hC1 hC2 hlen2 hq ih l1 l2
      generalize hgh : half l.length = m at *
      generalize (List.take m l).length = n1 at *
      generalize (List.drop m l).length = n2 at *
      generalize c - m = c2' at *
      go_enter Tryd.func26, Tryd.ntmps26
      go_wp2_with (go_at_call 83; refine (kh _).mono ?_; rintro e w' ⟨rfl, rfl⟩)
      go_quiet (first | (go_at_call 26; with_reducible exact Calls.quiet_of (k1 _)) | (go_at_call 26; with_reducible exact Calls.quiet_of (k2 _)))
      go_wp2
      go_ret
      exact ⟨rfl, nq, rfl⟩
end Go.Proofs.YtoeibcdnhglobaaDoor.P
