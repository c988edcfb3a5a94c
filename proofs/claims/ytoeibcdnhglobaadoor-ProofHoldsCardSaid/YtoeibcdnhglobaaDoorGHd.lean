/- pantileref10.LongProof, Old, New, pantilelaw10.ProofHolds: the walks. -/
import Derived.Test.YtoeibcdnhglobaaDoorGChC
import Derived.Test.YtoeibcdnhglobaaDoorGFw
namespace Go.Proofs.YtoeibcdnhglobaaDoor.P
set_option linter.unusedVariables false
set_option linter.unusedSimpArgs false
open Go.RowKit Go.Shelf Go.Proofs.YtoeibcdnhglobaaDoorW.PrintWords Go.Proofs.YtoeibcdnhglobaaDoorW.PrintLast Go.Proofs.YtoeibcdnhglobaaDoorW.PrintMore
open Go.Proofs.YtoeibcdnhglobaaDoor.Pure

theorem longP_le : ∀ (f m n : Nat) (kn : Bool), 1 ≤ m → m ≤ n → longP f m n kn ≤ n
  | 0, _, _, _, _, _ => Nat.zero_le _
  | f + 1, m, n, kn, h1, hm => by
    unfold longP
    by_cases he : m = n
    · rw [if_pos he]
      split <;> omega
    · have hh := half_lt (n := n) (by omega)
      rw [if_neg he]
      by_cases hc : m ≤ half n
      · rw [if_pos hc]; have := longP_le f m (half n) kn h1 hc; omega
      · rw [if_neg hc]; have := longP_le f (m - half n) (n - half n) false (by omega) (by omega); omega
set_option maxRecDepth 100000 in
set_option maxHeartbeats 4000000 in
theorem RLongP_calls (d : Nat) : ∀ (f m n : Nat) (kn : Bool) (z y : Int) (w : World), n ≤ d → n ≤ f → 1 ≤ m → m ≤ n → z = m → y = n → n ≤ 1048576 →
    Calls Tryd.prog 59 #[.int .i64 z, .int .i64 y, .bool kn] w fun e w' => e = .returned (.int .i64 (longP f m n kn)) ∧ w' = w := by
  induction d with
  | zero => intro f m n kn z y w hd hf h1; omega
  | succ d ih =>
    intro f m n kn z y w hd hf h1 hmn hz hy hle
    obtain ⟨f, rfl⟩ : ∃ g, f = g + 1 := ⟨f - 1, by omega⟩
    subst hz
    subst hy
    by_cases he : m = n
    · have e1 : (m == n) = true := beq_iff_eq.2 he
      have e1i : ((m : Int) == (n : Int)) = true := by rw [beq_iff_eq, he]
      cases kn with
      | true =>
        have el : longP (f + 1) m n true = 0 := by unfold longP; rw [if_pos he, if_pos rfl]
        rw [el]
        clear el ih he
        go_enter Tryd.func59, Tryd.ntmps59
        go_wp2
        go_ret
        exact ⟨rfl, rfl⟩
      | false =>
        have el : longP (f + 1) m n false = 1 := by unfold longP; rw [if_pos he, if_neg (by decide)]
        rw [el]
        clear el ih he
        go_enter Tryd.func59, Tryd.ntmps59
        go_wp2
        go_ret
        exact ⟨rfl, rfl⟩
    · have e1 : (m == n) = false := beq_eq_false_iff_ne.2 he
      have e1i : ((m : Int) == (n : Int)) = false := beq_eq_false_iff_ne.2 (by omega)
      have hm := half_lt (n := n) (by omega)
      have kh := fun W => Half_calls n (by omega) (by omega) W
      have hnI : (n : Int) ≤ 1048576 := by omega
      have g5 : ((half n : Nat) : Int) ≤ (n : Int) := by omega
      have g6 : (0 : Int) ≤ ((half n : Nat) : Int) := by omega
      have g7 : (m : Int) ≤ (n : Int) := by omega
      by_cases hc : m ≤ half n
      · have el : longP (f + 1) m n kn = longP f m (half n) kn + 1 := by
          show (if m = n then _ else _) = _
          rw [if_neg he, if_pos hc]
        have d1 : decide (m ≤ half n) = true := decide_eq_true hc
        have k1 := fun W => ih f m (half n) kn (m : Int) ((half n : Nat) : Int) W (by omega) (by omega) h1 hc rfl rfl (by omega)
        have hK := longP_le f m (half n) kn h1 hc
        rw [el]
        generalize longP f m (half n) kn = K at *
        have hKI : (K : Int) ≤ 1048576 := by omega
        have e7 : (1 : Int) + (K : Int) = ((K + 1 : Nat) : Int) := by omega
        generalize half n = mh at *
        clear el ih he hd hf hK hmn
        go_enter Tryd.func59, Tryd.ntmps59
        go_wp2_with (first
          | (go_at_call 83; refine (kh _).mono ?_; rintro e w' ⟨rfl, hw'⟩; rw [hw']; clear hw' w')
          | (go_at_call 59; refine (k1 _).mono ?_; rintro e w' ⟨rfl, hw'⟩; rw [hw']; clear hw' w'))
        go_ret
        exact ⟨by simp only [e7]; try rfl, rfl⟩
      · have el : longP (f + 1) m n kn = longP f (m - half n) (n - half n) false + 1 := by
          show (if m = n then _ else _) = _
          rw [if_neg he, if_neg hc]
        have d1 : decide (m ≤ half n) = false := decide_eq_false hc
        have k1 := fun W => ih f (m - half n) (n - half n) false ((m : Int) - ((half n : Nat) : Int)) ((n : Int) - ((half n : Nat) : Int)) W (by omega) (by omega) (by omega) (by omega) (by omega) (by omega) (by omega)
        have hK := longP_le f (m - half n) (n - half n) false (by omega) (by omega)
        rw [el]
        generalize longP f (m - half n) (n - half n) false = K at *
        have hKI : (K : Int) ≤ 1048576 := by omega
        have e7 : (1 : Int) + (K : Int) = ((K + 1 : Nat) : Int) := by omega
        generalize half n = mh at *
        clear el ih he hd hf hK hmn
        go_enter Tryd.func59, Tryd.ntmps59
        go_wp2_with (first
          | (go_at_call 83; refine (kh _).mono ?_; rintro e w' ⟨rfl, hw'⟩; rw [hw']; clear hw' w')
          | (go_at_call 59; refine (k1 _).mono ?_; rintro e w' ⟨rfl, hw'⟩; rw [hw']; clear hw' w'))
        go_ret
        exact ⟨by simp only [e7]; try rfl, rfl⟩
set_option maxRecDepth 100000 in
set_option maxHeartbeats 8000000 in
theorem ROld_calls (old : ByteArray) (A : Option Addr) (P : List ByteArray) (c : Nat) (hc : P.length ≤ c) (B : Nat) (hB : B < 100000000) (hB2 : 32 ≤ B) (hold : old.size ≤ B) (hP : ∀ s ∈ P, s.size ≤ B) (hPl : P.length ≤ 1000000) (d : Nat) :
    ∀ (f n m j : Nat) (kn : Bool) (z y : Int) (w : World), ReadsOf Value.string ByteArray.empty w A P.length P → n ≤ d → n ≤ f → 1 ≤ m → m ≤ n → z = m → y = n → n ≤ 1048576 → j ≤ P.length → j = longP f m n kn →
    Calls Tryd.prog 60 #[.int .i64 z, .int .i64 y, .slice A j c, .string old, .bool kn] w fun e w' => e = .returned (.string (oldR old P f m n j kn)) ∧ Below w.heap.size w w' := by
  induction d with
  | zero => intro f n m j kn z y w hr hd hf h1; omega
  | succ d ih =>
    intro f n m j kn z y w hr hd hf h1 hmn hz hy hle hj hjl
    obtain ⟨f, rfl⟩ : ∃ g, f = g + 1 := ⟨f - 1, by omega⟩
    subst hz
    subst hy
    have hnI : (n : Int) ≤ 1048576 := by omega
    have g7 : (m : Int) ≤ (n : Int) := by omega
    by_cases he : m = n
    · have e1 : (m == n) = true := beq_iff_eq.2 he
      have e1i : ((m : Int) == (n : Int)) = true := by rw [beq_iff_eq, he]
      cases kn with
      | true =>
        have ec : oldR old P (f + 1) m n j true = old := by unfold oldR; rw [if_pos he, if_pos rfl]
        rw [ec]
        clear ec ih hr hP hjl he
        go_enter Tryd.func60, Tryd.ntmps60
        go_wp2
        go_ret
        exact ⟨rfl, Below.refl _ _⟩
      | false =>
        have ec : oldR old P (f + 1) m n j false = tkS P j := by unfold oldR; rw [if_pos he, if_neg (by decide)]
        have hj1 : j = 1 := by rw [hjl]; unfold longP; rw [if_pos he, if_neg (by decide)]
        subst hj1
        obtain ⟨ad, rfl, hcell⟩ := hr.at_ 0 (by omega) (by omega)
        have htk : rdOf ByteArray.empty P 0 = tkS P 1 := (tkS_take P 1 (by omega) hj).symm
        rw [htk] at hcell
        have hcell' : w.cell? ad = some (.string (tkS P 1)) := by simpa [Addr.add] using hcell
        rw [ec]
        generalize tkS P 1 = X at *
        clear ec ih hr hP hjl he hcell htk
        go_enter Tryd.func60, Tryd.ntmps60
        go_wp2
        go_ret
        exact ⟨rfl, Below.refl _ _⟩
    · have e1 : (m == n) = false := beq_eq_false_iff_ne.2 he
      have e1i : ((m : Int) == (n : Int)) = false := beq_eq_false_iff_ne.2 (by omega)
      have hm := half_lt (n := n) (by omega)
      have kh := fun W => Half_calls n (by omega) (by omega) W
      have g5 : ((half n : Nat) : Int) ≤ (n : Int) := by omega
      have g6 : (0 : Int) ≤ ((half n : Nat) : Int) := by omega
      have hj1 : 0 < j := by
        rw [hjl]; unfold longP; rw [if_neg he]; omega
      obtain ⟨i, hi⟩ : ∃ i, i = j - 1 := ⟨_, rfl⟩
      obtain ⟨ad, rfl, hcell⟩ := hr.at_ (i : Int) (by omega) (by omega)
      have htk : rdOf ByteArray.empty P (i : Int) = tkS P j := by rw [hi]; exact (tkS_take P j hj1 hj).symm
      rw [htk, Int.toNat_natCast] at hcell
      have hxs := tkS_sz P B hP j
      have g8 : (j : Int) - 1 = (i : Int) := by omega
      have g9 : (i : Int) < (j : Int) := by omega
      have g10 : (j : Int) ≤ 1000000 := by omega
      have g11 : (i : Int) ≤ (c : Int) := by omega
      by_cases hcase : m ≤ half n
      · have ec : oldR old P (f + 1) m n j kn = oldR old P f m (half n) (j - 1) kn := by
          show (if m = n then _ else _) = _
          rw [if_neg he, if_pos hcase]
        have el : j - 1 = longP f m (half n) kn := by
          rw [hjl]
          show (if m = n then _ else _) - 1 = _
          rw [if_neg he, if_pos hcase]; rfl
        have k1 := ih f (half n) m (j - 1) kn (m : Int) ((half n : Nat) : Int) w hr (by omega) (by omega) h1 hcase rfl rfl (by omega) (by omega) el
        have hcs := oldR_sz old P B hold hB2 hP f m (half n) (j - 1) kn
        rw [ec]
        rw [← hi] at k1 hcs ⊢
        generalize oldR old P f m (half n) i kn = Y at *
        generalize tkS P j = X at *
        have d1 : decide (m ≤ half n) = true := decide_eq_true hcase
        generalize half n = mh at *
        clear ih hP hr ec el hjl hm he hd hf hxs hcs hold hle hj htk hi
        show Calls _ _ _ _ fun e w' => e = .returned (.string Y) ∧ _
        go_enter Tryd.func60, Tryd.ntmps60
        go_wp2_with (first
          | (go_at_call 83; refine (kh _).mono ?_; rintro e w' ⟨rfl, hw'⟩; rw [hw']; clear hw' w')
          | (go_at_call 60; go_loud (with_reducible refine k1.mono ?_; rintro e w1 ⟨rfl, hb1⟩; clear k1)))
        go_ret
        exact ⟨rfl, hb1⟩
      · have ec : oldR old P (f + 1) m n j kn = joinH (tkS P j) (oldR old P f (m - half n) (n - half n) (j - 1) false) := by
          show (if m = n then _ else _) = _
          rw [if_neg he, if_neg hcase]
        have el : j - 1 = longP f (m - half n) (n - half n) false := by
          rw [hjl]
          show (if m = n then _ else _) - 1 = _
          rw [if_neg he, if_neg hcase]; rfl
        have k1 := ih f (n - half n) (m - half n) (j - 1) false ((m : Int) - ((half n : Nat) : Int)) ((n : Int) - ((half n : Nat) : Int)) w hr (by omega) (by omega) (by omega) (by omega) (by omega) (by omega) (by omega) (by omega) el
        have hcs := oldR_sz old P B hold hB2 hP f (m - half n) (n - half n) (j - 1) false
        rw [ec]
        rw [← hi] at k1 hcs ⊢
        generalize oldR old P f (m - half n) (n - half n) i false = Y at *
        generalize tkS P j = X at *
        have kN := fun W => NodeR_calls X Y (by omega) W
        have d1 : decide (m ≤ half n) = false := decide_eq_false hcase
        generalize half n = mh at *
        clear ih hP hr ec el hjl hm he hd hf hxs hcs hold hle hj htk hi
        show Calls _ _ _ _ fun e w' => e = .returned (.string (nodeH X Y)) ∧ _
        go_enter Tryd.func60, Tryd.ntmps60
        go_wp2_with (first
          | (go_at_call 83; refine (kh _).mono ?_; rintro e w' ⟨rfl, hw'⟩; rw [hw']; clear hw' w')
          | (go_at_call 60; go_loud (with_reducible refine k1.mono ?_; rintro e w1 ⟨rfl, hb1⟩; clear k1))
          | (go_at_call 42; go_loud (refine (kN _).mono ?_; rintro e w2 ⟨rfl, hb2⟩)))
        go_ret
        exact ⟨rfl, hb1.trans (hb2.mono hb1.size)⟩
set_option maxRecDepth 100000 in
set_option maxHeartbeats 8000000 in
theorem RNew_calls (old : ByteArray) (A : Option Addr) (P : List ByteArray) (c : Nat) (hc : P.length ≤ c) (B : Nat) (hB : B < 100000000) (hB2 : 32 ≤ B) (hold : old.size ≤ B) (hP : ∀ s ∈ P, s.size ≤ B) (hPl : P.length ≤ 1000000) (d : Nat) :
    ∀ (f n m j : Nat) (kn : Bool) (z y : Int) (w : World), ReadsOf Value.string ByteArray.empty w A P.length P → n ≤ d → n ≤ f → 1 ≤ m → m ≤ n → z = m → y = n → n ≤ 1048576 → j ≤ P.length → j = longP f m n kn →
    Calls Tryd.prog 61 #[.int .i64 z, .int .i64 y, .slice A j c, .string old, .bool kn] w fun e w' => e = .returned (.string (newR old P f m n j kn)) ∧ Below w.heap.size w w' := by
  induction d with
  | zero => intro f n m j kn z y w hr hd hf h1; omega
  | succ d ih =>
    intro f n m j kn z y w hr hd hf h1 hmn hz hy hle hj hjl
    obtain ⟨f, rfl⟩ : ∃ g, f = g + 1 := ⟨f - 1, by omega⟩
    subst hz
    subst hy
    have hnI : (n : Int) ≤ 1048576 := by omega
    have g7 : (m : Int) ≤ (n : Int) := by omega
    by_cases he : m = n
    · have e1 : (m == n) = true := beq_iff_eq.2 he
      have e1i : ((m : Int) == (n : Int)) = true := by rw [beq_iff_eq, he]
      cases kn with
      | true =>
        have ec : newR old P (f + 1) m n j true = old := by unfold newR; rw [if_pos he, if_pos rfl]
        rw [ec]
        clear ec ih hr hP hjl he
        go_enter Tryd.func61, Tryd.ntmps61
        go_wp2
        go_ret
        exact ⟨rfl, Below.refl _ _⟩
      | false =>
        have ec : newR old P (f + 1) m n j false = tkS P j := by unfold newR; rw [if_pos he, if_neg (by decide)]
        have hj1 : j = 1 := by rw [hjl]; unfold longP; rw [if_pos he, if_neg (by decide)]
        subst hj1
        obtain ⟨ad, rfl, hcell⟩ := hr.at_ 0 (by omega) (by omega)
        have htk : rdOf ByteArray.empty P 0 = tkS P 1 := (tkS_take P 1 (by omega) hj).symm
        rw [htk] at hcell
        have hcell' : w.cell? ad = some (.string (tkS P 1)) := by simpa [Addr.add] using hcell
        rw [ec]
        generalize tkS P 1 = X at *
        clear ec ih hr hP hjl he hcell htk
        go_enter Tryd.func61, Tryd.ntmps61
        go_wp2
        go_ret
        exact ⟨rfl, Below.refl _ _⟩
    · have e1 : (m == n) = false := beq_eq_false_iff_ne.2 he
      have e1i : ((m : Int) == (n : Int)) = false := beq_eq_false_iff_ne.2 (by omega)
      have hm := half_lt (n := n) (by omega)
      have kh := fun W => Half_calls n (by omega) (by omega) W
      have g5 : ((half n : Nat) : Int) ≤ (n : Int) := by omega
      have g6 : (0 : Int) ≤ ((half n : Nat) : Int) := by omega
      have hj1 : 0 < j := by
        rw [hjl]; unfold longP; rw [if_neg he]; omega
      obtain ⟨i, hi⟩ : ∃ i, i = j - 1 := ⟨_, rfl⟩
      obtain ⟨ad, rfl, hcell⟩ := hr.at_ (i : Int) (by omega) (by omega)
      have htk : rdOf ByteArray.empty P (i : Int) = tkS P j := by rw [hi]; exact (tkS_take P j hj1 hj).symm
      rw [htk, Int.toNat_natCast] at hcell
      have hxs := tkS_sz P B hP j
      have g8 : (j : Int) - 1 = (i : Int) := by omega
      have g9 : (i : Int) < (j : Int) := by omega
      have g10 : (j : Int) ≤ 1000000 := by omega
      have g11 : (i : Int) ≤ (c : Int) := by omega
      by_cases hcase : m ≤ half n
      · have ec : newR old P (f + 1) m n j kn = joinH (newR old P f m (half n) (j - 1) kn) (tkS P j) := by
          show (if m = n then _ else _) = _
          rw [if_neg he, if_pos hcase]
        have el : j - 1 = longP f m (half n) kn := by
          rw [hjl]
          show (if m = n then _ else _) - 1 = _
          rw [if_neg he, if_pos hcase]; rfl
        have k1 := ih f (half n) m (j - 1) kn (m : Int) ((half n : Nat) : Int) w hr (by omega) (by omega) h1 hcase rfl rfl (by omega) (by omega) el
        have hcs := newR_sz old P B hold hB2 hP f m (half n) (j - 1) kn
        rw [ec]
        rw [← hi] at k1 hcs ⊢
        generalize newR old P f m (half n) i kn = Y at *
        generalize tkS P j = X at *
        have kN := fun W => NodeR_calls Y X (by omega) W
        have d1 : decide (m ≤ half n) = true := decide_eq_true hcase
        generalize half n = mh at *
        clear ih hP hr ec el hjl hm he hd hf hxs hcs hold hle hj htk hi
        show Calls _ _ _ _ fun e w' => e = .returned (.string (nodeH Y X)) ∧ _
        go_enter Tryd.func61, Tryd.ntmps61
        go_wp2_with (first
          | (go_at_call 83; refine (kh _).mono ?_; rintro e w' ⟨rfl, hw'⟩; rw [hw']; clear hw' w')
          | (go_at_call 61; go_loud (with_reducible refine k1.mono ?_; rintro e w1 ⟨rfl, hb1⟩; clear k1))
          | (go_at_call 42; go_loud (refine (kN _).mono ?_; rintro e w2 ⟨rfl, hb2⟩)))
        go_ret
        exact ⟨rfl, hb1.trans (hb2.mono hb1.size)⟩
      · have ec : newR old P (f + 1) m n j kn = joinH (tkS P j) (newR old P f (m - half n) (n - half n) (j - 1) false) := by
          show (if m = n then _ else _) = _
          rw [if_neg he, if_neg hcase]
        have el : j - 1 = longP f (m - half n) (n - half n) false := by
          rw [hjl]
          show (if m = n then _ else _) - 1 = _
          rw [if_neg he, if_neg hcase]; rfl
        have k1 := ih f (n - half n) (m - half n) (j - 1) false ((m : Int) - ((half n : Nat) : Int)) ((n : Int) - ((half n : Nat) : Int)) w hr (by omega) (by omega) (by omega) (by omega) (by omega) (by omega) (by omega) (by omega) el
        have hcs := newR_sz old P B hold hB2 hP f (m - half n) (n - half n) (j - 1) false
        rw [ec]
        rw [← hi] at k1 hcs ⊢
        generalize newR old P f (m - half n) (n - half n) i false = Y at *
        generalize tkS P j = X at *
        have kN := fun W => NodeR_calls X Y (by omega) W
        have d1 : decide (m ≤ half n) = false := decide_eq_false hcase
        generalize half n = mh at *
        clear ih hP hr ec el hjl hm he hd hf hxs hcs hold hle hj htk hi
        show Calls _ _ _ _ fun e w' => e = .returned (.string (nodeH X Y)) ∧ _
        go_enter Tryd.func61, Tryd.ntmps61
        go_wp2_with (first
          | (go_at_call 83; refine (kh _).mono ?_; rintro e w' ⟨rfl, hw'⟩; rw [hw']; clear hw' w')
          | (go_at_call 61; go_loud (with_reducible refine k1.mono ?_; rintro e w1 ⟨rfl, hb1⟩; clear k1))
          | (go_at_call 42; go_loud (refine (kN _).mono ?_; rintro e w2 ⟨rfl, hb2⟩)))
        go_ret
        exact ⟨rfl, hb1.trans (hb2.mono hb1.size)⟩
set_option maxRecDepth 100000 in
set_option maxHeartbeats 8000000 in
theorem ProofHolds_calls (m n : Int) (A : Option Addr) (c : Nat) (l : List ByteArray) (old new : ByteArray) (w : World) (hr : ReadsOf Value.string ByteArray.empty w A l.length l) (hT : TzTab w) (hG : GlobH w) :
    Calls Tryd.prog 13 #[.int .i64 m, .int .i64 n, .slice A l.length c, .string old, .string new] w fun e w' => e = .returned (.bool true) ∧ Below w.heap.size w w' := by
  have kF : Calls Tryd.prog 51 #[.slice A l.length c] w fun e w' => ∃ A1 c1, e = .returned (.slice A1 (fewR l).length c1) ∧ (fewR l).length ≤ c1 ∧ ReadsOf Value.string ByteArray.empty w' A1 (fewR l).length (fewR l) ∧ Below w.heap.size w w' := by
    refine (few_calls A c l w hr).mono ?_
    rintro e w' ⟨v, rfl, ho, hb⟩
    obtain ⟨A1, c1, rfl, hc⟩ := own_slc0 ho
    exact ⟨A1, c1, rfl, hc, own_reads_of' (d := ByteArray.empty) ho, hb⟩
  have k1 := fun W => few_one old W
  have k2 := fun W => few_one new W
  have kL := fun (W : World) (hW : Below w.heap.size w W) => lives10_calls W (hT.below hW hT.lt) (hG.below hW)
  have hsz := fewR_sz l
  have hln := fewR_len l
  have s1 := cut40_sz old
  generalize fewR l = P at *
  generalize l.length = ln at *
  generalize cut40 old = old2 at *
  generalize cut40 new = new2 at *
  by_cases hbad : (n < 0 ∨ 1048576 < n) ∨ m < 0 ∨ n < m
  · have kC := fun v W => CheckConsistency_range old2 new2 m n v W (by
      rcases hbad with h | h
      · exact .inl (decide_eq_false (by omega))
      · exact .inr h)
    obtain ⟨x0, e0⟩ : ∃ b, decide (n < 0) = b := ⟨_, rfl⟩
    obtain ⟨x1, e1⟩ : ∃ b, decide (1048576 < n) = b := ⟨_, rfl⟩
    obtain ⟨x2, e2⟩ : ∃ b, decide (m < 0) = b := ⟨_, rfl⟩
    obtain ⟨x3, e3⟩ : ∃ b, decide (n < m) = b := ⟨_, rfl⟩
    have hx : (x0 || x1 || x2 || x3) = true := by
      rw [← e0, ← e1, ← e2, ← e3]
      simp only [Bool.or_eq_true, decide_eq_true_eq]
      omega
    clear hsz hbad hT hG hr hln s1
    generalize P.length = p at *
    cases x0 <;> cases x1 <;> cases x2 <;> cases x3 <;> first | (exact absurd hx (by decide)) | skip
    all_goals
      clear hx
      go_enter Tryd.func13, Tryd.ntmps13
      go_wp2_with (first
        | (go_at_call 51; first
          | (with_reducible refine kF.mono ?_; rintro e w1 ⟨A1, c1, rfl, hc1, r1, hb1⟩; clear kF)
          | (with_reducible refine (k1 _).mono ?_; rintro e w2 ⟨g2, c2, rfl, q2, hb2⟩; have hB2 := hb1.trans (hb2.mono hb1.size); have r2 := r1.below hb2; clear k1 r1)
          | (with_reducible refine (k2 _).mono ?_; rintro e w3 ⟨g3, c3, rfl, q3, hb3⟩; have hB3 := hB2.trans (hb3.mono hB2.size); have r3 := r2.below hb3; clear k2 r2))
        | (go_at_call 58; go_loud (refine (kC _ _).mono ?_; rintro e w4 ⟨rfl, hb4⟩; have hB4 := hB3.trans (hb4.mono hB3.size); have r4 := r3.below hb4; clear r3))
        | (go_at_call 59; refine (kG _).mono ?_; rintro e w' ⟨rfl, hw'⟩; rw [hw']; clear hw' w')
        | (go_at_call 60; go_loud (refine (kR _ _ _ r4 hc1).mono ?_; rintro e w5 ⟨rfl, hb5⟩; have hB5 := hB4.trans (hb5.mono hB4.size); have r5 := r4.below hb5))
        | (go_at_call 61; go_loud (refine (kN _ _ _ r5 hc1).mono ?_; rintro e w6 ⟨rfl, hb6⟩; have hB6 := hB5.trans (hb6.mono hB5.size)))
        | (go_at_call 49; go_loud (refine (kL _ hB4).mono ?_; rintro e w7 ⟨rfl, hb7⟩)))
      go_ret
      exact ⟨rfl, hB4.trans (hb7.mono hB4.size)⟩
  · obtain ⟨m, rfl⟩ : ∃ j : Nat, m = j := ⟨m.toNat, by omega⟩
    obtain ⟨n, rfl⟩ : ∃ j : Nat, n = j := ⟨n.toNat, by omega⟩
    have e0 : decide ((n : Int) < 0) = false := decide_eq_false (by omega)
    have e1 : decide ((1048576 : Int) < (n : Int)) = false := decide_eq_false (by omega)
    have e2 : decide ((m : Int) < 0) = false := decide_eq_false (by omega)
    have e3 : decide (n < m) = false := decide_eq_false (by omega)
    by_cases h0 : m = 0
    · subst h0
      have kC := fun (A : Option Addr) (c : Nat) (W : World) => CheckConsistency_zero old2 new2 n A P.length c W (by omega)
      by_cases hp : P.length = 0
      · rw [if_pos hp] at kC
        clear hsz hbad hT hG hr hln s1
        generalize P.length = p at *
        subst hp
        go_enter Tryd.func13, Tryd.ntmps13
        go_wp2_with (first
          | (go_at_call 51; first
            | (with_reducible refine kF.mono ?_; rintro e w1 ⟨A1, c1, rfl, hc1, r1, hb1⟩; clear kF)
            | (with_reducible refine (k1 _).mono ?_; rintro e w2 ⟨g2, c2, rfl, q2, hb2⟩; have hB2 := hb1.trans (hb2.mono hb1.size); have r2 := r1.below hb2; clear k1 r1)
            | (with_reducible refine (k2 _).mono ?_; rintro e w3 ⟨g3, c3, rfl, q3, hb3⟩; have hB3 := hB2.trans (hb3.mono hB2.size); have r3 := r2.below hb3; clear k2 r2))
          | (go_at_call 58; go_loud (refine (kC _ _ _).mono ?_; rintro e w4 ⟨rfl, hb4⟩; have hB4 := hB3.trans (hb4.mono hB3.size); have r4 := r3.below hb4; clear r3))
          | (go_at_call 59; refine (kG _).mono ?_; rintro e w' ⟨rfl, hw'⟩; rw [hw']; clear hw' w')
          | (go_at_call 60; go_loud (refine (kR _ _ _ r4 hc1).mono ?_; rintro e w5 ⟨rfl, hb5⟩; have hB5 := hB4.trans (hb5.mono hB4.size); have r5 := r4.below hb5))
          | (go_at_call 61; go_loud (refine (kN _ _ _ r5 hc1).mono ?_; rintro e w6 ⟨rfl, hb6⟩; have hB6 := hB5.trans (hb6.mono hB5.size)))
          | (go_at_call 49; go_loud (refine (kL _ hB4).mono ?_; rintro e w7 ⟨rfl, hb7⟩)))
        go_ret
        exact ⟨rfl, hB4.trans (hb7.mono hB4.size)⟩
      · rw [if_neg hp] at kC
        have eP : (P.length == 0) = false := beq_eq_false_iff_ne.2 hp
        have ePi : ((P.length : Int) == 0) = false := beq_eq_false_iff_ne.2 (by omega)
        clear hsz hbad hT hG hr hln s1
        generalize P.length = p at *
        go_enter Tryd.func13, Tryd.ntmps13
        go_wp2_with (first
          | (go_at_call 51; first
            | (with_reducible refine kF.mono ?_; rintro e w1 ⟨A1, c1, rfl, hc1, r1, hb1⟩; clear kF)
            | (with_reducible refine (k1 _).mono ?_; rintro e w2 ⟨g2, c2, rfl, q2, hb2⟩; have hB2 := hb1.trans (hb2.mono hb1.size); have r2 := r1.below hb2; clear k1 r1)
            | (with_reducible refine (k2 _).mono ?_; rintro e w3 ⟨g3, c3, rfl, q3, hb3⟩; have hB3 := hB2.trans (hb3.mono hB2.size); have r3 := r2.below hb3; clear k2 r2))
          | (go_at_call 58; go_loud (refine (kC _ _ _).mono ?_; rintro e w4 ⟨rfl, hb4⟩; have hB4 := hB3.trans (hb4.mono hB3.size); have r4 := r3.below hb4; clear r3))
          | (go_at_call 59; refine (kG _).mono ?_; rintro e w' ⟨rfl, hw'⟩; rw [hw']; clear hw' w')
          | (go_at_call 60; go_loud (refine (kR _ _ _ r4 hc1).mono ?_; rintro e w5 ⟨rfl, hb5⟩; have hB5 := hB4.trans (hb5.mono hB4.size); have r5 := r4.below hb5))
          | (go_at_call 61; go_loud (refine (kN _ _ _ r5 hc1).mono ?_; rintro e w6 ⟨rfl, hb6⟩; have hB6 := hB5.trans (hb6.mono hB5.size)))
          | (go_at_call 49; go_loud (refine (kL _ hB4).mono ?_; rintro e w7 ⟨rfl, hb7⟩)))
        go_ret
        exact ⟨rfl, hB4.trans (hb7.mono hB4.size)⟩
    · have em : (m == 0) = false := beq_eq_false_iff_ne.2 h0
      have emi : ((m : Int) == 0) = false := beq_eq_false_iff_ne.2 (by omega)
      have kG := fun W => RLongP_calls n n m n true m n W (Nat.le_refl _) (Nat.le_refl _) (by omega) (by omega) rfl rfl (by omega)
      have kC := fun (A : Option Addr) (c : Nat) (W : World) (hW : Below w.heap.size w W) (hr : ReadsOf Value.string ByteArray.empty W A P.length P) (hc : P.length ≤ c) => CheckConsistency_walk old2 new2 m n A P c W hr (by omega) hc (hG.below hW) 40 (by omega) (by omega) s1 hsz (by omega) (by omega) (by omega)
      by_cases hl : P.length = longP n m n true
      · have kR := fun (A : Option Addr) (c : Nat) (W : World) (hr : ReadsOf Value.string ByteArray.empty W A P.length P) (hc : P.length ≤ c) => ROld_calls old2 A P c hc 40 (by omega) (by omega) s1 hsz (by omega) n n n m P.length true m n W hr (Nat.le_refl _) (Nat.le_refl _) (by omega) (by omega) rfl rfl (by omega) (Nat.le_refl _) hl
        have kN := fun (A : Option Addr) (c : Nat) (W : World) (hr : ReadsOf Value.string ByteArray.empty W A P.length P) (hc : P.length ≤ c) => RNew_calls old2 A P c hc 40 (by omega) (by omega) s1 hsz (by omega) n n n m P.length true m n W hr (Nat.le_refl _) (Nat.le_refl _) (by omega) (by omega) rfl rfl (by omega) (Nat.le_refl _) hl
        rw [← hl] at kG
        have ez : (P.length != P.length) = false := by simp
        by_cases ho : oldR old2 P n m n P.length true = old2
        · by_cases hx : newR old2 P n m n P.length true = new2
          · rw [if_pos ⟨⟨ho, hx⟩, hl⟩] at kC
            rw [ho] at kR
            rw [hx] at kN
            clear hsz hbad hT hG hr hln s1 hl hx ho
            generalize P.length = p at *
            go_enter Tryd.func13, Tryd.ntmps13
            go_wp2_with (first
              | (go_at_call 51; first
                | (with_reducible refine kF.mono ?_; rintro e w1 ⟨A1, c1, rfl, hc1, r1, hb1⟩; clear kF)
                | (with_reducible refine (k1 _).mono ?_; rintro e w2 ⟨g2, c2, rfl, q2, hb2⟩; have hB2 := hb1.trans (hb2.mono hb1.size); have r2 := r1.below hb2; clear k1 r1)
                | (with_reducible refine (k2 _).mono ?_; rintro e w3 ⟨g3, c3, rfl, q3, hb3⟩; have hB3 := hB2.trans (hb3.mono hB2.size); have r3 := r2.below hb3; clear k2 r2))
              | (go_at_call 58; go_loud (refine (kC _ _ _ hB3 r3 hc1).mono ?_; rintro e w4 ⟨rfl, hb4⟩; have hB4 := hB3.trans (hb4.mono hB3.size); have r4 := r3.below hb4; clear r3))
              | (go_at_call 59; refine (kG _).mono ?_; rintro e w' ⟨rfl, hw'⟩; rw [hw']; clear hw' w')
              | (go_at_call 60; go_loud (refine (kR _ _ _ r4 hc1).mono ?_; rintro e w5 ⟨rfl, hb5⟩; have hB5 := hB4.trans (hb5.mono hB4.size); have r5 := r4.below hb5))
              | (go_at_call 61; go_loud (refine (kN _ _ _ r5 hc1).mono ?_; rintro e w6 ⟨rfl, hb6⟩; have hB6 := hB5.trans (hb6.mono hB5.size)))
              | (go_at_call 49; go_loud (refine (kL _ hB6).mono ?_; rintro e w7 ⟨rfl, hb7⟩)))
            go_ret
            exact ⟨rfl, hB6.trans (hb7.mono hB6.size)⟩
          · rw [if_neg (fun h => hx h.1.2)] at kC
            rw [ho] at kR
            generalize newR old2 P n m n P.length true = X at *
            have x9 : (X.toList == new2.toList) = false := str_ne hx
            clear hsz hbad hT hG hr hln s1 hl hx ho
            generalize P.length = p at *
            go_enter Tryd.func13, Tryd.ntmps13
            go_wp2_with (first
              | (go_at_call 51; first
                | (with_reducible refine kF.mono ?_; rintro e w1 ⟨A1, c1, rfl, hc1, r1, hb1⟩; clear kF)
                | (with_reducible refine (k1 _).mono ?_; rintro e w2 ⟨g2, c2, rfl, q2, hb2⟩; have hB2 := hb1.trans (hb2.mono hb1.size); have r2 := r1.below hb2; clear k1 r1)
                | (with_reducible refine (k2 _).mono ?_; rintro e w3 ⟨g3, c3, rfl, q3, hb3⟩; have hB3 := hB2.trans (hb3.mono hB2.size); have r3 := r2.below hb3; clear k2 r2))
              | (go_at_call 58; go_loud (refine (kC _ _ _ hB3 r3 hc1).mono ?_; rintro e w4 ⟨rfl, hb4⟩; have hB4 := hB3.trans (hb4.mono hB3.size); have r4 := r3.below hb4; clear r3))
              | (go_at_call 59; refine (kG _).mono ?_; rintro e w' ⟨rfl, hw'⟩; rw [hw']; clear hw' w')
              | (go_at_call 60; go_loud (refine (kR _ _ _ r4 hc1).mono ?_; rintro e w5 ⟨rfl, hb5⟩; have hB5 := hB4.trans (hb5.mono hB4.size); have r5 := r4.below hb5))
              | (go_at_call 61; go_loud (refine (kN _ _ _ r5 hc1).mono ?_; rintro e w6 ⟨rfl, hb6⟩; have hB6 := hB5.trans (hb6.mono hB5.size)))
              | (go_at_call 49; go_loud (refine (kL _ hB6).mono ?_; rintro e w7 ⟨rfl, hb7⟩)))
            go_ret
            exact ⟨rfl, hB6.trans (hb7.mono hB6.size)⟩
        · rw [if_neg (fun h => ho h.1.1)] at kC
          generalize oldR old2 P n m n P.length true = X at *
          have x9 : (X.toList == old2.toList) = false := str_ne ho
          clear hsz hbad hT hG hr hln s1 hl ho
          generalize P.length = p at *
          go_enter Tryd.func13, Tryd.ntmps13
          go_wp2_with (first
            | (go_at_call 51; first
              | (with_reducible refine kF.mono ?_; rintro e w1 ⟨A1, c1, rfl, hc1, r1, hb1⟩; clear kF)
              | (with_reducible refine (k1 _).mono ?_; rintro e w2 ⟨g2, c2, rfl, q2, hb2⟩; have hB2 := hb1.trans (hb2.mono hb1.size); have r2 := r1.below hb2; clear k1 r1)
              | (with_reducible refine (k2 _).mono ?_; rintro e w3 ⟨g3, c3, rfl, q3, hb3⟩; have hB3 := hB2.trans (hb3.mono hB2.size); have r3 := r2.below hb3; clear k2 r2))
            | (go_at_call 58; go_loud (refine (kC _ _ _ hB3 r3 hc1).mono ?_; rintro e w4 ⟨rfl, hb4⟩; have hB4 := hB3.trans (hb4.mono hB3.size); have r4 := r3.below hb4; clear r3))
            | (go_at_call 59; refine (kG _).mono ?_; rintro e w' ⟨rfl, hw'⟩; rw [hw']; clear hw' w')
            | (go_at_call 60; go_loud (refine (kR _ _ _ r4 hc1).mono ?_; rintro e w5 ⟨rfl, hb5⟩; have hB5 := hB4.trans (hb5.mono hB4.size); have r5 := r4.below hb5))
            | (go_at_call 61; go_loud (refine (kN _ _ _ r5 hc1).mono ?_; rintro e w6 ⟨rfl, hb6⟩; have hB6 := hB5.trans (hb6.mono hB5.size)))
            | (go_at_call 49; go_loud (refine (kL _ hB5).mono ?_; rintro e w7 ⟨rfl, hb7⟩)))
          go_ret
          exact ⟨rfl, hB5.trans (hb7.mono hB5.size)⟩
      · rw [if_neg (fun h => hl h.2)] at kC
        generalize longP n m n true = K at *
        have x8 : (P.length != K) = true := bne_iff_ne.2 hl
        have x9 : ((P.length : Int) != (K : Int)) = true := bne_iff_ne.2 (by omega)
        clear hsz hbad hT hG hr hln s1 hl
        generalize P.length = p at *
        go_enter Tryd.func13, Tryd.ntmps13
        go_wp2_with (first
          | (go_at_call 51; first
            | (with_reducible refine kF.mono ?_; rintro e w1 ⟨A1, c1, rfl, hc1, r1, hb1⟩; clear kF)
            | (with_reducible refine (k1 _).mono ?_; rintro e w2 ⟨g2, c2, rfl, q2, hb2⟩; have hB2 := hb1.trans (hb2.mono hb1.size); have r2 := r1.below hb2; clear k1 r1)
            | (with_reducible refine (k2 _).mono ?_; rintro e w3 ⟨g3, c3, rfl, q3, hb3⟩; have hB3 := hB2.trans (hb3.mono hB2.size); have r3 := r2.below hb3; clear k2 r2))
          | (go_at_call 58; go_loud (refine (kC _ _ _ hB3 r3 hc1).mono ?_; rintro e w4 ⟨rfl, hb4⟩; have hB4 := hB3.trans (hb4.mono hB3.size); have r4 := r3.below hb4; clear r3))
          | (go_at_call 59; refine (kG _).mono ?_; rintro e w' ⟨rfl, hw'⟩; rw [hw']; clear hw' w')
          | (go_at_call 60; go_loud (refine (kR _ _ _ r4 hc1).mono ?_; rintro e w5 ⟨rfl, hb5⟩; have hB5 := hB4.trans (hb5.mono hB4.size); have r5 := r4.below hb5))
          | (go_at_call 61; go_loud (refine (kN _ _ _ r5 hc1).mono ?_; rintro e w6 ⟨rfl, hb6⟩; have hB6 := hB5.trans (hb6.mono hB5.size)))
          | (go_at_call 49; go_loud (refine (kL _ hB4).mono ?_; rintro e w7 ⟨rfl, hb7⟩)))
        go_ret
        exact ⟨rfl, hB4.trans (hb7.mono hB4.size)⟩
end Go.Proofs.YtoeibcdnhglobaaDoor.P
