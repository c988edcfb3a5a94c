/- proof.CheckConsistency: the walk. -/
import Derived.Test.YtoeibcdnhglobaaDoorH3
namespace Go.Proofs.YtoeibcdnhglobaaDoor.P
set_option linter.unusedVariables false
set_option linter.unusedSimpArgs false
open Go.RowKit Go.Shelf Go.Proofs.YtoeibcdnhglobaaDoorW.PrintWords Go.Proofs.YtoeibcdnhglobaaDoorW.PrintLast Go.Proofs.YtoeibcdnhglobaaDoorW.PrintMore
open Go.Proofs.YtoeibcdnhglobaaDoor.Pure

/-- How long a consistency proof is. -/
def longP : Nat → Nat → Nat → Bool → Nat
  | 0, _, _, _ => 0
  | f + 1, m, n, kn => if m = n then (if kn then 0 else 1) else (if m ≤ half n then longP f m (half n) kn else longP f (m - half n) (n - half n) false) + 1
/-- The old and the new root that a row of hashes makes. -/
def oldR (old : ByteArray) (P : List ByteArray) : Nat → Nat → Nat → Nat → Bool → ByteArray
  | 0, _, _, _, _ => old
  | f + 1, m, n, j, kn => if m = n then (if kn then old else tkS P j) else if m ≤ half n then oldR old P f m (half n) (j - 1) kn else joinH (tkS P j) (oldR old P f (m - half n) (n - half n) (j - 1) false)
def newR (old : ByteArray) (P : List ByteArray) : Nat → Nat → Nat → Nat → Bool → ByteArray
  | 0, _, _, _, _ => old
  | f + 1, m, n, j, kn => if m = n then (if kn then old else tkS P j) else if m ≤ half n then joinH (newR old P f m (half n) (j - 1) kn) (tkS P j) else joinH (tkS P j) (newR old P f (m - half n) (n - half n) (j - 1) false)
theorem oldR_sz (old : ByteArray) (P : List ByteArray) (B : Nat) (h0 : old.size ≤ B) (h1 : 32 ≤ B) (hP : ∀ s ∈ P, s.size ≤ B) : ∀ f m n j kn, (oldR old P f m n j kn).size ≤ B
  | 0, _, _, _, _ => h0
  | f + 1, m, n, j, kn => by
    unfold oldR
    split
    · split
      · exact h0
      · exact tkS_sz P B hP j
    · split
      · exact oldR_sz old P B h0 h1 hP f _ _ _ _
      · exact Nat.le_trans (Nat.le_of_eq (nodeH_size _ _)) h1
theorem newR_sz (old : ByteArray) (P : List ByteArray) (B : Nat) (h0 : old.size ≤ B) (h1 : 32 ≤ B) (hP : ∀ s ∈ P, s.size ≤ B) : ∀ f m n j kn, (newR old P f m n j kn).size ≤ B
  | 0, _, _, _, _ => h0
  | f + 1, m, n, j, kn => by
    unfold newR
    split
    · split
      · exact h0
      · exact tkS_sz P B hP j
    · split
      · exact Nat.le_trans (Nat.le_of_eq (nodeH_size _ _)) h1
      · exact Nat.le_trans (Nat.le_of_eq (nodeH_size _ _)) h1
/-- The blocks that the check reads. -/
structure Cc (w : World) (bl bt bc br bb : Nat) (old : ByteArray) : Prop where
  old_ : Boxed w bl 9 (.string old)
  take_ : Boxed w bt 122 (.func (.func 121) #[] #[.pointer (some ⟨br, 0, none⟩), .pointer (some ⟨bb, 0, none⟩)])
  self_ : Boxed w bc 126 (.func (.func 99) #[] #[.pointer (some ⟨bl, 0, none⟩), .pointer (some ⟨bt, 0, none⟩), .pointer (some ⟨bc, 0, none⟩)])
  nl : ¬ (bl = br ∨ bl = bb)
  nt : ¬ (bt = br ∨ bt = bb)
  nc : ¬ (bc = br ∨ bc = bb)
theorem Cc.on {w w' : World} {bl bt bc br bb : Nat} {old : ByteArray} (h : Cc w bl bt bc br bb old) (t : Touch (fun k => k = br ∨ k = bb) w w') : Cc w' bl bt bc br bb old :=
  ⟨t.blk h.old_ h.nl, t.blk h.take_ h.nt, t.blk h.self_ h.nc, h.nl, h.nt, h.nc⟩
theorem odd_step (bad : Bool) (j K : Nat) : (bad || decide (j < K + 1)) = ((bad || decide (j < 1)) || decide (j - 1 < K)) := by
  cases bad
  · by_cases hh : j < 1
    · simp [hh]; omega
    · simp [hh]; omega
  · rfl
set_option maxRecDepth 100000 in
set_option maxHeartbeats 8000000 in
theorem cons_calls (w0 : World) (bl bt bc br bb : Nat) (old : ByteArray) (A : Option Addr) (P : List ByteArray) (c : Nat) (hr : ReadsOf Value.string ByteArray.empty w0 A P.length P) (hl : P.length < 9223372036854775807) (hc : P.length ≤ c) (hG : GlobH w0) (B : Nat) (hB : B < 100000000) (hB2 : 32 ≤ B) (hold : old.size ≤ B) (hP : ∀ s ∈ P, s.size ≤ B) (d : Nat) :
    ∀ (f n m j : Nat) (kn bad : Bool) (x y : Int) (w : World), n ≤ d → n ≤ f → 1 ≤ m → m ≤ n → x = m → y = n → n ≤ 1048576 → j ≤ P.length → Tk w0 w br bb A c j bad → Cc w bl bt bc br bb old →
    Calls Tryd.prog 99 #[.int .i64 x, .int .i64 y, .bool kn, .pointer (some ⟨bl, 0, none⟩), .pointer (some ⟨bt, 0, none⟩), .pointer (some ⟨bc, 0, none⟩)] w fun e w' => e = .returned (.tuple #[.string (oldR old P f m n j kn), .string (newR old P f m n j kn)]) ∧ Tk w0 w' br bb A c (j - longP f m n kn) (bad || decide (j < longP f m n kn)) ∧ Touch (fun k => k = br ∨ k = bb) w w' := by
  induction d with
  | zero => intro f n m j kn bad x y w hd hf h1 hmn; omega
  | succ d ih =>
    intro f n m j kn bad x y w hd hf h1 hmn hx hy hle hj t q
    obtain ⟨f, rfl⟩ : ∃ g, f = g + 1 := ⟨f - 1, by omega⟩
    subst hx
    subst hy
    have q1 := q.old_.cell
    have q2 := q.take_.cell
    have g2 : (n : Int) ≤ 1048576 := by omega
    have g1 : (1 : Int) ≤ (m : Int) := by omega
    have gm : (m : Int) ≤ (n : Int) := by omega
    have k1 := take_calls w0 br bb A P c j bad w hr hl hj hc t
    by_cases he : m = n
    · have e1 : (m == n) = true := beq_iff_eq.2 he
      have e1i : ((m : Int) == (n : Int)) = true := by rw [beq_iff_eq, he]
      cases kn with
      | true =>
        have eo : oldR old P (f + 1) m n j true = old := by unfold oldR; rw [if_pos he, if_pos rfl]
        have en : newR old P (f + 1) m n j true = old := by unfold newR; rw [if_pos he, if_pos rfl]
        have el : longP (f + 1) m n true = 0 := by unfold longP; rw [if_pos he, if_pos rfl]
        rw [eo, en, el]
        have ht : Tk w0 w br bb A c (j - 0) (bad || decide (j < 0)) := by simpa using t
        have HT := Lib.hid ht
        clear t q ih ht eo en el he hr hP hG k1
        go_enter Tryd.func99, Tryd.ntmps99
        go_wp2
        go_ret2
        exact ⟨rfl, HT.out, Touch.refl _ _⟩
      | false =>
        have eo : oldR old P (f + 1) m n j false = tkS P j := by unfold oldR; rw [if_pos he, if_neg (by decide)]
        have en : newR old P (f + 1) m n j false = tkS P j := by unfold newR; rw [if_pos he, if_neg (by decide)]
        have el : longP (f + 1) m n false = 1 := by unfold longP; rw [if_pos he, if_neg (by decide)]
        rw [eo, en, el]
        generalize tkS P j = X at *
        clear t q ih eo en el he hr hP hG
        go_enter Tryd.func99, Tryd.ntmps99
        go_wp2_with (go_at_call 121; go_loud (with_reducible refine k1.mono ?_; rintro e w1 ⟨rfl, t1, c1⟩; have T1 := Lib.hid t1; have C1 := Lib.hid c1; clear k1 t1 c1))
        go_ret2
        exact ⟨rfl, T1.out, C1.out⟩
    · have e1 : (m == n) = false := beq_eq_false_iff_ne.2 he
      have e1i : ((m : Int) == (n : Int)) = false := beq_eq_false_iff_ne.2 (by omega)
      have h2 : 2 ≤ n := by omega
      have hm := half_lt h2
      have kS := fun W => split_calls n h2 (by omega) W
      have g5 : (1 : Int) ≤ ((half n : Nat) : Int) := by omega
      have g6 : ((half n : Nat) : Int) ≤ (n : Int) := by omega
      have hGW : ∀ W, Below w0.heap.size w0 W → GlobH W := fun W h => hG.below h
      have hxs := tkS_sz P B hP j
      by_cases hcase : m ≤ half n
      · have eo : oldR old P (f + 1) m n j kn = oldR old P f m (half n) (j - 1) kn := by
          show (if m = n then _ else _) = _
          rw [if_neg he, if_pos hcase]
        have en : newR old P (f + 1) m n j kn = joinH (newR old P f m (half n) (j - 1) kn) (tkS P j) := by
          show (if m = n then _ else _) = _
          rw [if_neg he, if_pos hcase]
        have el : longP (f + 1) m n kn = longP f m (half n) kn + 1 := by
          show (if m = n then _ else _) = _
          rw [if_neg he, if_pos hcase]
        have k2 := fun W t2 q2 => ih f (half n) m (j - 1) kn (bad || decide (j < 1)) (m : Int) ((half n : Nat) : Int) W (by omega) (by omega) h1 hcase rfl rfl (by omega) (by omega) t2 q2
        have hcs := newR_sz old P B hold hB2 hP f m (half n) (j - 1) kn
        rw [eo, en, el]
        generalize oldR old P f m (half n) (j - 1) kn = O at *
        generalize newR old P f m (half n) (j - 1) kn = Y at *
        generalize tkS P j = X at *
        have kJ := fun W (hW : Below w0.heap.size w0 W) => NodeHash_calls Y X (by omega) W (hGW W hW)
        have d1 : decide (m ≤ half n) = true := decide_eq_true hcase
        rw [odd_step, show j - (longP f m (half n) kn + 1) = j - 1 - longP f m (half n) kn by omega]
        generalize longP f m (half n) kn = K at *
        generalize half n = mh at *
        clear ih hP hG hr hGW eo en el hmn hcase hm he h2 hd hf hxs hcs hold hle
        show Calls _ _ _ _ fun e w' => e = .returned (.tuple #[.string O, .string (nodeH Y X)]) ∧ _
        go_enter Tryd.func99, Tryd.ntmps99
        go_wp2_with (first
          | (go_at_call 121; go_loud (with_reducible refine k1.mono ?_; rintro e w1 ⟨rfl, t1, c1⟩; have q1 := q.on c1; have p4 := q1.self_.cell; clear k1))
          | (go_at_call 96; refine (kS _).mono ?_; rintro e w' ⟨rfl, hw'⟩; rw [hw']; clear hw' w')
          | (go_at_call 99; go_loud (refine (k2 _ t1 q1).mono ?_; rintro e w2 ⟨rfl, t2, c2⟩; have hb2 := t2.bel; clear k2))
          | (go_at_call 41; go_loud (refine (kJ _ hb2).mono ?_; rintro e w3 ⟨rfl, hb3⟩)))
        go_ret2
        exact ⟨rfl, t2.on hb3, (c1.trans c2 (fun _ e => .inl e)).below hb3⟩
      · have eo : oldR old P (f + 1) m n j kn = joinH (tkS P j) (oldR old P f (m - half n) (n - half n) (j - 1) false) := by
          show (if m = n then _ else _) = _
          rw [if_neg he, if_neg hcase]
        have en : newR old P (f + 1) m n j kn = joinH (tkS P j) (newR old P f (m - half n) (n - half n) (j - 1) false) := by
          show (if m = n then _ else _) = _
          rw [if_neg he, if_neg hcase]
        have el : longP (f + 1) m n kn = longP f (m - half n) (n - half n) false + 1 := by
          show (if m = n then _ else _) = _
          rw [if_neg he, if_neg hcase]
        have k2 := fun W t2 q2 => ih f (n - half n) (m - half n) (j - 1) false (bad || decide (j < 1)) ((m : Int) - ((half n : Nat) : Int)) ((n : Int) - ((half n : Nat) : Int)) W (by omega) (by omega) (by omega) (by omega) (by omega) (by omega) (by omega) (by omega) t2 q2
        have hcs := newR_sz old P B hold hB2 hP f (m - half n) (n - half n) (j - 1) false
        have hcs2 := oldR_sz old P B hold hB2 hP f (m - half n) (n - half n) (j - 1) false
        rw [eo, en, el]
        generalize oldR old P f (m - half n) (n - half n) (j - 1) false = O at *
        generalize newR old P f (m - half n) (n - half n) (j - 1) false = Y at *
        generalize tkS P j = X at *
        have kJ := fun W (hW : Below w0.heap.size w0 W) => NodeHash_calls X Y (by omega) W (hGW W hW)
        have kJ2 := fun W (hW : Below w0.heap.size w0 W) => NodeHash_calls X O (by omega) W (hGW W hW)
        have d1 : decide (m ≤ half n) = false := decide_eq_false hcase
        rw [odd_step, show j - (longP f (m - half n) (n - half n) false + 1) = j - 1 - longP f (m - half n) (n - half n) false by omega]
        generalize longP f (m - half n) (n - half n) false = K at *
        generalize half n = mh at *
        clear ih hP hG hr hGW eo en el hmn hcase hm he h2 hd hf hxs hcs hcs2 hold hle
        show Calls _ _ _ _ fun e w' => e = .returned (.tuple #[.string (nodeH X O), .string (nodeH X Y)]) ∧ _
        go_enter Tryd.func99, Tryd.ntmps99
        go_wp2_with (first
          | (go_at_call 121; go_loud (with_reducible refine k1.mono ?_; rintro e w1 ⟨rfl, t1, c1⟩; have q1 := q.on c1; have p4 := q1.self_.cell; clear k1))
          | (go_at_call 96; refine (kS _).mono ?_; rintro e w' ⟨rfl, hw'⟩; rw [hw']; clear hw' w')
          | (go_at_call 99; go_loud (refine (k2 _ t1 q1).mono ?_; rintro e w2 ⟨rfl, t2, c2⟩; have hb2 := t2.bel; clear k2))
          | (go_at_call 41; first
            | (with_reducible refine (kJ2 _ hb2).mono ?_; rintro e w3 ⟨rfl, hb3⟩; have hb4 := hb2.trans (hb3.mono hb2.size); clear kJ2)
            | (with_reducible refine (kJ _ hb4).mono ?_; rintro e w4 ⟨rfl, hb5⟩)))
        go_ret2
        exact ⟨rfl, (t2.on hb3).on hb5, ((c1.trans c2 (fun _ e => .inl e)).below hb3).below hb5⟩
/-- Where the check begins: its boxes, behind the taker's. -/
theorem cons_ready (w w0 w1 : World) (br bb : Nat) (old : ByteArray) (A : Option Addr) (N c : Nat) (y1 : Boxed w0 w.heap.size 9 (.string old)) (y3 : Below w.heap.size w w0) (y4 : w0.heap.size = w.heap.size + 1)
    (hbr : br = w0.heap.size ∧ bb = w0.heap.size + 1) (x1 : Boxed w1 br 22 (.slice A N c)) (x2 : Boxed w1 bb 4 (.bool false)) (hb1 : Below w0.heap.size w0 w1) (hz1 : w1.heap.size = w0.heap.size + 2) :
    Tk w ((w1.alloc (.cells #[.func (.func 121) #[] #[.pointer (some ⟨br, 0, none⟩), .pointer (some ⟨bb, 0, none⟩)]] 122)).alloc (.cells #[.func (.func 99) #[] #[.pointer (some ⟨w.heap.size, 0, none⟩), .pointer (some ⟨w1.heap.size, 0, none⟩), .pointer (some ⟨w1.heap.size + 1, 0, none⟩)]] 126)) br bb A c N false ∧
    Cc ((w1.alloc (.cells #[.func (.func 121) #[] #[.pointer (some ⟨br, 0, none⟩), .pointer (some ⟨bb, 0, none⟩)]] 122)).alloc (.cells #[.func (.func 99) #[] #[.pointer (some ⟨w.heap.size, 0, none⟩), .pointer (some ⟨w1.heap.size, 0, none⟩), .pointer (some ⟨w1.heap.size + 1, 0, none⟩)]] 126)) w.heap.size w1.heap.size (w1.heap.size + 1) br bb old := by
  obtain ⟨k1, k2, k3, k4⟩ := two_boxes w1 122 126 (.func (.func 121) #[] #[.pointer (some ⟨br, 0, none⟩), .pointer (some ⟨bb, 0, none⟩)]) (.func (.func 99) #[] #[.pointer (some ⟨w.heap.size, 0, none⟩), .pointer (some ⟨w1.heap.size, 0, none⟩), .pointer (some ⟨w1.heap.size + 1, 0, none⟩)])
  have hs := y3.trans (hb1.mono (by omega : w.heap.size ≤ w0.heap.size))
  obtain ⟨e1, e2⟩ := hbr
  exact ⟨⟨k1 _ _ _ x1, k1 _ _ _ x2, by omega, by omega, by omega, hs.trans (k4.mono hs.size)⟩,
    ⟨k1 _ _ _ (y1.below hb1), k2, k3, by omega, by omega, by omega⟩⟩
set_option maxRecDepth 100000 in
set_option maxHeartbeats 8000000 in
theorem CheckConsistency_walk (old new : ByteArray) (m n : Nat) (A : Option Addr) (P : List ByteArray) (c : Nat) (w : World) (hr : ReadsOf Value.string ByteArray.empty w A P.length P) (hl : P.length < 9223372036854775807) (hc : P.length ≤ c) (hG : GlobH w) (B : Nat) (hB : B < 100000000) (hB2 : 32 ≤ B) (hold : old.size ≤ B) (hP : ∀ s ∈ P, s.size ≤ B) (h1 : 1 ≤ m) (hmn : m ≤ n) (hn : n ≤ 1048576) :
    Calls Tryd.prog 58 #[.int .i64 m, .int .i64 n, .slice A P.length c, .string old, .string new] w fun e w' => e = .returned (.int .i64 (if (oldR old P n m n P.length true = old ∧ newR old P n m n P.length true = new) ∧ P.length = longP n m n true then 0 else 9)) ∧ Below w.heap.size w w' := by
  have kS := fun W => sizedP_calls (n : Int) W
  have hz : szB (n : Int) = true := decide_eq_true (by omega)
  rw [hz] at kS
  have kT := fun W => taker_calls A P.length c W
  have kC := fun (bl bt bc br bb : Nat) (W : World) (t : Tk w W br bb A c P.length false) (q : Cc W bl bt bc br bb old) => cons_calls w bl bt bc br bb old A P c hr hl hc hG B hB hB2 hold hP n n n m P.length true false (m : Int) (n : Int) W (Nat.le_refl _) (Nat.le_refl _) h1 hmn rfl rfl hn (Nat.le_refl _) t q
  have kL := fun (br bb j : Nat) (bad : Bool) (W : World) (t : Tk w W br bb A c j bad) => left_calls w br bb A c j bad W t
  have d1 : decide ((m : Int) < 0) = false := decide_eq_false (by omega)
  have d2 : decide (n < m) = false := decide_eq_false (by omega)
  have d3 : decide (0 < m) = true := decide_eq_true (by omega)
  have d3i : decide ((0 : Int) < (m : Int)) = true := decide_eq_true (by omega)
  have y1 : Boxed (w.alloc (.cells #[.string old] 9)) w.heap.size 9 (.string old) := Boxed.new w 9 _
  have y3 : Below w.heap.size w (w.alloc (.cells #[.string old] 9)) := (Below.refl w.heap.size w).alloc (Nat.le_refl _) (.cells #[.string old] 9)
  have y4 : (w.alloc (.cells #[.string old] 9)).heap.size = w.heap.size + 1 := by simp
  have Y1 := Lib.hid y1
  have Y3 := Lib.hid y3
  have Y4 := Lib.hid y4
  have hbb : ∀ (N K : Nat), ((false || decide (N < K)) || decide (0 < N - K)) = !decide (N = K) := by
    intro N K
    rcases Nat.lt_trichotomy N K with h | h | h
    · rw [decide_eq_true h, decide_eq_false (show ¬ N = K by omega)]; rfl
    · rw [decide_eq_false (show ¬ N < K by omega), decide_eq_false (show ¬ 0 < N - K by omega), decide_eq_true h]; rfl
    · rw [decide_eq_false (show ¬ N < K by omega), decide_eq_true (show 0 < N - K by omega), decide_eq_false (show ¬ N = K by omega)]; rfl
  have hbb := hbb P.length (longP n m n true)
  have HBB := Lib.hid hbb
  clear hr hc hG hB hB2 hold hP hz y1 y3 y4 hbb h1 hmn
  generalize oldR old P n m n P.length true = O at *
  generalize newR old P n m n P.length true = X at *
  generalize longP n m n true = K at *
  have tail : ∀ (R : Int), (if (O = old ∧ X = new) ∧ P.length = K then (0 : Int) else 9) = R → (∀ e w', e = Ending.returned (.int .i64 R) ∧ Below w.heap.size w w' → e = Ending.returned (.int .i64 (if (O = old ∧ X = new) ∧ P.length = K then 0 else 9)) ∧ Below w.heap.size w w') := fun R h e w' hh => by rw [h]; exact hh
  by_cases ho : O = old
  · subst ho
    by_cases hx : X = new
    · subst hx
      by_cases hk : P.length = K
      · refine Calls.mono ?_ (tail 0 (if_pos ⟨⟨rfl, rfl⟩, hk⟩))
        have x9 : decide (P.length = K) = true := decide_eq_true hk
        clear tail hk
        generalize P.length = N at *
        go_enter Tryd.func58, Tryd.ntmps58
        go_wp2_with (first
          | (go_at_call 91; refine (kS _).mono ?_; rintro e w' ⟨rfl, hw'⟩; rw [hw']; clear hw' w')
          | (go_at_call 94; go_loud (refine (kT _).mono ?_; rintro e w1 ⟨br, bb, hbr, rfl, x1, x2, hb1, hz1⟩; have TC := Lib.hid (cons_ready w _ w1 br bb O A _ c Y1.out Y3.out Y4.out hbr x1 x2 hb1 hz1); clear hbr hz1 hb1 x1 x2))
          | (go_at_call 99; go_loud (refine (kC _ _ _ _ _ _ TC.out.1 TC.out.2).mono ?_; rintro e w4 ⟨rfl, t4, c4⟩; have T4 := Lib.hid t4; have hob := (TC.out.2.on c4).old_.cell; clear t4 c4))
          | (go_at_call 122; go_loud (refine (kL _ _ _ _ _ T4.out).mono ?_; rintro e w' ⟨rfl, hw'⟩; rw [hw', HBB.out, x9]; clear hw' w')))
        go_ret
        exact ⟨rfl, T4.out.bel⟩
      · refine Calls.mono ?_ (tail 9 (if_neg (fun h => hk h.2)))
        have x9 : decide (P.length = K) = false := decide_eq_false hk
        clear tail hk
        generalize P.length = N at *
        go_enter Tryd.func58, Tryd.ntmps58
        go_wp2_with (first
          | (go_at_call 91; refine (kS _).mono ?_; rintro e w' ⟨rfl, hw'⟩; rw [hw']; clear hw' w')
          | (go_at_call 94; go_loud (refine (kT _).mono ?_; rintro e w1 ⟨br, bb, hbr, rfl, x1, x2, hb1, hz1⟩; have TC := Lib.hid (cons_ready w _ w1 br bb O A _ c Y1.out Y3.out Y4.out hbr x1 x2 hb1 hz1); clear hbr hz1 hb1 x1 x2))
          | (go_at_call 99; go_loud (refine (kC _ _ _ _ _ _ TC.out.1 TC.out.2).mono ?_; rintro e w4 ⟨rfl, t4, c4⟩; have T4 := Lib.hid t4; have hob := (TC.out.2.on c4).old_.cell; clear t4 c4))
          | (go_at_call 122; go_loud (refine (kL _ _ _ _ _ T4.out).mono ?_; rintro e w' ⟨rfl, hw'⟩; rw [hw', HBB.out, x9]; clear hw' w')))
        go_ret
        exact ⟨rfl, T4.out.bel⟩
    · refine Calls.mono ?_ (tail 9 (if_neg (fun h => hx h.1.2)))
      have x7 : (X.toList == new.toList) = false := str_ne hx
      clear tail hx
      generalize P.length = N at *
      go_enter Tryd.func58, Tryd.ntmps58
      go_wp2_with (first
        | (go_at_call 91; refine (kS _).mono ?_; rintro e w' ⟨rfl, hw'⟩; rw [hw']; clear hw' w')
        | (go_at_call 94; go_loud (refine (kT _).mono ?_; rintro e w1 ⟨br, bb, hbr, rfl, x1, x2, hb1, hz1⟩; have TC := Lib.hid (cons_ready w _ w1 br bb O A _ c Y1.out Y3.out Y4.out hbr x1 x2 hb1 hz1); clear hbr hz1 hb1 x1 x2))
        | (go_at_call 99; go_loud (refine (kC _ _ _ _ _ _ TC.out.1 TC.out.2).mono ?_; rintro e w4 ⟨rfl, t4, c4⟩; have T4 := Lib.hid t4; have hob := (TC.out.2.on c4).old_.cell; clear t4 c4))
        | (go_at_call 122; go_loud (refine (kL _ _ _ _ _ T4.out).mono ?_; rintro e w' ⟨rfl, hw'⟩; rw [hw', HBB.out, x9]; clear hw' w')))
      go_ret
      exact ⟨rfl, T4.out.bel⟩
  · refine Calls.mono ?_ (tail 9 (if_neg (fun h => ho h.1.1)))
    have x7 : (O.toList == old.toList) = false := str_ne ho
    clear tail ho
    generalize P.length = N at *
    go_enter Tryd.func58, Tryd.ntmps58
    go_wp2_with (first
      | (go_at_call 91; refine (kS _).mono ?_; rintro e w' ⟨rfl, hw'⟩; rw [hw']; clear hw' w')
      | (go_at_call 94; go_loud (refine (kT _).mono ?_; rintro e w1 ⟨br, bb, hbr, rfl, x1, x2, hb1, hz1⟩; have TC := Lib.hid (cons_ready w _ w1 br bb old A _ c Y1.out Y3.out Y4.out hbr x1 x2 hb1 hz1); clear hbr hz1 hb1 x1 x2))
      | (go_at_call 99; go_loud (refine (kC _ _ _ _ _ _ TC.out.1 TC.out.2).mono ?_; rintro e w4 ⟨rfl, t4, c4⟩; have T4 := Lib.hid t4; have hob := (TC.out.2.on c4).old_.cell; clear t4 c4))
      | (go_at_call 122; go_loud (refine (kL _ _ _ _ _ T4.out).mono ?_; rintro e w' ⟨rfl, hw'⟩; rw [hw', HBB.out, x9]; clear hw' w')))
    go_ret
    exact ⟨rfl, T4.out.bel⟩
set_option maxRecDepth 100000 in
set_option maxHeartbeats 4000000 in
theorem CheckConsistency_range (old new : ByteArray) (m n : Int) (v : Value) (w : World) (hbad : szB n = false ∨ m < 0 ∨ n < m) :
    Calls Tryd.prog 58 #[.int .i64 m, .int .i64 n, v, .string old, .string new] w fun e w' => e = .returned (.int .i64 6) ∧ Below w.heap.size w w' := by
  have kS := fun W => sizedP_calls n W
  have y3 : Below w.heap.size w (w.alloc (.cells #[.string old] 9)) := (Below.refl w.heap.size w).alloc (Nat.le_refl _) (.cells #[.string old] 9)
  have Y3 := Lib.hid y3
  clear y3
  cases hz : szB n with
  | false =>
    rw [hz] at kS
    clear hbad hz
    go_enter Tryd.func58, Tryd.ntmps58
    go_wp2_with (go_at_call 91; refine (kS _).mono ?_; rintro e w' ⟨rfl, hw'⟩; rw [hw']; clear hw' w')
    go_ret
    exact ⟨rfl, Y3.out⟩
  | true =>
    rw [hz] at kS
    by_cases h1 : m < 0
    · have d1 : decide (m < 0) = true := decide_eq_true h1
      clear hbad hz
      go_enter Tryd.func58, Tryd.ntmps58
      go_wp2_with (go_at_call 91; refine (kS _).mono ?_; rintro e w' ⟨rfl, hw'⟩; rw [hw']; clear hw' w')
      go_ret
      exact ⟨rfl, Y3.out⟩
    · have h2 : n < m := by rcases hbad with h | h | h; (rw [hz] at h; cases h); exact absurd h h1; exact h
      have d1 : decide (m < 0) = false := decide_eq_false h1
      have d2 : decide (n < m) = true := decide_eq_true h2
      clear hbad hz
      go_enter Tryd.func58, Tryd.ntmps58
      go_wp2_with (go_at_call 91; refine (kS _).mono ?_; rintro e w' ⟨rfl, hw'⟩; rw [hw']; clear hw' w')
      go_ret
      exact ⟨rfl, Y3.out⟩
set_option maxRecDepth 100000 in
set_option maxHeartbeats 8000000 in
theorem CheckConsistency_zero (old new : ByteArray) (n : Nat) (A : Option Addr) (N : Nat) (c : Nat) (w : World) (hn : n ≤ 1048576) :
    Calls Tryd.prog 58 #[.int .i64 0, .int .i64 n, .slice A N c, .string old, .string new] w fun e w' => e = .returned (.int .i64 (if N = 0 then 0 else 9)) ∧ Below w.heap.size w w' := by
  have kS := fun W => sizedP_calls (n : Int) W
  have hz : szB (n : Int) = true := decide_eq_true (by omega)
  rw [hz] at kS
  have kT := fun W => taker_calls A N c W
  have kL := fun (br bb j : Nat) (bad : Bool) (W : World) (t : Tk w W br bb A c j bad) => left_calls w br bb A c j bad W t
  have d2 : decide ((n : Int) < 0) = false := decide_eq_false (by omega)
  have y1 : Boxed (w.alloc (.cells #[.string old] 9)) w.heap.size 9 (.string old) := Boxed.new w 9 _
  have y3 : Below w.heap.size w (w.alloc (.cells #[.string old] 9)) := (Below.refl w.heap.size w).alloc (Nat.le_refl _) (.cells #[.string old] 9)
  have y4 : (w.alloc (.cells #[.string old] 9)).heap.size = w.heap.size + 1 := by simp
  have Y1 := Lib.hid y1
  have Y3 := Lib.hid y3
  have Y4 := Lib.hid y4
  clear hz y1 y3 y4
  by_cases h0 : N = 0
  · have x9 : decide (0 < N) = false := decide_eq_false (by omega)
    rw [if_pos h0]
    clear h0
    go_enter Tryd.func58, Tryd.ntmps58
    go_wp2_with (first
      | (go_at_call 91; refine (kS _).mono ?_; rintro e w' ⟨rfl, hw'⟩; rw [hw']; clear hw' w')
      | (go_at_call 94; go_loud (refine (kT _).mono ?_; rintro e w1 ⟨br, bb, hbr, rfl, x1, x2, hb1, hz1⟩; have TC := Lib.hid (cons_ready w _ w1 br bb old A _ c Y1.out Y3.out Y4.out hbr x1 x2 hb1 hz1); clear hbr hz1 hb1 x1 x2))
      | (go_at_call 122; go_loud (refine (kL _ _ _ _ _ TC.out.1).mono ?_; rintro e w' ⟨rfl, hw'⟩; rw [hw', x9]; clear hw' w')))
    go_ret
    exact ⟨rfl, TC.out.1.bel⟩
  · have x9 : decide (0 < N) = true := decide_eq_true (by omega)
    rw [if_neg h0]
    clear h0
    go_enter Tryd.func58, Tryd.ntmps58
    go_wp2_with (first
      | (go_at_call 91; refine (kS _).mono ?_; rintro e w' ⟨rfl, hw'⟩; rw [hw']; clear hw' w')
      | (go_at_call 94; go_loud (refine (kT _).mono ?_; rintro e w1 ⟨br, bb, hbr, rfl, x1, x2, hb1, hz1⟩; have TC := Lib.hid (cons_ready w _ w1 br bb old A _ c Y1.out Y3.out Y4.out hbr x1 x2 hb1 hz1); clear hbr hz1 hb1 x1 x2))
      | (go_at_call 122; go_loud (refine (kL _ _ _ _ _ TC.out.1).mono ?_; rintro e w' ⟨rfl, hw'⟩; rw [hw', x9]; clear hw' w')))
    go_ret
    exact ⟨rfl, TC.out.1.bel⟩
end Go.Proofs.YtoeibcdnhglobaaDoor.P
