/- proof.teller: path, proof: the walks. -/
import Derived.Test.YtoeibcdnhglobaaDoorGOne
namespace Go.Proofs.YtoeibcdnhglobaaDoor.P
set_option linter.unusedVariables false
set_option linter.unusedSimpArgs false
open Go.RowKit Go.Shelf Go.Proofs.YtoeibcdnhglobaaDoorW.PrintWords Go.Proofs.YtoeibcdnhglobaaDoorW.PrintLast Go.Proofs.YtoeibcdnhglobaaDoorW.PrintMore
open Go.Proofs.YtoeibcdnhglobaaDoor.Pure

/-- The path of the leaf a + m among the n leaves from a on. -/
def pathR (h : List ByteArray) : Nat → Nat → Nat → Nat → List ByteArray
  | 0, _, _, _ => []
  | f + 1, m, a, n => if n ≤ 1 then [] else if m < half n then pathR h f m a (half n) ++ [seg h (a + half n) (n - half n)] else pathR h f (m - half n) (a + half n) (n - half n) ++ [seg h a (half n)]
/-- The proof that the first m of the n leaves from a on are a tree's. -/
def proofR (h : List ByteArray) : Nat → Nat → Nat → Nat → Bool → List ByteArray
  | 0, _, _, _, _ => []
  | f + 1, m, a, n, known => if m = n then (if known then [] else [seg h a n]) else if m ≤ half n then proofR h f m a (half n) known ++ [seg h (a + half n) (n - half n)] else proofR h f (m - half n) (a + half n) (n - half n) false ++ [seg h a (half n)]
theorem pathR_len (h : List ByteArray) : ∀ (f m a n : Nat), (pathR h f m a n).length ≤ f
  | 0, _, _, _ => Nat.le_refl _
  | f + 1, m, a, n => by
    unfold pathR
    split
    · simp
    · split
      · have := pathR_len h f m a (half n); rw [List.length_append, List.length_singleton]; omega
      · have := pathR_len h f (m - half n) (a + half n) (n - half n); rw [List.length_append, List.length_singleton]; omega
theorem proofR_len (h : List ByteArray) : ∀ (f m a n : Nat) (kn : Bool), (proofR h f m a n kn).length ≤ f
  | 0, _, _, _, _ => Nat.le_refl _
  | f + 1, m, a, n, kn => by
    unfold proofR
    split
    · cases kn <;> simp
    · split
      · have := proofR_len h f m a (half n) kn; rw [List.length_append, List.length_singleton]; omega
      · have := proofR_len h f (m - half n) (a + half n) (n - half n) false; rw [List.length_append, List.length_singleton]; omega
theorem own_slc2 {w : World} {base n : Nat} {e : TypeId} {size : Nat} {v : Value} {xs : List Value} (h : w.ownsRow base e size v n xs) : ∃ A c, v = .slice A n c ∧ n ≤ c := by
  rcases h.2 with ⟨rfl, h0⟩ | ⟨g, cap, cur, rfl, _, hg, hcap, _⟩
  · exact ⟨none, 0, by rw [h0], by omega⟩
  · exact ⟨_, _, rfl, hcap⟩
set_option maxRecDepth 100000 in
set_option maxHeartbeats 8000000 in
theorem path_calls (b : Nat) (h : List ByteArray) (hh : h.length ≤ 1000000) (hs : ∀ s ∈ h, s.size ≤ 32) (d : Nat) : ∀ (f n a m : Nat) (z x y : Int) (w : World), n ≤ d → n ≤ f → f ≤ 1000000 → 1 ≤ n → m < n → z = a + m → x = a → y = a + n → a + n ≤ h.length → Tel w b h → TzTab w → GlobH w →
    Calls Tryd.prog 102 #[.pointer (some ⟨b, 0, none⟩), .int .i64 z, .int .i64 x, .int .i64 y] w fun e w' => ∃ v, e = .returned v ∧ w'.ownsRow w.heap.size 9 1 v (pathR h f m a n).length (encs Value.string (pathR h f m a n)) ∧ Below w.heap.size w w' := by
  induction d with
  | zero => intro f n a m z x y w hd hf hfm h1; omega
  | succ d ih =>
    intro f n a m z x y w hd hf hfm h1 hmn hz hx hy hle ht hT hG
    obtain ⟨f, rfl⟩ : ∃ g, f = g + 1 := ⟨f - 1, by omega⟩
    subst hx
    subst hy
    subst hz
    have hsub : (a : Int) + (n : Int) - (a : Int) = (n : Int) := by omega
    have g1 : (1 : Int) ≤ (n : Int) := by omega
    have g2 : (n : Int) ≤ 1000000 := by omega
    have g3 : (0 : Int) ≤ (a : Int) := by omega
    have g4 : (a : Int) ≤ 1000000 := by omega
    by_cases hn1 : n = 1
    · have hp : pathR h (f + 1) m a n = [] := by unfold pathR; rw [if_pos (by omega)]
      rw [hp]
      have e1 : ((n : Int) == 1) = true := by rw [beq_iff_eq]; omega
      have ho := own_nil w w.heap.size 9 1
      clear hn1 hp ih hmn hle ht hT hG hs hh
      go_enter Tryd.func102, Tryd.ntmps102
      go_wp2
      go_ret
      exact ⟨_, rfl, by simpa [encs] using ho, Below.refl _ _⟩
    · have e1 : ((n : Int) == 1) = false := by rw [beq_eq_false_iff_ne]; omega
      have h2 : 2 ≤ n := by omega
      have hm := half_lt h2
      have kS := fun W => split_calls n h2 (by omega) W
      have g5 : (1 : Int) ≤ ((half n : Nat) : Int) := by omega
      have g6 : ((half n : Nat) : Int) ≤ 1000000 := by omega
      by_cases hc : m < half n
      · have hp : pathR h (f + 1) m a n = pathR h f m a (half n) ++ [seg h (a + half n) (n - half n)] := by
          show (if n ≤ 1 then [] else _) = _
          rw [if_neg (by omega), if_pos hc]
        have hl := pathR_len h f m a (half n)
        have k1 := ih f (half n) a m ((a : Int) + (m : Int)) a ((a : Int) + ((half n : Nat) : Int)) w (by omega) (by omega) (by omega) hm.1 hc rfl rfl rfl (by omega) ht hT hG
        have k2 := fun W (hW : Below w.heap.size w W) => one_calls b h hh hs n (n - half n) (a + half n) ((a : Int) + ((half n : Nat) : Int)) ((a : Int) + (n : Int)) W (by omega) (by omega) (by omega) (by omega) (by omega) (ht.below hW) (hT.below hW hT.lt) (hG.below hW)
        have d1 : decide ((a : Int) + (m : Int) < (a : Int) + ((half n : Nat) : Int)) = true := decide_eq_true (by omega)
        have g7 : (m : Int) < ((half n : Nat) : Int) := by omega
        rw [hp]
        generalize pathR h f m a (half n) = P at *
        generalize seg h (a + half n) (n - half n) = X at *
        generalize half n = mh at *
        have hl16 : (P.length + 1) * 16 ≤ 140737488355328 := by omega
        clear hp ih hmn hle ht hT hG hs hh hn1 hd h2 hl hf hfm
        go_enter Tryd.func102, Tryd.ntmps102
        go_wp2_with (first
          | (go_at_call 96; refine (kS _).mono ?_; rintro e w' ⟨rfl, hw'⟩; rw [hw']; clear hw' w')
          | (go_at_call 102; with_reducible refine k1.mono ?_; rintro e w1 ⟨v1, rfl, ho1, hb1⟩; obtain ⟨A1, c1, rfl, _⟩ := own_slc2 ho1; clear k1)
          | (go_at_call 101; with_reducible refine (k2 _ hb1).mono ?_; rintro e w2 ⟨rfl, hb2⟩; have hb2' := hb1.trans (hb2.mono hb1.size); have ho2 := pw_own_below ho1 hb2; clear k2)
          | (at_builtin; go_loud (refine print_append_of (w0 := w) Value.string w.heap.size rfl _ _ 22 9 (.string ⟨#[]⟩) 16 rfl Tryd.underlying22 inf9 rfl (by decide) (.slice A1 P.length c1) P X rfl rfl rfl ho2 hb2' hb2'.size hl16 ?_; intro v4 w4 hown4 hB4 _ _)))
        go_ret
        exact ⟨_, rfl, hown4, hB4⟩
      · have hp : pathR h (f + 1) m a n = pathR h f (m - half n) (a + half n) (n - half n) ++ [seg h a (half n)] := by
          show (if n ≤ 1 then [] else _) = _
          rw [if_neg (by omega), if_neg hc]
        have hl := pathR_len h f (m - half n) (a + half n) (n - half n)
        have k1 := ih f (n - half n) (a + half n) (m - half n) ((a : Int) + (m : Int)) ((a : Int) + ((half n : Nat) : Int)) ((a : Int) + (n : Int)) w (by omega) (by omega) (by omega) (by omega) (by omega) (by omega) (by omega) (by omega) (by omega) ht hT hG
        have k2 := fun W (hW : Below w.heap.size w W) => one_calls b h hh hs n (half n) a (a : Int) ((a : Int) + ((half n : Nat) : Int)) W (by omega) (by omega) (by omega) (by omega) (by omega) (ht.below hW) (hT.below hW hT.lt) (hG.below hW)
        have d1 : decide ((a : Int) + (m : Int) < (a : Int) + ((half n : Nat) : Int)) = false := decide_eq_false (by omega)
        have g7 : ((half n : Nat) : Int) ≤ (m : Int) := by omega
        rw [hp]
        generalize pathR h f (m - half n) (a + half n) (n - half n) = P at *
        generalize seg h a (half n) = X at *
        generalize half n = mh at *
        have hl16 : (P.length + 1) * 16 ≤ 140737488355328 := by omega
        clear hp ih hmn hle ht hT hG hs hh hn1 hd h2 hl hf hfm hc
        go_enter Tryd.func102, Tryd.ntmps102
        go_wp2_with (first
          | (go_at_call 96; refine (kS _).mono ?_; rintro e w' ⟨rfl, hw'⟩; rw [hw']; clear hw' w')
          | (go_at_call 102; with_reducible refine k1.mono ?_; rintro e w1 ⟨v1, rfl, ho1, hb1⟩; obtain ⟨A1, c1, rfl, _⟩ := own_slc2 ho1; clear k1)
          | (go_at_call 101; with_reducible refine (k2 _ hb1).mono ?_; rintro e w2 ⟨rfl, hb2⟩; have hb2' := hb1.trans (hb2.mono hb1.size); have ho2 := pw_own_below ho1 hb2; clear k2)
          | (at_builtin; go_loud (refine print_append_of (w0 := w) Value.string w.heap.size rfl _ _ 22 9 (.string ⟨#[]⟩) 16 rfl Tryd.underlying22 inf9 rfl (by decide) (.slice A1 P.length c1) P X rfl rfl rfl ho2 hb2' hb2'.size hl16 ?_; intro v4 w4 hown4 hB4 _ _)))
        go_ret
        exact ⟨_, rfl, hown4, hB4⟩
set_option maxRecDepth 100000 in
set_option maxHeartbeats 8000000 in
theorem proof_calls (b : Nat) (h : List ByteArray) (hh : h.length ≤ 1000000) (hs : ∀ s ∈ h, s.size ≤ 32) (d : Nat) : ∀ (f n a m : Nat) (kn : Bool) (z x y : Int) (w : World), n ≤ d → n ≤ f → f ≤ 1000000 → 1 ≤ m → m ≤ n → z = m → x = a → y = a + n → a + n ≤ h.length → Tel w b h → TzTab w → GlobH w →
    Calls Tryd.prog 93 #[.pointer (some ⟨b, 0, none⟩), .int .i64 z, .int .i64 x, .int .i64 y, .bool kn] w fun e w' => ∃ v, e = .returned v ∧ w'.ownsRow w.heap.size 9 1 v (proofR h f m a n kn).length (encs Value.string (proofR h f m a n kn)) ∧ Below w.heap.size w w' := by
  induction d with
  | zero => intro f n a m kn z x y w hd hf hfm h1 hmn; omega
  | succ d ih =>
    intro f n a m kn z x y w hd hf hfm h1 hmn hz hx hy hle ht hT hG
    obtain ⟨f, rfl⟩ : ∃ g, f = g + 1 := ⟨f - 1, by omega⟩
    subst hx
    subst hy
    subst hz
    have hsub : (a : Int) + (n : Int) - (a : Int) = (n : Int) := by omega
    have g1 : (1 : Int) ≤ (n : Int) := by omega
    have g2 : (n : Int) ≤ 1000000 := by omega
    have g3 : (0 : Int) ≤ (a : Int) := by omega
    have g4 : (a : Int) ≤ 1000000 := by omega
    by_cases hn1 : m = n
    · have e1 : ((m : Int) == (n : Int)) = true := by rw [beq_iff_eq]; omega
      cases kn with
      | true =>
        have hp : proofR h (f + 1) m a n true = [] := by unfold proofR; rw [if_pos hn1]; rfl
        rw [hp]
        have ho := own_nil w w.heap.size 9 1
        clear hn1 hp ih hmn hle ht hT hG hs hh h1 hd hf
        go_enter Tryd.func93, Tryd.ntmps93
        go_wp2
        go_ret
        exact ⟨_, rfl, by simpa [encs] using ho, Below.refl _ _⟩
      | false =>
        have hp : proofR h (f + 1) m a n false = [seg h a n] := by unfold proofR; rw [if_pos hn1]; rfl
        have k2 := one_calls b h hh hs n n a (a : Int) ((a : Int) + (n : Int)) w (by omega) (by omega) (by omega) (by omega) (by omega) ht hT hG
        rw [hp]
        generalize seg h a n = X at *
        have ho := fun (W : World) (hW : Below w.heap.size w W) => own_lit_of (enc := Value.string) W w.heap.size 9 [X] hW.size (by simp)
        have HO := Lib.hid ho
        clear hn1 hp ih hmn hle ht hT hG hs hh h1 hd hf ho
        go_enter Tryd.func93, Tryd.ntmps93
        go_wp2_with (go_at_call 101; with_reducible refine k2.mono ?_; rintro e w2 ⟨rfl, hb2⟩)
        go_ret
        exact ⟨_, rfl, by simpa [encs] using HO.out w2 hb2, hb2.alloc hb2.size _⟩
    · have e1 : ((m : Int) == (n : Int)) = false := by rw [beq_eq_false_iff_ne]; omega
      have h2 : 2 ≤ n := by omega
      have hm := half_lt h2
      have kS := fun W => split_calls n h2 (by omega) W
      have g5 : (1 : Int) ≤ ((half n : Nat) : Int) := by omega
      have g6 : ((half n : Nat) : Int) ≤ 1000000 := by omega
      have g8 : (0 : Int) ≤ (m : Int) := by omega
      have g9 : (m : Int) ≤ 1000000 := by omega
      by_cases hc : m ≤ half n
      · have hp : proofR h (f + 1) m a n kn = proofR h f m a (half n) kn ++ [seg h (a + half n) (n - half n)] := by
          show (if m = n then _ else _) = _
          rw [if_neg hn1, if_pos hc]
        have hl := proofR_len h f m a (half n) kn
        have k1 := ih f (half n) a m kn (m : Int) a ((a : Int) + ((half n : Nat) : Int)) w (by omega) (by omega) (by omega) h1 hc rfl rfl rfl (by omega) ht hT hG
        have k2 := fun W (hW : Below w.heap.size w W) => one_calls b h hh hs n (n - half n) (a + half n) ((a : Int) + ((half n : Nat) : Int)) ((a : Int) + (n : Int)) W (by omega) (by omega) (by omega) (by omega) (by omega) (ht.below hW) (hT.below hW hT.lt) (hG.below hW)
        have d1 : decide ((m : Int) ≤ ((half n : Nat) : Int)) = true := decide_eq_true (by omega)
        have d2 : decide (m ≤ half n) = true := decide_eq_true hc
        rw [hp]
        generalize proofR h f m a (half n) kn = P at *
        generalize seg h (a + half n) (n - half n) = X at *
        generalize half n = mh at *
        have hl16 : (P.length + 1) * 16 ≤ 140737488355328 := by omega
        clear hp ih hmn hle ht hT hG hs hh hn1 hd h2 hl hf hfm
        go_enter Tryd.func93, Tryd.ntmps93
        go_wp2_with (first
          | (go_at_call 96; refine (kS _).mono ?_; rintro e w' ⟨rfl, hw'⟩; rw [hw']; clear hw' w')
          | (go_at_call 93; with_reducible refine k1.mono ?_; rintro e w1 ⟨v1, rfl, ho1, hb1⟩; obtain ⟨A1, c1, rfl, _⟩ := own_slc2 ho1; clear k1)
          | (go_at_call 101; with_reducible refine (k2 _ hb1).mono ?_; rintro e w2 ⟨rfl, hb2⟩; have hb2' := hb1.trans (hb2.mono hb1.size); have ho2 := pw_own_below ho1 hb2; clear k2)
          | (at_builtin; go_loud (refine print_append_of (w0 := w) Value.string w.heap.size rfl _ _ 22 9 (.string ⟨#[]⟩) 16 rfl Tryd.underlying22 inf9 rfl (by decide) (.slice A1 P.length c1) P X rfl rfl rfl ho2 hb2' hb2'.size hl16 ?_; intro v4 w4 hown4 hB4 _ _)))
        go_ret
        exact ⟨_, rfl, hown4, hB4⟩
      · have hp : proofR h (f + 1) m a n kn = proofR h f (m - half n) (a + half n) (n - half n) false ++ [seg h a (half n)] := by
          show (if m = n then _ else _) = _
          rw [if_neg hn1, if_neg hc]
        have hl := proofR_len h f (m - half n) (a + half n) (n - half n) false
        have k1 := ih f (n - half n) (a + half n) (m - half n) false ((m : Int) - ((half n : Nat) : Int)) ((a : Int) + ((half n : Nat) : Int)) ((a : Int) + (n : Int)) w (by omega) (by omega) (by omega) (by omega) (by omega) (by omega) (by omega) (by omega) (by omega) ht hT hG
        have k2 := fun W (hW : Below w.heap.size w W) => one_calls b h hh hs n (half n) a (a : Int) ((a : Int) + ((half n : Nat) : Int)) W (by omega) (by omega) (by omega) (by omega) (by omega) (ht.below hW) (hT.below hW hT.lt) (hG.below hW)
        have d1 : decide ((m : Int) ≤ ((half n : Nat) : Int)) = false := decide_eq_false (by omega)
        have d2 : decide (m ≤ half n) = false := decide_eq_false hc
        rw [hp]
        generalize proofR h f (m - half n) (a + half n) (n - half n) false = P at *
        generalize seg h a (half n) = X at *
        generalize half n = mh at *
        have hl16 : (P.length + 1) * 16 ≤ 140737488355328 := by omega
        clear hp ih hmn hle ht hT hG hs hh hn1 hd h2 hl hf hfm hc
        go_enter Tryd.func93, Tryd.ntmps93
        go_wp2_with (first
          | (go_at_call 96; refine (kS _).mono ?_; rintro e w' ⟨rfl, hw'⟩; rw [hw']; clear hw' w')
          | (go_at_call 93; with_reducible refine k1.mono ?_; rintro e w1 ⟨v1, rfl, ho1, hb1⟩; obtain ⟨A1, c1, rfl, _⟩ := own_slc2 ho1; clear k1)
          | (go_at_call 101; with_reducible refine (k2 _ hb1).mono ?_; rintro e w2 ⟨rfl, hb2⟩; have hb2' := hb1.trans (hb2.mono hb1.size); have ho2 := pw_own_below ho1 hb2; clear k2)
          | (at_builtin; go_loud (refine print_append_of (w0 := w) Value.string w.heap.size rfl _ _ 22 9 (.string ⟨#[]⟩) 16 rfl Tryd.underlying22 inf9 rfl (by decide) (.slice A1 P.length c1) P X rfl rfl rfl ho2 hb2' hb2'.size hl16 ?_; intro v4 w4 hown4 hB4 _ _)))
        go_ret
        exact ⟨_, rfl, hown4, hB4⟩
end Go.Proofs.YtoeibcdnhglobaaDoor.P
