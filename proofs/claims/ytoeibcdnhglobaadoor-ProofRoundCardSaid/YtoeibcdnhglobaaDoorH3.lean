/- Texts of the seat, joined: GTk, GChI. -/
import Derived.Test.YtoeibcdnhglobaaDoorGLv10
import Derived.Laws.EntriesVeiled
/- proof.taker, CheckInclusion: the walks. -/
namespace Go.Proofs.YtoeibcdnhglobaaDoor.P
set_option linter.unusedVariables false
set_option linter.unusedSimpArgs false
open Go.RowKit Go.Shelf Go.Proofs.YtoeibcdnhglobaaDoorW.PrintWords Go.Proofs.YtoeibcdnhglobaaDoorW.PrintLast Go.Proofs.YtoeibcdnhglobaaDoorW.PrintMore
open Go.Proofs.YtoeibcdnhglobaaDoor.Pure

/-- What a taker gives next, of a row of which j are left: the last; nothing, where none is left. -/
def tkS (P : List ByteArray) (j : Nat) : ByteArray := if j = 0 then ⟨#[]⟩ else P.getD (j - 1) ByteArray.empty
/-- The blocks of a taker: what is left, and whether too much was asked. -/
structure Tk (w0 w : World) (br bb : Nat) (A : Option Addr) (c j : Nat) (bad : Bool) : Prop where
  row : Boxed w br 22 (.slice A j c)
  odd : Boxed w bb 4 (.bool bad)
  ne : br ≠ bb
  r0 : w0.heap.size ≤ br
  b0 : w0.heap.size ≤ bb
  bel : Below w0.heap.size w0 w
theorem boxed_keep {w w' : World} {b : Nat} {t : TypeId} {v : Value} (h : Boxed w b t v) (e : w'.heap[b]? = w.heap[b]?) : Boxed w' b t v := e.trans h
theorem Tk.on {w0 w w' : World} {br bb : Nat} {A : Option Addr} {c j : Nat} {bad : Bool} (t : Tk w0 w br bb A c j bad) (hb : Below w.heap.size w w') : Tk w0 w' br bb A c j bad :=
  ⟨t.row.below hb, t.odd.below hb, t.ne, t.r0, t.b0, t.bel.trans (hb.mono t.bel.size)⟩
theorem set_bel {w : World} {b B : Nat} {u : Value} (h : B ≤ b) : Below B w (w.setCell ⟨b, 0, none⟩ u) :=
  ⟨rfl, rfl, rfl, by simp [World.setCell], fun k hk => Below.heap_setCell _ _ _ _ (by show k ≠ b; omega)⟩
set_option maxRecDepth 100000 in
set_option maxHeartbeats 4000000 in
theorem take_calls (w0 : World) (br bb : Nat) (A : Option Addr) (P : List ByteArray) (c j : Nat) (bad : Bool) (w : World) (hr : ReadsOf Value.string ByteArray.empty w0 A P.length P) (hl : P.length < 9223372036854775807) (hj : j ≤ P.length) (hc : P.length ≤ c) (t : Tk w0 w br bb A c j bad) :
    Calls Tryd.prog 121 #[.pointer (some ⟨br, 0, none⟩), .pointer (some ⟨bb, 0, none⟩)] w fun e w' => e = .returned (.string (tkS P j)) ∧ Tk w0 w' br bb A c (j - 1) (bad || decide (j < 1)) ∧ Touch (fun k => k = br ∨ k = bb) w w' := by
  have h1 := t.row.cell
  have h2 := t.row.frozen
  have h3 := t.odd.cell
  have h4 := t.odd.frozen
  by_cases h0 : j = 0
  · subst h0
    have e1 : tkS P 0 = ⟨#[]⟩ := rfl
    rw [e1]
    have ht : Tk w0 (w.setCell ⟨bb, 0, none⟩ (.bool true)) br bb A c 0 true :=
      ⟨boxed_keep t.row (Below.heap_setCell _ _ _ _ t.ne), t.odd.set _, t.ne, t.r0, t.b0, t.bel.trans (set_bel t.b0)⟩
    have HT := Lib.hid ht
    have htc : Touch (fun k => k = br ∨ k = bb) w (w.setCell ⟨bb, 0, none⟩ (.bool true)) := Touch.set _ _ _ (.inr rfl)
    have HC := Lib.hid htc
    clear t ht hr htc
    go_enter Tryd.func121, Tryd.ntmps121
    go_wp2
    go_ret
    exact ⟨rfl, by simpa using HT.out, HC.out⟩
  · obtain ⟨i, hi⟩ : ∃ i, j = i + 1 := ⟨j - 1, by omega⟩
    obtain ⟨ad, rfl, hcell⟩ := hr.at_ (i : Int) (by omega) (by omega)
    rw [Int.toNat_natCast] at hcell
    have hx : rdOf ByteArray.empty P (i : Int) = tkS P j := by rw [hi]; simp [rdOf, tkS, List.getD_eq_getElem?_getD]
    rw [hx] at hcell
    have hc5 := pw_cell_below t.bel hcell
    generalize tkS P j = X at *
    have ht : Tk w0 (w.setCell ⟨br, 0, none⟩ (.slice (some ad) i c)) br bb (some ad) c i bad :=
      ⟨t.row.set _, boxed_keep t.odd (Below.heap_setCell _ _ _ _ (fun e => t.ne e.symm)), t.ne, t.r0, t.b0, t.bel.trans (set_bel t.r0)⟩
    have htc : Touch (fun k => k = br ∨ k = bb) w (w.setCell ⟨br, 0, none⟩ (.slice (some ad) i c)) := Touch.set _ _ _ (.inl rfl)
    have HT := Lib.hid ht
    have HC := Lib.hid htc
    have g1 : (j : Int) - 1 = (i : Int) := by omega
    have g3 : (j : Int) < 9223372036854775807 := by omega
    have g4 : (i : Int) < (j : Int) := by omega
    have g5 : (i : Int) ≤ (c : Int) := by omega
    have e0 : ((j : Int) == 0) = false := beq_eq_false_iff_ne.2 (by omega)
    have ej : j - 1 = i := by omega
    have eb : (bad || decide (j < 1)) = bad := by rw [decide_eq_false (by omega)]; simp
    rw [ej, eb]
    clear t ht hr htc hx hcell h0 hi ej eb hj hl hc
    go_enter Tryd.func121, Tryd.ntmps121
    go_wp2
    go_ret
    exact ⟨rfl, HT.out, HC.out⟩
set_option maxHeartbeats 4000000 in
theorem left_calls (w0 : World) (br bb : Nat) (A : Option Addr) (c j : Nat) (bad : Bool) (w : World) (t : Tk w0 w br bb A c j bad) :
    Calls Tryd.prog 122 #[.pointer (some ⟨bb, 0, none⟩), .pointer (some ⟨br, 0, none⟩)] w fun e w' => e = .returned (.bool (bad || decide (0 < j))) ∧ w' = w := by
  have h1 := t.row.cell
  have h3 := t.odd.cell
  clear t
  cases bad with
  | true =>
    go_enter Tryd.func122, Tryd.ntmps122
    go_wp2
    go_ret
    exact ⟨rfl, rfl⟩
  | false =>
    by_cases h0 : 0 < j
    · have d : decide (0 < j) = true := decide_eq_true h0
      rw [d]
      go_enter Tryd.func122, Tryd.ntmps122
      go_wp2
      go_ret
      exact ⟨rfl, rfl⟩
    · have d : decide (0 < j) = false := decide_eq_false h0
      rw [d]
      clear h0
      go_enter Tryd.func122, Tryd.ntmps122
      go_wp2
      go_ret
      exact ⟨rfl, rfl⟩
/-- How long an inclusion path is. -/
def longR : Nat → Nat → Nat → Nat
  | 0, _, _ => 0
  | f + 1, m, n => if n ≤ 1 then 0 else (if m < half n then longR f m (half n) else longR f (m - half n) (n - half n)) + 1
/-- What a climb along the row P makes of a leaf. -/
def climbR (leaf : ByteArray) (P : List ByteArray) : Nat → Nat → Nat → Nat → ByteArray
  | 0, _, _, _ => leaf
  | f + 1, m, n, j => if n ≤ 1 then leaf else if m < half n then joinH (climbR leaf P f m (half n) (j - 1)) (tkS P j) else joinH (tkS P j) (climbR leaf P f (m - half n) (n - half n) (j - 1))
theorem climbR_sz (leaf : ByteArray) (P : List ByteArray) (B : Nat) (h0 : leaf.size ≤ B) (h1 : 32 ≤ B) : ∀ f m n j, (climbR leaf P f m n j).size ≤ B
  | 0, _, _, _ => h0
  | f + 1, m, n, j => by
    unfold climbR
    split
    · exact h0
    · split
      · exact Nat.le_trans (Nat.le_of_eq (nodeH_size _ _)) h1
      · exact Nat.le_trans (Nat.le_of_eq (nodeH_size _ _)) h1
theorem tkS_sz (P : List ByteArray) (B : Nat) (h : ∀ s ∈ P, s.size ≤ B) (j : Nat) : (tkS P j).size ≤ B := by
  unfold tkS
  split
  · exact Nat.zero_le _
  · rw [List.getD_eq_getElem?_getD]
    cases e : P[j - 1]? with
    | none => exact Nat.zero_le _
    | some x => exact h x (List.mem_of_getElem? e)
/-- The blocks that a climb reads. -/
structure Cl (w : World) (bl bt bm bc br bb : Nat) (leaf : ByteArray) (m : Int) : Prop where
  leaf_ : Boxed w bl 9 (.string leaf)
  take_ : Boxed w bt 122 (.func (.func 121) #[] #[.pointer (some ⟨br, 0, none⟩), .pointer (some ⟨bb, 0, none⟩)])
  m_ : Boxed w bm 3 (.int .i64 m)
  climb_ : Boxed w bc 88 (.func (.func 95) #[] #[.pointer (some ⟨bl, 0, none⟩), .pointer (some ⟨bt, 0, none⟩), .pointer (some ⟨bm, 0, none⟩), .pointer (some ⟨bc, 0, none⟩)])
  nl : ¬ (bl = br ∨ bl = bb)
  nt : ¬ (bt = br ∨ bt = bb)
  nm : ¬ (bm = br ∨ bm = bb)
  nc : ¬ (bc = br ∨ bc = bb)
theorem Cl.on {w w' : World} {bl bt bm bc br bb : Nat} {leaf : ByteArray} {m : Int} (h : Cl w bl bt bm bc br bb leaf m) (t : Touch (fun k => k = br ∨ k = bb) w w') : Cl w' bl bt bm bc br bb leaf m :=
  ⟨t.blk h.leaf_ h.nl, t.blk h.take_ h.nt, t.blk h.m_ h.nm, t.blk h.climb_ h.nc, h.nl, h.nt, h.nm, h.nc⟩
set_option maxRecDepth 100000 in
set_option maxHeartbeats 8000000 in
theorem climb_calls (w0 : World) (bl bt bm bc br bb : Nat) (leaf : ByteArray) (A : Option Addr) (P : List ByteArray) (c : Nat) (hr : ReadsOf Value.string ByteArray.empty w0 A P.length P) (hl : P.length < 9223372036854775807) (hc : P.length ≤ c) (hG : GlobH w0) (B : Nat) (hB : B < 100000000) (hB2 : 32 ≤ B) (hleaf : leaf.size ≤ B) (hP : ∀ s ∈ P, s.size ≤ B) (d : Nat) :
    ∀ (f n a m j : Nat) (bad : Bool) (x y : Int) (w : World), n ≤ d → n ≤ f → 1 ≤ n → m < n → x = a → y = a + n → a + n ≤ 1048576 → j ≤ P.length → Tk w0 w br bb A c j bad → Cl w bl bt bm bc br bb leaf (a + m : Nat) →
    Calls Tryd.prog 95 #[.int .i64 x, .int .i64 y, .pointer (some ⟨bl, 0, none⟩), .pointer (some ⟨bt, 0, none⟩), .pointer (some ⟨bm, 0, none⟩), .pointer (some ⟨bc, 0, none⟩)] w fun e w' => e = .returned (.string (climbR leaf P f m n j)) ∧ Tk w0 w' br bb A c (j - longR f m n) (bad || decide (j < longR f m n)) ∧ Touch (fun k => k = br ∨ k = bb) w w' := by
  induction d with
  | zero => intro f n a m j bad x y w hd hf h1; omega
  | succ d ih =>
    intro f n a m j bad x y w hd hf h1 hmn hx hy hle hj t q
    obtain ⟨f, rfl⟩ : ∃ g, f = g + 1 := ⟨f - 1, by omega⟩
    subst hx
    subst hy
    have q1 := q.leaf_.cell
    have q2 := q.take_.cell
    have hsub : (a : Int) + (n : Int) - (a : Int) = (n : Int) := by omega
    have g1 : (1 : Int) ≤ (n : Int) := by omega
    have g2 : (n : Int) ≤ 1048576 := by omega
    have g3 : (0 : Int) ≤ (a : Int) := by omega
    have g4 : (a : Int) ≤ 1048576 := by omega
    by_cases hn1 : n = 1
    · have e1 : ((n : Int) == 1) = true := by rw [beq_iff_eq]; omega
      have ec : climbR leaf P (f + 1) m n j = leaf := by unfold climbR; rw [if_pos (by omega)]
      have el : longR (f + 1) m n = 0 := by unfold longR; rw [if_pos (by omega)]
      rw [ec, el]
      have ht : Tk w0 w br bb A c (j - 0) (bad || decide (j < 0)) := by simpa using t
      have HT := Lib.hid ht
      clear t q ih ht ec el hn1 hr hP hG
      go_enter Tryd.func95, Tryd.ntmps95
      go_wp2
      go_ret
      exact ⟨rfl, HT.out, Touch.refl _ _⟩
    · have e1 : ((n : Int) == 1) = false := by rw [beq_eq_false_iff_ne]; omega
      have h2 : 2 ≤ n := by omega
      have hm := half_lt h2
      have kS := fun W => split_calls n h2 (by omega) W
      have g5 : (1 : Int) ≤ ((half n : Nat) : Int) := by omega
      have g6 : ((half n : Nat) : Int) ≤ 1048576 := by omega
      have k1 := take_calls w0 br bb A P c j bad w hr hl hj hc t
      have hGW : ∀ W, Below w0.heap.size w0 W → GlobH W := fun W h => hG.below h
      have hxs := tkS_sz P B hP j
      by_cases hcase : m < half n
      · have ec : climbR leaf P (f + 1) m n j = joinH (climbR leaf P f m (half n) (j - 1)) (tkS P j) := by
          show (if n ≤ 1 then leaf else _) = _
          rw [if_neg (by omega), if_pos hcase]
        have el : longR (f + 1) m n = longR f m (half n) + 1 := by
          show (if n ≤ 1 then 0 else _) = _
          rw [if_neg (by omega), if_pos hcase]
        have k2 := fun W t2 q2 => ih f (half n) a m (j - 1) (bad || decide (j < 1)) (a : Int) ((a : Int) + ((half n : Nat) : Int)) W (by omega) (by omega) hm.1 hcase rfl rfl (by omega) (by omega) t2 q2
        have hcs := climbR_sz leaf P B hleaf hB2 f m (half n) (j - 1)
        rw [ec, el]
        generalize climbR leaf P f m (half n) (j - 1) = Y at *
        generalize tkS P j = X at *
        have kJ := fun W (hW : Below w0.heap.size w0 W) => NodeHash_calls Y X (by omega) W (hGW W hW)
        have d1 : decide (((a + m : Nat) : Int) < (a : Int) + ((half n : Nat) : Int)) = true := decide_eq_true (by omega)
        have e5 : j - (longR f m (half n) + 1) = j - 1 - longR f m (half n) := by omega
        have e6 : (bad || decide (j < longR f m (half n) + 1)) = ((bad || decide (j < 1)) || decide (j - 1 < longR f m (half n))) := by
          cases bad
          · by_cases hh : j < 1
            · simp [hh]; omega
            · simp [hh]; omega
          · rfl
        rw [e5, e6]
        generalize longR f m (half n) = K at *
        generalize half n = mh at *
        generalize (a + m : Nat) = am at *
        clear ih hP hG hr hGW ec el e5 e6 hmn hcase hm hn1 h2 hd hf hxs hcs hleaf hle
        show Calls _ _ _ _ fun e w' => e = .returned (.string (nodeH Y X)) ∧ _
        go_enter Tryd.func95, Tryd.ntmps95
        go_wp2_with (first
          | (go_at_call 121; go_loud (with_reducible refine k1.mono ?_; rintro e w1 ⟨rfl, t1, c1⟩; have q1 := q.on c1; have p3 := q1.m_.cell; have p4 := q1.climb_.cell; clear k1))
          | (go_at_call 96; refine (kS _).mono ?_; rintro e w' ⟨rfl, hw'⟩; rw [hw']; clear hw' w')
          | (go_at_call 95; go_loud (refine (k2 _ t1 q1).mono ?_; rintro e w2 ⟨rfl, t2, c2⟩; have hb2 := t2.bel; clear k2))
          | (go_at_call 41; go_loud (refine (kJ _ hb2).mono ?_; rintro e w3 ⟨rfl, hb3⟩)))
        go_ret
        exact ⟨rfl, t2.on hb3, (c1.trans c2 (fun _ e => .inl e)).below hb3⟩
      · have ec : climbR leaf P (f + 1) m n j = joinH (tkS P j) (climbR leaf P f (m - half n) (n - half n) (j - 1)) := by
          show (if n ≤ 1 then leaf else _) = _
          rw [if_neg (by omega), if_neg hcase]
        have el : longR (f + 1) m n = longR f (m - half n) (n - half n) + 1 := by
          show (if n ≤ 1 then 0 else _) = _
          rw [if_neg (by omega), if_neg hcase]
        have eam : a + half n + (m - half n) = a + m := by omega
        have k2 := fun W t2 q2 => ih f (n - half n) (a + half n) (m - half n) (j - 1) (bad || decide (j < 1)) ((a : Int) + ((half n : Nat) : Int)) ((a : Int) + (n : Int)) W (by omega) (by omega) (by omega) (by omega) (by omega) (by omega) (by omega) (by omega) t2 q2
        rw [eam] at k2
        have hcs := climbR_sz leaf P B hleaf hB2 f (m - half n) (n - half n) (j - 1)
        rw [ec, el]
        generalize climbR leaf P f (m - half n) (n - half n) (j - 1) = Y at *
        generalize tkS P j = X at *
        have kJ := fun W (hW : Below w0.heap.size w0 W) => NodeHash_calls X Y (by omega) W (hGW W hW)
        have d1 : decide (((a + m : Nat) : Int) < (a : Int) + ((half n : Nat) : Int)) = false := decide_eq_false (by omega)
        have e5 : j - (longR f (m - half n) (n - half n) + 1) = j - 1 - longR f (m - half n) (n - half n) := by omega
        have e6 : (bad || decide (j < longR f (m - half n) (n - half n) + 1)) = ((bad || decide (j < 1)) || decide (j - 1 < longR f (m - half n) (n - half n))) := by
          cases bad
          · by_cases hh : j < 1
            · simp [hh]; omega
            · simp [hh]; omega
          · rfl
        rw [e5, e6]
        generalize longR f (m - half n) (n - half n) = K at *
        generalize half n = mh at *
        generalize (a + m : Nat) = am at *
        clear ih hP hG hr hGW ec el e5 e6 hmn hcase hm hn1 h2 hd hf hxs hcs hleaf hle eam
        show Calls _ _ _ _ fun e w' => e = .returned (.string (nodeH X Y)) ∧ _
        go_enter Tryd.func95, Tryd.ntmps95
        go_wp2_with (first
          | (go_at_call 121; go_loud (with_reducible refine k1.mono ?_; rintro e w1 ⟨rfl, t1, c1⟩; have q1 := q.on c1; have p3 := q1.m_.cell; have p4 := q1.climb_.cell; clear k1))
          | (go_at_call 96; refine (kS _).mono ?_; rintro e w' ⟨rfl, hw'⟩; rw [hw']; clear hw' w')
          | (go_at_call 95; go_loud (refine (k2 _ t1 q1).mono ?_; rintro e w2 ⟨rfl, t2, c2⟩; have hb2 := t2.bel; clear k2))
          | (go_at_call 41; go_loud (refine (kJ _ hb2).mono ?_; rintro e w3 ⟨rfl, hb3⟩)))
        go_ret
        exact ⟨rfl, t2.on hb3, (c1.trans c2 (fun _ e => .inl e)).below hb3⟩
end Go.Proofs.YtoeibcdnhglobaaDoor.P

/- proof.CheckInclusion: the walk. -/
namespace Go.Proofs.YtoeibcdnhglobaaDoor.P
set_option linter.unusedVariables false
set_option linter.unusedSimpArgs false
open Go.RowKit Go.Shelf Go.Proofs.YtoeibcdnhglobaaDoorW.PrintWords Go.Proofs.YtoeibcdnhglobaaDoorW.PrintLast Go.Proofs.YtoeibcdnhglobaaDoorW.PrintMore
open Go.Proofs.YtoeibcdnhglobaaDoor.Pure

set_option maxHeartbeats 4000000 in
theorem taker_calls (A : Option Addr) (n c : Nat) (w : World) : Calls Tryd.prog 94 #[.slice A n c] w fun e w' => ∃ br bb, (br = w.heap.size ∧ bb = w.heap.size + 1) ∧ e = .returned (.tuple #[.func (.func 121) #[] #[.pointer (some ⟨br, 0, none⟩), .pointer (some ⟨bb, 0, none⟩)], .func (.func 122) #[] #[.pointer (some ⟨bb, 0, none⟩), .pointer (some ⟨br, 0, none⟩)]]) ∧
    Boxed w' br 22 (.slice A n c) ∧ Boxed w' bb 4 (.bool false) ∧ Below w.heap.size w w' ∧ w'.heap.size = w.heap.size + 2 := by
  have hb : Below w.heap.size w ((w.alloc (.cells #[.slice A n c] 22)).alloc (.cells #[.bool false] 4)) := by
    have h1 := (Below.refl w.heap.size w).alloc (Nat.le_refl _) (.cells #[.slice A n c] 22)
    exact h1.alloc h1.size _
  have h1 : Boxed ((w.alloc (.cells #[.slice A n c] 22)).alloc (.cells #[.bool false] 4)) w.heap.size 22 (.slice A n c) := (Boxed.new w 22 _).alloc _
  have h2 : Boxed ((w.alloc (.cells #[.slice A n c] 22)).alloc (.cells #[.bool false] 4)) (w.heap.size + 1) 4 (.bool false) := by
    have := Boxed.new (w.alloc (.cells #[.slice A n c] 22)) 4 (.bool false)
    rwa [show (w.alloc (.cells #[.slice A n c] 22)).heap.size = w.heap.size + 1 by simp] at this
  have h3 : ((w.alloc (.cells #[.slice A n c] 22)).alloc (.cells #[.bool false] 4)).heap.size = w.heap.size + 2 := by simp
  have H1 := Lib.hid h1
  have H2 := Lib.hid h2
  have H3 := Lib.hid h3
  have HB := Lib.hid hb
  clear h1 h2 h3 hb
  go_enter Tryd.func94, Tryd.ntmps94
  go_wp2
  go_ret2
  exact ⟨_, _, ⟨rfl, rfl⟩, rfl, H1.out, H2.out, HB.out, H3.out⟩
theorem str_ne {a b : ByteArray} (h : a ≠ b) : (a.toList == b.toList) = false :=
  beq_eq_false_iff_ne.2 fun e => h (ByteArray.ext (Array.toList_inj.1 (by simpa [ByteArray.toList_eq] using e)))
/-- Two boxes made behind a world. -/
theorem two_boxes (w1 : World) (t1 t2 : TypeId) (f1 f2 : Value) :
    (∀ b t v, Boxed w1 b t v → Boxed ((w1.alloc (.cells #[f1] t1)).alloc (.cells #[f2] t2)) b t v) ∧
    Boxed ((w1.alloc (.cells #[f1] t1)).alloc (.cells #[f2] t2)) w1.heap.size t1 f1 ∧
    Boxed ((w1.alloc (.cells #[f1] t1)).alloc (.cells #[f2] t2)) (w1.heap.size + 1) t2 f2 ∧
    Below w1.heap.size w1 ((w1.alloc (.cells #[f1] t1)).alloc (.cells #[f2] t2)) := by
  have b3 := Boxed.new (w1.alloc (.cells #[f1] t1)) t2 f2
  rw [show (w1.alloc (.cells #[f1] t1)).heap.size = w1.heap.size + 1 by simp] at b3
  have l1 : Below w1.heap.size w1 (w1.alloc (.cells #[f1] t1)) := (Below.refl _ w1).alloc (Nat.le_refl _) _
  exact ⟨fun b t v h => (h.alloc _).alloc _, (Boxed.new w1 t1 f1).alloc _, b3, l1.alloc l1.size _⟩
/-- Where a climb begins: its boxes, behind the taker's. -/
theorem climb_ready (w w0 w1 : World) (br bb : Nat) (leaf : ByteArray) (m : Int) (A : Option Addr) (N c : Nat) (y1 : Boxed w0 w.heap.size 9 (.string leaf)) (y2 : Boxed w0 (w.heap.size + 1) 3 (.int .i64 m)) (y3 : Below w.heap.size w w0) (y4 : w0.heap.size = w.heap.size + 2)
    (hbr : br = w0.heap.size ∧ bb = w0.heap.size + 1) (x1 : Boxed w1 br 22 (.slice A N c)) (x2 : Boxed w1 bb 4 (.bool false)) (hb1 : Below w0.heap.size w0 w1) (hz1 : w1.heap.size = w0.heap.size + 2) :
    Tk w ((w1.alloc (.cells #[.func (.func 121) #[] #[.pointer (some ⟨br, 0, none⟩), .pointer (some ⟨bb, 0, none⟩)]] 122)).alloc (.cells #[.func (.func 95) #[] #[.pointer (some ⟨w.heap.size, 0, none⟩), .pointer (some ⟨w1.heap.size, 0, none⟩), .pointer (some ⟨w.heap.size + 1, 0, none⟩), .pointer (some ⟨w1.heap.size + 1, 0, none⟩)]] 88)) br bb A c N false ∧
    Cl ((w1.alloc (.cells #[.func (.func 121) #[] #[.pointer (some ⟨br, 0, none⟩), .pointer (some ⟨bb, 0, none⟩)]] 122)).alloc (.cells #[.func (.func 95) #[] #[.pointer (some ⟨w.heap.size, 0, none⟩), .pointer (some ⟨w1.heap.size, 0, none⟩), .pointer (some ⟨w.heap.size + 1, 0, none⟩), .pointer (some ⟨w1.heap.size + 1, 0, none⟩)]] 88)) w.heap.size w1.heap.size (w.heap.size + 1) (w1.heap.size + 1) br bb leaf m := by
  obtain ⟨k1, k2, k3, k4⟩ := two_boxes w1 122 88 (.func (.func 121) #[] #[.pointer (some ⟨br, 0, none⟩), .pointer (some ⟨bb, 0, none⟩)]) (.func (.func 95) #[] #[.pointer (some ⟨w.heap.size, 0, none⟩), .pointer (some ⟨w1.heap.size, 0, none⟩), .pointer (some ⟨w.heap.size + 1, 0, none⟩), .pointer (some ⟨w1.heap.size + 1, 0, none⟩)])
  have hs := y3.trans (hb1.mono (by omega : w.heap.size ≤ w0.heap.size))
  obtain ⟨e1, e2⟩ := hbr
  exact ⟨⟨k1 _ _ _ x1, k1 _ _ _ x2, by omega, by omega, by omega, hs.trans (k4.mono hs.size)⟩,
    ⟨k1 _ _ _ (y1.below hb1), k2, k1 _ _ _ (y2.below hb1), k3, by omega, by omega, by omega, by omega⟩⟩
set_option maxRecDepth 100000 in
set_option maxHeartbeats 8000000 in
theorem CheckInclusion_walk (leaf root : ByteArray) (m n : Nat) (A : Option Addr) (P : List ByteArray) (c : Nat) (w : World) (hr : ReadsOf Value.string ByteArray.empty w A P.length P) (hl : P.length < 9223372036854775807) (hc : P.length ≤ c) (hG : GlobH w) (B : Nat) (hB : B < 100000000) (hB2 : 32 ≤ B) (hleaf : leaf.size ≤ B) (hP : ∀ s ∈ P, s.size ≤ B) (hmn : m < n) (hn : n ≤ 1048576) :
    Calls Tryd.prog 52 #[.string leaf, .int .i64 m, .int .i64 n, .slice A P.length c, .string root] w fun e w' => e = .returned (.int .i64 (if climbR leaf P n m n P.length = root ∧ P.length = longR n m n then 0 else 9)) ∧ Below w.heap.size w w' := by
  have kS := fun W => sizedP_calls (n : Int) W
  have hz : szB (n : Int) = true := decide_eq_true (by omega)
  rw [hz] at kS
  have kT := fun W => taker_calls A P.length c W
  have kC := fun (bl bt bm bc br bb : Nat) (W : World) (t : Tk w W br bb A c P.length false) (q : Cl W bl bt bm bc br bb leaf (m : Nat)) => climb_calls w bl bt bm bc br bb leaf A P c hr hl hc hG B hB hB2 hleaf hP n n n 0 m P.length false 0 (n : Int) W (Nat.le_refl _) (Nat.le_refl _) (by omega) hmn rfl (by omega) (by omega) (Nat.le_refl _) t (by rw [Nat.zero_add]; exact q)
  have kL := fun (br bb j : Nat) (bad : Bool) (W : World) (t : Tk w W br bb A c j bad) => left_calls w br bb A c j bad W t
  have d1 : decide ((m : Int) < 0) = false := decide_eq_false (by omega)
  have d2 : decide (n ≤ m) = false := decide_eq_false (by omega)
  have y1 : Boxed ((w.alloc (.cells #[.string leaf] 9)).alloc (.cells #[.int .i64 (m : Int)] 3)) w.heap.size 9 (.string leaf) := (Boxed.new w 9 _).alloc _
  have y2 : Boxed ((w.alloc (.cells #[.string leaf] 9)).alloc (.cells #[.int .i64 (m : Int)] 3)) (w.heap.size + 1) 3 (.int .i64 m) := by
    have := Boxed.new (w.alloc (.cells #[.string leaf] 9)) 3 (.int .i64 (m : Int))
    rwa [show (w.alloc (.cells #[.string leaf] 9)).heap.size = w.heap.size + 1 by simp] at this
  have y3 : Below w.heap.size w ((w.alloc (.cells #[.string leaf] 9)).alloc (.cells #[.int .i64 (m : Int)] 3)) := by
    have h1 := (Below.refl w.heap.size w).alloc (Nat.le_refl _) (.cells #[.string leaf] 9)
    exact h1.alloc h1.size _
  have y4 : ((w.alloc (.cells #[.string leaf] 9)).alloc (.cells #[.int .i64 (m : Int)] 3)).heap.size = w.heap.size + 2 := by simp
  have Y1 := Lib.hid y1
  have Y2 := Lib.hid y2
  have Y3 := Lib.hid y3
  have Y4 := Lib.hid y4
  have hbb : ∀ (N K : Nat), ((false || decide (N < K)) || decide (0 < N - K)) = !decide (N = K) := by
    intro N K
    rcases Nat.lt_trichotomy N K with h | h | h
    · rw [decide_eq_true h, decide_eq_false (show ¬ N = K by omega)]; rfl
    · rw [decide_eq_false (show ¬ N < K by omega), decide_eq_false (show ¬ 0 < N - K by omega), decide_eq_true h]; rfl
    · rw [decide_eq_false (show ¬ N < K by omega), decide_eq_true (show 0 < N - K by omega), decide_eq_false (show ¬ N = K by omega)]; rfl
  have hbb := hbb P.length (longR n m n)
  have HBB := Lib.hid hbb
  clear hr hc hG hB hB2 hleaf hP hz y1 y2 y3 y4 hbb
  generalize climbR leaf P n m n P.length = X at *
  generalize longR n m n = K at *
  have tail : ∀ (R : Int), (if X = root ∧ P.length = K then (0 : Int) else 9) = R → (∀ e w', e = Ending.returned (.int .i64 R) ∧ Below w.heap.size w w' → e = Ending.returned (.int .i64 (if X = root ∧ P.length = K then 0 else 9)) ∧ Below w.heap.size w w') := fun R h e w' hh => by rw [h]; exact hh
  by_cases hx : X = root
  · subst hx
    by_cases hk : P.length = K
    · refine Calls.mono ?_ (tail 0 (if_pos ⟨rfl, hk⟩))
      have x9 : decide (P.length = K) = true := decide_eq_true hk
      clear tail hk
      generalize P.length = N at *
      go_enter Tryd.func52, Tryd.ntmps52
      go_wp2_with (first
        | (go_at_call 91; refine (kS _).mono ?_; rintro e w' ⟨rfl, hw'⟩; rw [hw']; clear hw' w')
        | (go_at_call 94; go_loud (refine (kT _).mono ?_; rintro e w1 ⟨br, bb, hbr, rfl, x1, x2, hb1, hz1⟩; have TC := Lib.hid (climb_ready w _ w1 br bb leaf m A _ c Y1.out Y2.out Y3.out Y4.out hbr x1 x2 hb1 hz1); clear hbr hz1 hb1 x1 x2))
        | (go_at_call 95; go_loud (refine (kC _ _ _ _ _ _ _ TC.out.1 TC.out.2).mono ?_; rintro e w4 ⟨rfl, t4, _⟩; have T4 := Lib.hid t4; clear t4))
        | (go_at_call 122; go_loud (refine (kL _ _ _ _ _ T4.out).mono ?_; rintro e w' ⟨rfl, hw'⟩; rw [hw', HBB.out, x9]; clear hw' w')))
      go_ret
      exact ⟨rfl, T4.out.bel⟩
    · refine Calls.mono ?_ (tail 9 (if_neg (fun h => hk h.2)))
      have x9 : decide (P.length = K) = false := decide_eq_false hk
      clear tail hk
      generalize P.length = N at *
      go_enter Tryd.func52, Tryd.ntmps52
      go_wp2_with (first
        | (go_at_call 91; refine (kS _).mono ?_; rintro e w' ⟨rfl, hw'⟩; rw [hw']; clear hw' w')
        | (go_at_call 94; go_loud (refine (kT _).mono ?_; rintro e w1 ⟨br, bb, hbr, rfl, x1, x2, hb1, hz1⟩; have TC := Lib.hid (climb_ready w _ w1 br bb leaf m A _ c Y1.out Y2.out Y3.out Y4.out hbr x1 x2 hb1 hz1); clear hbr hz1 hb1 x1 x2))
        | (go_at_call 95; go_loud (refine (kC _ _ _ _ _ _ _ TC.out.1 TC.out.2).mono ?_; rintro e w4 ⟨rfl, t4, _⟩; have T4 := Lib.hid t4; clear t4))
        | (go_at_call 122; go_loud (refine (kL _ _ _ _ _ T4.out).mono ?_; rintro e w' ⟨rfl, hw'⟩; rw [hw', HBB.out, x9]; clear hw' w')))
      go_ret
      exact ⟨rfl, T4.out.bel⟩
  · have x1 : (X.toList == root.toList) = false := str_ne hx
    refine Calls.mono ?_ (tail 9 (if_neg (fun h => hx h.1)))
    clear tail hx
    generalize P.length = N at *
    go_enter Tryd.func52, Tryd.ntmps52
    go_wp2_with (first
      | (go_at_call 91; refine (kS _).mono ?_; rintro e w' ⟨rfl, hw'⟩; rw [hw']; clear hw' w')
      | (go_at_call 94; go_loud (refine (kT _).mono ?_; rintro e w1 ⟨br, bb, hbr, rfl, x1, x2, hb1, hz1⟩; have TC := Lib.hid (climb_ready w _ w1 br bb leaf m A _ c Y1.out Y2.out Y3.out Y4.out hbr x1 x2 hb1 hz1); clear hbr hz1 hb1 x1 x2))
      | (go_at_call 95; go_loud (refine (kC _ _ _ _ _ _ _ TC.out.1 TC.out.2).mono ?_; rintro e w4 ⟨rfl, t4, _⟩; have T4 := Lib.hid t4; clear t4))
      | (go_at_call 122; go_loud (refine (kL _ _ _ _ _ T4.out).mono ?_; rintro e w' ⟨rfl, hw'⟩; rw [hw', HBB.out, x9]; clear hw' w')))
    go_ret
    exact ⟨rfl, T4.out.bel⟩
set_option maxRecDepth 100000 in
set_option maxHeartbeats 4000000 in
theorem CheckInclusion_range (leaf root : ByteArray) (m n : Int) (v : Value) (w : World) (hbad : szB n = false ∨ m < 0 ∨ n ≤ m) :
    Calls Tryd.prog 52 #[.string leaf, .int .i64 m, .int .i64 n, v, .string root] w fun e w' => e = .returned (.int .i64 6) ∧ Below w.heap.size w w' := by
  have kS := fun W => sizedP_calls n W
  have y3 : Below w.heap.size w ((w.alloc (.cells #[.string leaf] 9)).alloc (.cells #[.int .i64 (m : Int)] 3)) := by
    have h1 := (Below.refl w.heap.size w).alloc (Nat.le_refl _) (.cells #[.string leaf] 9)
    exact h1.alloc h1.size _
  have Y3 := Lib.hid y3
  clear y3
  cases hz : szB n with
  | false =>
    rw [hz] at kS
    clear hbad hz
    go_enter Tryd.func52, Tryd.ntmps52
    go_wp2_with (go_at_call 91; refine (kS _).mono ?_; rintro e w' ⟨rfl, hw'⟩; rw [hw']; clear hw' w')
    go_ret
    exact ⟨rfl, Y3.out⟩
  | true =>
    rw [hz] at kS
    by_cases h1 : m < 0
    · have d1 : decide (m < 0) = true := decide_eq_true h1
      clear hbad hz
      go_enter Tryd.func52, Tryd.ntmps52
      go_wp2_with (go_at_call 91; refine (kS _).mono ?_; rintro e w' ⟨rfl, hw'⟩; rw [hw']; clear hw' w')
      go_ret
      exact ⟨rfl, Y3.out⟩
    · have h2 : n ≤ m := by rcases hbad with h | h | h; (rw [hz] at h; cases h); exact absurd h h1; exact h
      have d1 : decide (m < 0) = false := decide_eq_false h1
      have d2 : decide (n ≤ m) = true := decide_eq_true h2
      clear hbad hz
      go_enter Tryd.func52, Tryd.ntmps52
      go_wp2_with (go_at_call 91; refine (kS _).mono ?_; rintro e w' ⟨rfl, hw'⟩; rw [hw']; clear hw' w')
      go_ret
      exact ⟨rfl, Y3.out⟩
set_option maxRecDepth 100000 in
set_option maxHeartbeats 4000000 in
theorem RLong_calls (d : Nat) : ∀ (f m n : Nat) (z y : Int) (w : World), n ≤ d → n ≤ f → m < n → z = m → y = n → n ≤ 1048576 →
    Calls Tryd.prog 53 #[.int .i64 z, .int .i64 y] w fun e w' => e = .returned (.int .i64 (longR f m n)) ∧ w' = w := by
  induction d with
  | zero => intro f m n z y w hd hf h1; omega
  | succ d ih =>
    intro f m n z y w hd hf hmn hz hy hle
    obtain ⟨f, rfl⟩ : ∃ g, f = g + 1 := ⟨f - 1, by omega⟩
    subst hz
    subst hy
    by_cases hn1 : n ≤ 1
    · have e1 : decide ((n : Int) ≤ 1) = true := decide_eq_true (by omega)
      have el : longR (f + 1) m n = 0 := by unfold longR; rw [if_pos hn1]
      rw [el]
      clear el ih
      go_enter Tryd.func53, Tryd.ntmps53
      go_wp2
      go_ret
      exact ⟨rfl, rfl⟩
    · have e1 : decide ((n : Int) ≤ 1) = false := decide_eq_false (by omega)
      have hm := half_lt (n := n) (by omega)
      have kh := fun W => Half_calls n (by omega) (by omega) W
      have hnI : (n : Int) ≤ 1048576 := by omega
      have g5 : ((half n : Nat) : Int) ≤ (n : Int) := by omega
      have g6 : (0 : Int) ≤ ((half n : Nat) : Int) := by omega
      have hlb : ∀ f m n, longR f m n ≤ f := fun f => by
        induction f with
        | zero => intro m n; exact Nat.le_refl _
        | succ f ih =>
          intro m n
          unfold longR
          split
          · omega
          · split
            · have := ih m (half n); omega
            · have := ih (m - half n) (n - half n); omega
      have hlb2 : ∀ (f m n : Nat), n ≤ 1048576 → longR f m n ≤ n := fun f => by
        induction f with
        | zero => intro m n _; exact Nat.zero_le _
        | succ f ih =>
          intro m n hn
          unfold longR
          by_cases h1 : n ≤ 1
          · rw [if_pos h1]; omega
          · have hh := half_lt (n := n) (by omega)
            rw [if_neg h1]
            split
            · have := ih m (half n) (by omega); omega
            · have := ih (m - half n) (n - half n) (by omega); omega
      by_cases hc : m < half n
      · have el : longR (f + 1) m n = longR f m (half n) + 1 := by
          show (if n ≤ 1 then 0 else _) = _
          rw [if_neg hn1, if_pos hc]
        have d1 : decide (m < half n) = true := decide_eq_true hc
        have k1 := fun W => ih f m (half n) (m : Int) ((half n : Nat) : Int) W (by omega) (by omega) hc rfl rfl (by omega)
        have hK := hlb2 f m (half n) (by omega)
        rw [el]
        generalize longR f m (half n) = K at *
        have hKI : (K : Int) ≤ 1048576 := by omega
        have e7 : (1 : Int) + (K : Int) = ((K + 1 : Nat) : Int) := by omega
        generalize half n = mh at *
        clear el ih hlb hlb2 hn1 hd hf hK
        go_enter Tryd.func53, Tryd.ntmps53
        go_wp2_with (first
          | (go_at_call 83; refine (kh _).mono ?_; rintro e w' ⟨rfl, hw'⟩; rw [hw']; clear hw' w')
          | (go_at_call 53; refine (k1 _).mono ?_; rintro e w' ⟨rfl, hw'⟩; rw [hw']; clear hw' w'))
        go_ret
        exact ⟨by simp only [e7]; try rfl, rfl⟩
      · have el : longR (f + 1) m n = longR f (m - half n) (n - half n) + 1 := by
          show (if n ≤ 1 then 0 else _) = _
          rw [if_neg hn1, if_neg hc]
        have d1 : decide (m < half n) = false := decide_eq_false hc
        have k1 := fun W => ih f (m - half n) (n - half n) ((m : Int) - ((half n : Nat) : Int)) ((n : Int) - ((half n : Nat) : Int)) W (by omega) (by omega) (by omega) (by omega) (by omega) (by omega)
        have hK := hlb2 f (m - half n) (n - half n) (by omega)
        rw [el]
        generalize longR f (m - half n) (n - half n) = K at *
        have hKI : (K : Int) ≤ 1048576 := by omega
        have e7 : (1 : Int) + (K : Int) = ((K + 1 : Nat) : Int) := by omega
        have g8 : (m : Int) ≤ 1048576 := by omega
        generalize half n = mh at *
        clear el ih hlb hlb2 hn1 hd hf hK
        go_enter Tryd.func53, Tryd.ntmps53
        go_wp2_with (first
          | (go_at_call 83; refine (kh _).mono ?_; rintro e w' ⟨rfl, hw'⟩; rw [hw']; clear hw' w')
          | (go_at_call 53; refine (k1 _).mono ?_; rintro e w' ⟨rfl, hw'⟩; rw [hw']; clear hw' w'))
        go_ret
        exact ⟨by simp only [e7]; try rfl, rfl⟩
end Go.Proofs.YtoeibcdnhglobaaDoor.P
