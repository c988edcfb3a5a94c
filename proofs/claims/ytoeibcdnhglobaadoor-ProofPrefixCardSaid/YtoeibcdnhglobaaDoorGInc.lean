/- proof.Root, Inclusion, Consistency: the walks. -/
import Derived.Test.YtoeibcdnhglobaaDoorGPath
namespace Go.Proofs.YtoeibcdnhglobaaDoor.P
set_option linter.unusedVariables false
set_option linter.unusedSimpArgs false
open Go.RowKit Go.Shelf Go.Proofs.YtoeibcdnhglobaaDoorW.PrintWords Go.Proofs.YtoeibcdnhglobaaDoorW.PrintLast Go.Proofs.YtoeibcdnhglobaaDoorW.PrintMore
open Go.Proofs.YtoeibcdnhglobaaDoor.Pure

/-- How many leaves a tree may have. -/
def szB (n : Int) : Bool := decide (0 ≤ n ∧ n ≤ 1048576)
theorem sizedP_calls (n : Int) (w : World) : Calls Tryd.prog 91 #[.int .i64 n] w fun e w' => e = .returned (.bool (szB n)) ∧ w' = w := by
  by_cases h0 : 0 ≤ n
  · by_cases h1 : n ≤ 1048576
    · have e : szB n = true := decide_eq_true ⟨h0, h1⟩
      rw [e]
      have d1 : decide (0 ≤ n) = true := decide_eq_true h0
      have d2 : decide (n ≤ 1048576) = true := decide_eq_true h1
      clear e
      go_enter Tryd.func91, Tryd.ntmps91
      go_wp2
      go_ret
      exact ⟨rfl, rfl⟩
    · have e : szB n = false := decide_eq_false (fun h => h1 h.2)
      rw [e]
      have d1 : decide (0 ≤ n) = true := decide_eq_true h0
      have d2 : decide (n ≤ 1048576) = false := decide_eq_false h1
      clear e
      go_enter Tryd.func91, Tryd.ntmps91
      go_wp2
      go_ret
      exact ⟨rfl, rfl⟩
  · have e : szB n = false := decide_eq_false (fun h => h0 h.1)
    rw [e]
    have d1 : decide (0 ≤ n) = false := decide_eq_false h0
    clear e
    go_enter Tryd.func91, Tryd.ntmps91
    go_wp2
    go_ret
    exact ⟨rfl, rfl⟩
theorem told_S (b : Nat) (h : List ByteArray) (A : Option Addr) (n c : Nat) (w : World) (t : Tel w b h) :
    Calls Tryd.prog 92 #[.pointer (some ⟨b, 0, none⟩), .slice A n c] w fun e w' => e = .returned (.tuple #[.slice A n c, .int .i64 0]) ∧ w' = w := by
  obtain ⟨A2, K, c2, hblk, _⟩ := t
  have k1 : w.cell? ⟨b, 1, none⟩ = some (.bool false) := by simp [World.cell?, hblk]
  clear hblk
  go_enter Tryd.func92, Tryd.ntmps92
  go_wp2
  go_ret2
  exact ⟨rfl, rfl⟩
theorem told_T (b : Nat) (h : List ByteArray) (s : ByteArray) (w : World) (t : Tel w b h) :
    Calls Tryd.prog 100 #[.pointer (some ⟨b, 0, none⟩), .string s] w fun e w' => e = .returned (.tuple #[.string s, .int .i64 0]) ∧ w' = w := by
  obtain ⟨A2, K, c2, hblk, _⟩ := t
  have k1 : w.cell? ⟨b, 1, none⟩ = some (.bool false) := by simp [World.cell?, hblk]
  clear hblk
  go_enter Tryd.func100, Tryd.ntmps100
  go_wp2
  go_ret2
  exact ⟨rfl, rfl⟩
/-- A teller, just made. -/
theorem Tel.new (w : World) (A : Option Addr) (K c : Nat) (h : List ByteArray) (s : SrcAt w A K h) : Tel (w.alloc (.cells #[.iface 112 (.slice A K c), .bool false] 119)) w.heap.size h :=
  ⟨A, K, c, heap_alloc_new w _, s.below ((Below.refl _ w).alloc (Nat.le_refl _) _)⟩
theorem seg_root (h : List ByteArray) (n : Nat) (h1 : 1 ≤ n) (hn : n ≤ h.length) : seg h 0 n = rootH (h.take n) := by
  rw [rootH_pos _ (by rw [List.length_take]; omega)]
  unfold seg
  rw [List.drop_zero]
set_option maxRecDepth 100000 in
set_option maxHeartbeats 4000000 in
theorem RootP_calls (A : Option Addr) (K c n : Nat) (h : List ByteArray) (w : World) (s : SrcAt w A K h) (hs : ∀ s ∈ h, s.size ≤ 32) (hn : n ≤ h.length) (hT : TzTab w) (hG : GlobH w) :
    Calls Tryd.prog 63 #[.iface 112 (.slice A K c), .int .i64 n] w fun e w' => e = .returned (.tuple #[.string (rootH (h.take n)), .int .i64 0]) ∧ Below w.heap.size w w' := by
  have hlen := s.len
  have hb1 : Below w.heap.size w (w.alloc (.cells #[.iface 112 (.slice A K c), .bool false] 119)) := (Below.refl _ w).alloc (Nat.le_refl _) _
  have kS := fun W => sizedP_calls (n : Int) W
  have hz : szB (n : Int) = true := decide_eq_true (by omega)
  rw [hz] at kS
  by_cases h0 : n = 0
  · subst h0
    have kR := fun W (hW : Below w.heap.size w W) => Root_calls none 0 [] W ⟨rfl, by simp, fun h => absurd h (Nat.lt_irrefl 0)⟩ (fun s hs => by cases hs) (by simp) (hT.below hW hT.lt) (hG.below hW)
    rw [List.take_zero]
    have hb := Below.refl w.heap.size w
    have kS0 := fun W => sizedP_calls 0 W
    rw [show szB 0 = true from rfl] at kS0
    clear s hs hn hlen hb1 hz kS
    show Calls Tryd.prog 63 #[.iface 112 (.slice A K c), .int .i64 0] w _
    go_enter Tryd.func63, Tryd.ntmps63
    go_wp2_with (first
      | (go_at_call 91; refine (kS0 _).mono ?_; rintro e w' ⟨rfl, hw'⟩; rw [hw']; clear hw' w')
      | (go_at_call 39; refine (kR _ hb).mono ?_; rintro e w1 ⟨rfl, hb1⟩))
    go_ret2
    exact ⟨rfl, hb1⟩
  · have e1 : ((n : Int) == 0) = false := by rw [beq_eq_false_iff_ne]; omega
    have ht := Tel.new w A K c h s
    have k1 := one_calls w.heap.size h hlen hs n n 0 0 (n : Int) _ (Nat.le_refl _) (by omega) rfl (by omega) (by omega) ht (hT.below hb1 hT.lt) (hG.below hb1)
    rw [seg_root h n (by omega) hn] at k1
    have k2 := fun W (hW : Below (w.alloc (.cells #[.iface 112 (.slice A K c), .bool false] 119)).heap.size (w.alloc (.cells #[.iface 112 (.slice A K c), .bool false] 119)) W) => told_T w.heap.size h (rootH (h.take n)) W (ht.below hW)
    have HB := Lib.hid hb1
    generalize rootH (List.take n h) = X at *
    clear h0 s hs hn hlen hz hb1 ht hT hG
    go_enter Tryd.func63, Tryd.ntmps63
    go_wp2_with (first
      | (go_at_call 91; refine (kS _).mono ?_; rintro e w' ⟨rfl, hw'⟩; rw [hw']; clear hw' w')
      | (go_at_call 101; go_loud (with_reducible refine k1.mono ?_; rintro e w1 ⟨rfl, hb1⟩))
      | (go_at_call 100; go_loud (refine (k2 _ hb1).mono ?_; rintro e w' ⟨rfl, hw'⟩; rw [hw']; clear hw' w')))
    go_ret2
    exact ⟨rfl, HB.out.trans (hb1.mono HB.out.size)⟩
set_option maxRecDepth 100000 in
set_option maxHeartbeats 4000000 in
theorem Inclusion_calls (A : Option Addr) (K c m n : Nat) (h : List ByteArray) (w : World) (s : SrcAt w A K h) (hs : ∀ s ∈ h, s.size ≤ 32) (hm : m < n) (hn : n ≤ h.length) (hT : TzTab w) (hG : GlobH w) :
    Calls Tryd.prog 64 #[.iface 112 (.slice A K c), .int .i64 m, .int .i64 n] w fun e w' => ∃ v, e = .returned (.tuple #[v, .int .i64 0]) ∧ w'.ownsRow w.heap.size 9 1 v (pathR h n m 0 n).length (encs Value.string (pathR h n m 0 n)) ∧ Below w.heap.size w w' := by
  have hlen := s.len
  have hb1 : Below w.heap.size w (w.alloc (.cells #[.iface 112 (.slice A K c), .bool false] 119)) := (Below.refl _ w).alloc (Nat.le_refl _) _
  have kS := fun W => sizedP_calls (n : Int) W
  have hz : szB (n : Int) = true := decide_eq_true (by omega)
  rw [hz] at kS
  have ht := Tel.new w A K c h s
  have k1 := path_calls w.heap.size h hlen hs n n n 0 m (m : Int) 0 (n : Int) _ (Nat.le_refl _) (Nat.le_refl _) (by omega) (by omega) hm (by omega) rfl (by omega) (by omega) ht (hT.below hb1 hT.lt) (hG.below hb1)
  have k2 := fun W (hW : Below (w.alloc (.cells #[.iface 112 (.slice A K c), .bool false] 119)).heap.size (w.alloc (.cells #[.iface 112 (.slice A K c), .bool false] 119)) W) A n c => told_S w.heap.size h A n c W (ht.below hW)
  have HB := Lib.hid hb1
  generalize pathR h n m 0 n = P at *
  have d1 : decide ((m : Int) < 0) = false := decide_eq_false (by omega)
  have d2 : decide (n ≤ m) = false := decide_eq_false (by omega)
  clear s hs hn hlen hz hb1 ht hT hG hm
  go_enter Tryd.func64, Tryd.ntmps64
  go_wp2_with (first
    | (go_at_call 91; refine (kS _).mono ?_; rintro e w' ⟨rfl, hw'⟩; rw [hw']; clear hw' w')
    | (go_at_call 102; go_loud (with_reducible refine k1.mono ?_; rintro e w1 ⟨v1, rfl, ho1, hb1⟩; obtain ⟨A1, c1, rfl, _⟩ := own_slc2 ho1))
    | (go_at_call 92; go_loud (refine (k2 _ hb1 _ _ _).mono ?_; rintro e w' ⟨rfl, hw'⟩; rw [hw']; clear hw' w')))
  go_ret2
  exact ⟨_, rfl, own_weaken ho1 HB.out.size, HB.out.trans (hb1.mono HB.out.size)⟩
set_option maxRecDepth 100000 in
set_option maxHeartbeats 4000000 in
theorem Consistency_calls (A : Option Addr) (K c m n : Nat) (h : List ByteArray) (w : World) (s : SrcAt w A K h) (hs : ∀ s ∈ h, s.size ≤ 32) (hm : m ≤ n) (h1 : 1 ≤ m) (hn : n ≤ h.length) (hT : TzTab w) (hG : GlobH w) :
    Calls Tryd.prog 48 #[.iface 112 (.slice A K c), .int .i64 m, .int .i64 n] w fun e w' => ∃ v, e = .returned (.tuple #[v, .int .i64 0]) ∧ w'.ownsRow w.heap.size 9 1 v (proofR h n m 0 n true).length (encs Value.string (proofR h n m 0 n true)) ∧ Below w.heap.size w w' := by
  have hlen := s.len
  have hb1 : Below w.heap.size w (w.alloc (.cells #[.iface 112 (.slice A K c), .bool false] 119)) := (Below.refl _ w).alloc (Nat.le_refl _) _
  have kS := fun W => sizedP_calls (n : Int) W
  have hz : szB (n : Int) = true := decide_eq_true (by omega)
  rw [hz] at kS
  have ht := Tel.new w A K c h s
  have k1 := proof_calls w.heap.size h hlen hs n n n 0 m true (m : Int) 0 (n : Int) _ (Nat.le_refl _) (Nat.le_refl _) (by omega) h1 hm rfl rfl (by omega) (by omega) ht (hT.below hb1 hT.lt) (hG.below hb1)
  have k2 := fun W (hW : Below (w.alloc (.cells #[.iface 112 (.slice A K c), .bool false] 119)).heap.size (w.alloc (.cells #[.iface 112 (.slice A K c), .bool false] 119)) W) A n c => told_S w.heap.size h A n c W (ht.below hW)
  have HB := Lib.hid hb1
  generalize proofR h n m 0 n true = P at *
  have d1 : decide ((m : Int) < 0) = false := decide_eq_false (by omega)
  have d2 : decide (n < m) = false := decide_eq_false (by omega)
  have d3 : ((m : Int) == 0) = false := by rw [beq_eq_false_iff_ne]; omega
  clear s hs hn hlen hz hb1 ht hT hG hm h1
  go_enter Tryd.func48, Tryd.ntmps48
  go_wp2_with (first
    | (go_at_call 91; refine (kS _).mono ?_; rintro e w' ⟨rfl, hw'⟩; rw [hw']; clear hw' w')
    | (go_at_call 93; go_loud (with_reducible refine k1.mono ?_; rintro e w1 ⟨v1, rfl, ho1, hb1⟩; obtain ⟨A1, c1, rfl, _⟩ := own_slc2 ho1))
    | (go_at_call 92; go_loud (refine (k2 _ hb1 _ _ _).mono ?_; rintro e w' ⟨rfl, hw'⟩; rw [hw']; clear hw' w')))
  go_ret2
  exact ⟨_, rfl, own_weaken ho1 HB.out.size, HB.out.trans (hb1.mono HB.out.size)⟩
set_option maxHeartbeats 4000000 in
theorem Consistency_zero (s : Value) (n : Int) (w : World) (h0 : 0 ≤ n) (h1 : n ≤ 1048576) :
    Calls Tryd.prog 48 #[s, .int .i64 0, .int .i64 n] w fun e w' => e = .returned (.tuple #[.slice none 0 0, .int .i64 0]) ∧ w' = w := by
  have kS := fun W => sizedP_calls n W
  rw [show szB n = true from decide_eq_true ⟨h0, h1⟩] at kS
  have d2 : decide (n < 0) = false := decide_eq_false (by omega)
  have d3 : ((0 : Int) == 0) = true := rfl
  go_enter Tryd.func48, Tryd.ntmps48
  go_wp2_with (go_at_call 91; refine (kS _).mono ?_; rintro e w' ⟨rfl, hw'⟩; rw [hw']; clear hw' w')
  go_ret2
  exact ⟨rfl, rfl⟩
set_option maxHeartbeats 4000000 in
theorem Consistency_range (s : Value) (m n : Int) (w : World) (hbad : szB n = false ∨ m < 0 ∨ n < m) :
    Calls Tryd.prog 48 #[s, .int .i64 m, .int .i64 n] w fun e w' => e = .returned (.tuple #[.slice none 0 0, .int .i64 6]) ∧ w' = w := by
  have kS := fun W => sizedP_calls n W
  cases hz : szB n with
  | false =>
    rw [hz] at kS
    clear hbad hz
    go_enter Tryd.func48, Tryd.ntmps48
    go_wp2_with (go_at_call 91; refine (kS _).mono ?_; rintro e w' ⟨rfl, hw'⟩; rw [hw']; clear hw' w')
    go_ret2
    exact ⟨rfl, rfl⟩
  | true =>
    rw [hz] at kS
    by_cases h1 : m < 0
    · have d1 : decide (m < 0) = true := decide_eq_true h1
      clear hbad hz
      go_enter Tryd.func48, Tryd.ntmps48
      go_wp2_with (go_at_call 91; refine (kS _).mono ?_; rintro e w' ⟨rfl, hw'⟩; rw [hw']; clear hw' w')
      go_ret2
      exact ⟨rfl, rfl⟩
    · have h2 : n < m := by rcases hbad with h | h | h; (rw [hz] at h; cases h); exact absurd h h1; exact h
      have d1 : decide (m < 0) = false := decide_eq_false h1
      have d2 : decide (n < m) = true := decide_eq_true h2
      clear hbad hz h1
      go_enter Tryd.func48, Tryd.ntmps48
      go_wp2_with (go_at_call 91; refine (kS _).mono ?_; rintro e w' ⟨rfl, hw'⟩; rw [hw']; clear hw' w')
      go_ret2
      exact ⟨rfl, rfl⟩
set_option maxHeartbeats 4000000 in
theorem Inclusion_range (s : Value) (m n : Int) (w : World) (hbad : szB n = false ∨ m < 0 ∨ n ≤ m) :
    Calls Tryd.prog 64 #[s, .int .i64 m, .int .i64 n] w fun e w' => e = .returned (.tuple #[.slice none 0 0, .int .i64 6]) ∧ w' = w := by
  have kS := fun W => sizedP_calls n W
  cases hz : szB n with
  | false =>
    rw [hz] at kS
    clear hbad hz
    go_enter Tryd.func64, Tryd.ntmps64
    go_wp2_with (go_at_call 91; refine (kS _).mono ?_; rintro e w' ⟨rfl, hw'⟩; rw [hw']; clear hw' w')
    go_ret2
    exact ⟨rfl, rfl⟩
  | true =>
    rw [hz] at kS
    by_cases h1 : m < 0
    · have d1 : decide (m < 0) = true := decide_eq_true h1
      clear hbad hz
      go_enter Tryd.func64, Tryd.ntmps64
      go_wp2_with (go_at_call 91; refine (kS _).mono ?_; rintro e w' ⟨rfl, hw'⟩; rw [hw']; clear hw' w')
      go_ret2
      exact ⟨rfl, rfl⟩
    · have h2 : n ≤ m := by rcases hbad with h | h | h; (rw [hz] at h; cases h); exact absurd h h1; exact h
      have d1 : decide (m < 0) = false := decide_eq_false h1
      have d2 : decide (n ≤ m) = true := decide_eq_true h2
      clear hbad hz h1
      go_enter Tryd.func64, Tryd.ntmps64
      go_wp2_with (go_at_call 91; refine (kS _).mono ?_; rintro e w' ⟨rfl, hw'⟩; rw [hw']; clear hw' w')
      go_ret2
      exact ⟨rfl, rfl⟩
end Go.Proofs.YtoeibcdnhglobaaDoor.P
