/- Texts of the seat, joined: GRefA, GQuietC, GRefB. -/
import Derived.Test.YtoeibcdnhglobaaDoorE6
import Derived.Deep.QuietTactic
import Derived.BigQuiet
import Derived.Test.YtoeibcdnhglobaaDoorE3
/- pantileref01: bit, turn, cut, top, word: the walks. -/
namespace Go.Proofs.YtoeibcdnhglobaaDoor.P
set_option linter.unusedVariables false
set_option linter.unusedSimpArgs false
open Go.RowKit Go.Shelf Go.Proofs.YtoeibcdnhglobaaDoorW.PrintWords Go.Proofs.YtoeibcdnhglobaaDoorW.PrintLast Go.Proofs.YtoeibcdnhglobaaDoorW.PrintMore
open Go.Proofs.YtoeibcdnhglobaaDoor.Pure

theorem bit_calls (n : Nat) (hn : n ≤ 32) (R : Nat) (hR : R = 2 ^ n) (w : World) : Calls Tryd.prog 163 #[.int .i64 n] w fun e w' => e = .returned (.int .u64 R) ∧ w' = w := by
  have hp : ∀ i, i ≤ 32 → 2 ^ i ≤ 4294967296 := fun i hi => by
    have := Nat.pow_le_pow_right (n := 2) (by decide) hi
    omega
  have HP := Lib.hid hp
  have HR := Lib.hid hR
  clear hp hR
  go_enter Tryd.func163, Tryd.ntmps163
  go_wp2
  go_loop [3, 4] (fun v3 v4 => ∃ (i P : Nat), v4 = .int .i64 i ∧ i ≤ n ∧ v3 = .int .u64 P ∧ Hid (P = 2 ^ i)) (fun v3 v4 => n - (intOf v4).toNat)
  case atStart => exact ⟨0, 1, rfl, by omega, rfl, Lib.hid rfl⟩
  case round =>
    obtain ⟨i, P, rfl, hi, rfl, HQ⟩ := hrel
    have hPb : P ≤ 4294967296 := by rw [HQ.out]; exact HP.out i (by omega)
    by_cases hlt : i < n
    · have hd : decide ((i : Int) < (n : Int)) = true := decide_eq_true (by omega)
      go_wp2
      exact ⟨⟨i + 1, P * 2, rfl, by omega, rfl, Lib.hid (by rw [HQ.out, Nat.pow_succ])⟩, by simp only [intOf]; omega⟩
    · have hd : decide ((i : Int) < (n : Int)) = false := decide_eq_false (by omega)
      have hin : i = n := by omega
      subst hin
      go_wp2
      go_ret
      exact ⟨by rw [HR.out, ← HQ.out]; rfl, rfl⟩
theorem word_calls (A : Option Addr) (c : Nat) (l : List Int) (w : World) (hr : ReadsInt w .u8 A l.length l) (hl : l.length ≤ 4) (hb : ∀ x ∈ l, 0 ≤ x ∧ x < 256) :
    Calls Tryd.prog 153 #[.slice A l.length c] w fun e w' => e = .returned (.int .u64 (be l)) ∧ w' = w := by
  go_enter Tryd.func153, Tryd.ntmps153
  go_wp2
  go_loop [3, 4] (fun v3 v4 => ∃ i : Nat, v3 = .int .u64 (be (l.take i)) ∧ v4 = .int .i64 i ∧ i ≤ l.length) (fun v3 v4 => l.length - (intOf v4).toNat)
  case atStart => exact ⟨0, rfl, rfl, by omega⟩
  case round =>
    obtain ⟨i, rfl, rfl, hi⟩ := hrel
    by_cases hlt : i < l.length
    · obtain ⟨ad, rfl, hcell⟩ := hr.at_ i (by omega) (by omega)
      have hrd : rd l (i : Int) = l[i] := by simp [rd, List.getD_eq_getElem?_getD, hlt]
      rw [hrd, Int.toNat_natCast] at hcell
      have hd : decide ((i : Int) < (l.length : Int)) = true := decide_eq_true (by omega)
      have hpb := be_bd (l.take i) (fun x hx => hb x (List.mem_of_mem_take hx))
      have hp3 : be (l.take i) < 16777216 := by
        have h2 := hpb.2
        have hl3 : (l.take i).length ≤ 3 := by rw [List.length_take]; omega
        have h4 : (l.take i).length = 0 ∨ (l.take i).length = 1 ∨ (l.take i).length = 2 ∨ (l.take i).length = 3 := by omega
        rcases h4 with h4 | h4 | h4 | h4 <;> rw [h4] at h2 <;> omega
      have hp0 := hpb.1
      have hx := hb _ (List.getElem_mem hlt)
      have hx0 := hx.1
      have hx1 := hx.2
      have hstep : be (l.take (i + 1)) = be (l.take i) * 256 + l[i] := by rw [List.take_succ_eq_append_getElem hlt, be_snoc]
      have HS := Lib.hid hstep
      generalize l[i] = y at *
      generalize be (l.take i) = p at *
      clear hr hrd hpb hstep hx
      go_wp2
      refine ⟨⟨i + 1, ?_, rfl, by omega⟩, by simp only [intOf]; omega⟩
      rw [HS.out]
    · have hd : decide ((i : Int) < (l.length : Int)) = false := decide_eq_false (by omega)
      have he : l.take i = l := List.take_of_length_le (by omega)
      rw [he]
      clear hr
      go_wp2
      go_ret
      exact ⟨rfl, rfl⟩
/-- The value of the document's words of 32 bits, its slices wherever they lie. -/
abbrev wv (A2 A3 A4 A5 A6 A7 : Option Addr) (c2 c3 c4 c5 c6 c7 n6 n7 : Nat) : Array Value := #[.int .i64 32, .int .i64 64, .slice A2 3 c2, .slice A3 3 c3, .slice A4 3 c4, .slice A5 3 c5, .slice A6 n6 c6, .slice A7 n7 c7]
theorem cut_calls (A2 A3 A4 A5 A6 A7 : Option Addr) (c2 c3 c4 c5 c6 c7 n6 n7 : Nat) (n : Nat) (hn : n < 18446744073709551616) (w : World) :
    Calls Tryd.prog 154 #[.agg #[.int .i64 32, .int .i64 64, .slice A2 3 c2, .slice A3 3 c3, .slice A4 3 c4, .slice A5 3 c5, .slice A6 n6 c6, .slice A7 n7 c7], .int .u64 n] w fun e w' => e = .returned (.int .u64 (n % 4294967296 : Nat)) ∧ Below w.heap.size w w' := by
  have HN := Lib.hid hn
  clear hn
  go_enter Tryd.func154, Tryd.ntmps154
  go_wp2
  go_ret
  exact ⟨rfl, (Below.refl _ w).alloc (Nat.le_refl _) _⟩
theorem top_calls (A2 A3 A4 A5 A6 A7 : Option Addr) (c2 c3 c4 c5 c6 c7 n6 n7 : Nat) (n : Nat) (hn : n < 18446744073709551616) (w : World) :
    Calls Tryd.prog 137 #[.agg #[.int .i64 32, .int .i64 64, .slice A2 3 c2, .slice A3 3 c3, .slice A4 3 c4, .slice A5 3 c5, .slice A6 n6 c6, .slice A7 n7 c7], .int .u64 n] w fun e w' => e = .returned (.int .u64 (n / 4294967296 : Nat)) ∧ Below w.heap.size w w' := by
  have hz : IntKind.u64.wrap ((n : Int) / 4294967296) = ((n / 4294967296 : Nat) : Int) := by rw [IntKind.wrap_u64]; omega
  obtain ⟨m, hm⟩ : ∃ m, m = n / 4294967296 := ⟨_, rfl⟩
  rw [← hm] at hz ⊢
  clear hn hm
  go_enter Tryd.func137, Tryd.ntmps137
  go_wp2
  go_ret
  exact ⟨rfl, (Below.refl _ w).alloc (Nat.le_refl _) _⟩
theorem turn_calls (A2 A3 A4 A5 A6 A7 : Option Addr) (c2 c3 c4 c5 c6 c7 n6 n7 : Nat) (n k : Nat) (hn : n < 4294967296) (h1 : 1 ≤ k) (hk : k ≤ 31) (w : World) :
    Calls Tryd.prog 162 #[.agg #[.int .i64 32, .int .i64 64, .slice A2 3 c2, .slice A3 3 c3, .slice A4 3 c4, .slice A5 3 c5, .slice A6 n6 c6, .slice A7 n7 c7], .int .u64 n, .int .i64 k] w fun e w' => e = .returned (.int .u64 (rotr k n : Nat)) ∧ Below w.heap.size w w' := by
  have e2 : ((32 - k : Nat) : Int) = 32 - (k : Int) := by omega
  obtain ⟨p, hp⟩ : ∃ p, p = 2 ^ k := ⟨_, rfl⟩
  obtain ⟨q, hq⟩ : ∃ q, q = 2 ^ (32 - k) := ⟨_, rfl⟩
  have kb := fun w => bit_calls k (by omega) p hp w
  have kb2 := fun w => bit_calls (32 - k) (by omega) q hq w
  rw [e2] at kb2
  have hpq : p * q = 4294967296 := by rw [hp, hq, ← Nat.pow_add, show k + (32 - k) = 32 by omega]
  have hp0 : 0 < p := hp ▸ Nat.two_pow_pos k
  have hrot : rotr k n = n / p + n % p * q := by rw [hp, hq]; rfl
  have hlt := rotr_lt k n (by omega) hn
  rw [hrot] at hlt
  obtain ⟨X, hX⟩ : ∃ X, X = n / p := ⟨_, rfl⟩
  obtain ⟨Y, hY⟩ : ∃ Y, Y = n % p * q := ⟨_, rfl⟩
  rw [← hX, ← hY] at hrot hlt
  have ex : (n : Int) / (p : Int) = (X : Int) := by rw [hX]; norm_cast
  have ey : (n : Int) % (p : Int) * (q : Int) = (Y : Int) := by rw [hY]; norm_cast
  have ex2 : Int.tdiv (n : Int) (p : Int) = (X : Int) := by rw [Int.tdiv_eq_ediv_of_nonneg (by omega), ex]
  have w1 : IntKind.u64.wrap (X : Int) = (X : Int) := by rw [IntKind.wrap_u64]; omega
  have w2 : IntKind.u64.wrap (Y : Int) = (Y : Int) := by rw [IntKind.wrap_u64]; omega
  have w3 : IntKind.u64.wrap ((X : Int) + (Y : Int)) = (X : Int) + (Y : Int) := by rw [IntKind.wrap_u64]; omega
  have HR := Lib.hid hrot
  have z1 : ((p : Int) == 0) = false := beq_eq_false_iff_ne.2 (by omega)
  clear hrot hpq hp hq e2 hX hY
  go_enter Tryd.func162, Tryd.ntmps162
  go_wp2_with (go_at_call 163; with_reducible refine (kb _).mono ?_; rintro e w1 ⟨rfl, hw1⟩; rw [hw1]; clear hw1 w1)
  go_quiet (first
    | (go_at_call 163; with_reducible exact Calls.quiet_of_same (kb _))
    | (go_at_call 163; with_reducible exact Calls.quiet_of_same (kb2 _)))
  go_wp2
  go_ret
  refine ⟨by rw [HR.out]; rfl, ?_⟩
  exact pw_below_drewN ((Below.refl _ w).alloc (Nat.le_refl _) _) _
end Go.Proofs.YtoeibcdnhglobaaDoor.P

/- A region that draws its order, all of whose operations and callees give the same value and keep the same word of the world, whatever the order. -/
namespace Go.Proofs.YtoeibcdnhglobaaDoor
set_option linter.unusedVariables false
set_option linter.unusedSimpArgs false
open Go Go.RowKit
section
variable {F : Fence} {n : Nat} {P : Program} {C : World → Prop}
theorem wpIn_region_quietC {id : Nat} {Q : Exit → Act → World → Prop} {a : Act} {w : World} {l : List Oper} (hnd : noDefer l = true) (hm : P.follows .mixedOrders = true) (hB : Region.lexB .any l.toArray = true) (hC : C w.drew)
    (h : wpQuietIn F n P l.toArray C (fun a' => ∀ w', C w' → Q .normal a' w') l a) : (Code.region id l.toArray true).wpIn F n P Q a w := by
  simp only [Region.lexB, Bool.and_eq_true] at hB
  refine wpIn_region_any hm (wpAnyIn_of_quiet' (C := C) (Q := fun a' => ∀ w', C w' → Q .normal a' w') (fun i o hi c => noDefer_at (i := i) hnd (by simpa using hi) c) (fun _ w' hw' h => h w' hw') _ _ _ _ hC ?_)
  have := wpAnyQIn_lex (F := F) (n := n) (C := C) (md := .any) hB.1 l 0 (Array.replicate l.toArray.size false) a (by simp) (by simpa using hB.2) h
  simpa using this
/-- Over the wide fence: 'Below' is kept. -/
theorem wp_region_below {id : Nat} {Q : Exit → Act → World → Prop} {a : Act} {w : World} {l : List Oper} (hnd : noDefer l = true) (hm : P.follows .mixedOrders = true) (hB : Region.lexB .any l.toArray = true)
    (h : wpQuietIn Fence.wide 0 P l.toArray (Below w.heap.size w) (fun a' => ∀ w', Below w.heap.size w w' → Q .normal a' w') l a) : (Code.region id l.toArray true).wp P Q a w :=
  (wpIn_wide (n := 0)).1 (wpIn_region_quietC hnd hm hB (Below.refl _ _).drew h)
/-- The same over an elder world. -/
theorem wp_region_base {W0 : World} {id : Nat} {Q : Exit → Act → World → Prop} {a : Act} {w : World} {l : List Oper} (hW : Below W0.heap.size W0 w) (hnd : noDefer l = true) (hm : P.follows .mixedOrders = true) (hB : Region.lexB .any l.toArray = true)
    (h : wpQuietIn Fence.wide 0 P l.toArray (Below W0.heap.size W0) (fun a' => ∀ w', Below W0.heap.size W0 w' → Q .normal a' w') l a) : (Code.region id l.toArray true).wp P Q a w :=
  (wpIn_wide (n := 0)).1 (wpIn_region_quietC hnd hm hB hW.drew h)
/-- .. with a last store. -/
theorem wp_region_baseS {W0 : World} {id : Nat} {Q : Exit → Act → World → Prop} {a : Act} {w : World} {L : List Oper} (hW : Below W0.heap.size W0 w) (k : Nat) (o : Oper) (hL : L.length = k + 1) (ho : L[k]? = some o) (hnd : noDefer (L.take k) = true) (hm : P.follows .mixedOrders = true) (hB : Region.lexB .any (L.take k).toArray = true)
    (hS : storeT .any (L.take k) o = true)
    (h : wpQuietIn Fence.wide 0 P (L.take k).toArray (Below W0.heap.size W0) (fun a' => ∀ w', Below W0.heap.size W0 w' → o.wpIn Fence.wide 0 P a' w' (fun a'' w'' => Q .normal a'' w'') Q) (L.take k) a) : (Code.region id L.toArray true).wp P Q a w :=
  (wpIn_wide (n := 0)).1 (wpIn_region_storeTL k o hL ho hnd hm hB hS hW.drew h)
theorem bcell {W W' : World} (h : Below W.heap.size W W') : ∀ b o, b < W.heap.size → W'.cell? ⟨b, o, none⟩ = W.cell? ⟨b, o, none⟩ := fun b o hb => h.cell (p := ⟨b, o, none⟩) hb
theorem bqcall {P : Program} {W : World} {o : Oper} {a : Act} {v : Value} {w' : World} (f : FuncId) (args : Array Value) (h : (execOp a.eval o).run P w' = .ok (.enter f args) w') (hC : Below W.heap.size W w')
    (hc : Calls P f args w' fun e w'' => e = .returned v ∧ Below w'.heap.size w' w'') : o.quietAtIn Fence.wide 0 P a (Below W.heap.size W) w' v :=
  qcall f args h (fun e => by cases e) ((callsIn_wide (n := 0 - 1)).2 (hc.mono fun e w'' ⟨he, hb⟩ => ⟨he, hC.trans (hb.mono hC.size)⟩))
end
end Go.Proofs.YtoeibcdnhglobaaDoor

/- pantileref01: three: the walk. Printed by wip/tools/genrefb.py. -/
namespace Go.Proofs.YtoeibcdnhglobaaDoor.P
set_option linter.unusedVariables false
set_option linter.unusedSimpArgs false
open Go.RowKit Go.Shelf Go.Proofs.YtoeibcdnhglobaaDoorW.PrintWords Go.Proofs.YtoeibcdnhglobaaDoorW.PrintLast Go.Proofs.YtoeibcdnhglobaaDoorW.PrintMore
open Go.Proofs.YtoeibcdnhglobaaDoor.Pure

theorem bits_xor_u64N (a b : Nat) (ha : a < 4294967296) (hb : b < 4294967296) : bits .xor .u64 (a : Int) (b : Int) = ((a ^^^ b : Nat) : Int) := bits_xor_u64_nat a b (by omega) (by omega)
/-- Three words of a row are read. -/
structure Row3 (w : World) (g : Nat) (a b c : Nat) : Prop where
  c0 : w.cell? ⟨g, 0, none⟩ = some (.int .i64 a)
  c1 : w.cell? ⟨g, 1, none⟩ = some (.int .i64 b)
  c2 : w.cell? ⟨g, 2, none⟩ = some (.int .i64 c)
theorem Row3.lt {w : World} {g a b c : Nat} (h : Row3 w g a b c) : g < w.heap.size := World.block_lt_of_cell? w ⟨g, 0, none⟩ h.c0
theorem Row3.below {w w' : World} {g a b c B : Nat} (h : Row3 w g a b c) (hb : Below B w w') (hg : g < B) : Row3 w' g a b c :=
  ⟨(hb.cell (p := ⟨g, 0, none⟩) hg).trans h.c0, (hb.cell (p := ⟨g, 1, none⟩) hg).trans h.c1, (hb.cell (p := ⟨g, 2, none⟩) hg).trans h.c2⟩
/-- The receiver's box. -/
def WBox (W : World) (B : Nat) (A2 A3 A4 A5 A6 A7 : Option Addr) (c2 c3 c4 c5 c6 c7 n6 n7 : Nat) : Prop :=
  W.heap[B]? = some (.cells #[.int .i64 32, .int .i64 64, .slice A2 3 c2, .slice A3 3 c3, .slice A4 3 c4, .slice A5 3 c5, .slice A6 n6 c6, .slice A7 n7 c7] 144 (0, 0))
section
variable {W : World} {B : Nat} {A2 A3 A4 A5 A6 A7 : Option Addr} {c2 c3 c4 c5 c6 c7 n6 n7 : Nat}
theorem WBox.cells (h : WBox W B A2 A3 A4 A5 A6 A7 c2 c3 c4 c5 c6 c7 n6 n7) : W.cell? ⟨B, 0, none⟩ = some (.int .i64 32) ∧ W.cell? ⟨B, 1, none⟩ = some (.int .i64 64) ∧ W.cell? ⟨B, 2, none⟩ = some (.slice A2 3 c2) ∧ W.cell? ⟨B, 3, none⟩ = some (.slice A3 3 c3) ∧
    W.cell? ⟨B, 4, none⟩ = some (.slice A4 3 c4) ∧ W.cell? ⟨B, 5, none⟩ = some (.slice A5 3 c5) ∧ W.cell? ⟨B, 6, none⟩ = some (.slice A6 n6 c6) ∧ W.cell? ⟨B, 7, none⟩ = some (.slice A7 n7 c7) := by
  refine ⟨?_, ?_, ?_, ?_, ?_, ?_, ?_, ?_⟩ <;> simp [World.cell?, show W.heap[B]? = _ from h]
theorem WBox.lt (h : WBox W B A2 A3 A4 A5 A6 A7 c2 c3 c4 c5 c6 c7 n6 n7) : B < W.heap.size := (Array.getElem?_eq_some_iff.1 h).1
theorem WBox.below {W' : World} {N : Nat} (h : WBox W B A2 A3 A4 A5 A6 A7 c2 c3 c4 c5 c6 c7 n6 n7) (hb : Below N W W') (hN : B < N) : WBox W' B A2 A3 A4 A5 A6 A7 c2 c3 c4 c5 c6 c7 n6 n7 := (hb.block B hN).trans h
theorem WBox.new (w : World) : WBox (w.alloc (.cells #[.int .i64 32, .int .i64 64, .slice A2 3 c2, .slice A3 3 c3, .slice A4 3 c4, .slice A5 3 c5, .slice A6 n6 c6, .slice A7 n7 c7] 144)) w.heap.size A2 A3 A4 A5 A6 A7 c2 c3 c4 c5 c6 c7 n6 n7 := heap_alloc_new w _
end
set_option maxRecDepth 100000 in
set_option maxHeartbeats 4000000 in
theorem three_f (A2 A3 A4 A5 A6 A7 : Option Addr) (c2 c3 c4 c5 c6 c7 n6 n7 : Nat) (x : Nat) (hx : x < 4294967296) (g a b c cc : Nat) (ha : 1 ≤ a ∧ a ≤ 31) (hb : 1 ≤ b ∧ b ≤ 31) (hc : 1 ≤ c ∧ c ≤ 31) (w : World) (hr : Row3 w g a b c) :
    Calls Tryd.prog 155 #[.agg #[.int .i64 32, .int .i64 64, .slice A2 3 c2, .slice A3 3 c3, .slice A4 3 c4, .slice A5 3 c5, .slice A6 n6 c6, .slice A7 n7 c7], .int .u64 x, .slice (some ⟨g, 0, none⟩) 3 cc, .bool false] w fun e w' => e = .returned (.int .u64 (sig a b c x : Nat)) ∧ Below w.heap.size w w' := by
  have ka := fun w => turn_calls A2 A3 A4 A5 A6 A7 c2 c3 c4 c5 c6 c7 n6 n7 x a hx ha.1 ha.2 w
  have kb := fun w => turn_calls A2 A3 A4 A5 A6 A7 c2 c3 c4 c5 c6 c7 n6 n7 x b hx hb.1 hb.2 w
  have kc := fun w => turn_calls A2 A3 A4 A5 A6 A7 c2 c3 c4 c5 c6 c7 n6 n7 x c hx hc.1 hc.2 w
  have e1 := bits_xor_u64N (rotr a x) (rotr b x) (rotr_lt a x (by omega) hx) (rotr_lt b x (by omega) hx)
  have e2 : bits .xor .u64 ((rotr a x ^^^ rotr b x : Nat) : Int) ((rotr c x : Nat) : Int) = ((sig a b c x : Nat) : Int) := bits_xor_u64N _ _ (Nat.xor_lt_two_pow (n := 32) (rotr_lt a x (by omega) hx) (rotr_lt b x (by omega) hx)) (rotr_lt c x (by omega) hx)
  obtain ⟨n0, hn0⟩ : ∃ n0, w.heap.size = n0 := ⟨_, rfl⟩
  have HR := Lib.hid hr
  clear hr hx ha hb hc
  go_enter Tryd.func155, Tryd.ntmps155
  go_wp2
  refine at_world (fun W0 => WBox W0 n0 A2 A3 A4 A5 A6 A7 c2 c3 c4 c5 c6 c7 n6 n7 ∧ Row3 W0 g a b c ∧ Below n0 w W0) ⟨hn0 ▸ WBox.new w, HR.out.below ((Below.refl _ w).alloc (Nat.le_refl _) _) HR.out.lt, (Below.refl n0 w).alloc (Nat.le_of_eq hn0.symm) _⟩ ?_
  rintro W1 ⟨hbx, hr1, hb1⟩
  obtain ⟨q0, q1, q2, q3, q4, q5, q6, q7⟩ := hbx.cells
  have p0 := hr1.c0
  have p1 := hr1.c1
  have p2 := hr1.c2
  have hl1 := hbx.lt
  have hl2 := hr1.lt
  have HBX := Lib.hid hbx
  have HR1 := Lib.hid hr1
  have HB1 := Lib.hid hb1
  clear hbx hr1 hb1
  refine wp_region_below rfl (by kernel_rfl) (by kernel_rfl) ?_
  repeat (first
    | (refine wpQuietIn_go (v := ?_) (a' := ?_) rfl (fun _ => trivial) (fun w' hC => qval ?_) rfl ?_ ?_; rotate_left; rotate_left; (have kc := bcell hC; go_simp; with_reducible rfl); (simp only [Act.put, List.setIfInBounds_toArray, List.set_cons_zero, List.set_cons_succ, i64_w, i32_w]; rfl))
    | (refine wpQuietIn_go (v := .int .u64 (rotr c x : Nat)) (a' := ?_) rfl (fun _ => trivial) (fun w' hC => bqcall 162 #[.agg #[.int .i64 32, .int .i64 64, .slice A2 3 c2, .slice A3 3 c3, .slice A4 3 c4, .slice A5 3 c5, .slice A6 n6 c6, .slice A7 n7 c7], .int .u64 x, .int .i64 (c : Nat)] ?_ hC (kc w')) rfl ?_ ?_; rotate_left; go_simp; (simp only [Act.put, List.setIfInBounds_toArray, List.set_cons_zero, List.set_cons_succ, i64_w, i32_w]; rfl)))
  refine wpQuietIn_nil ?_
  intro W2 hb2
  have hbx := HBX.out.below hb2 hl1
  have hr2 := HR1.out.below hb2 hl2
  have hbw := HB1.out.trans (hb2.mono (by have := HB1.out.size; omega))
  clear q0 q1 q2 q3 q4 q5 q6 q7 p0 p1 p2 hl1 hl2 hb2
  obtain ⟨q0, q1, q2, q3, q4, q5, q6, q7⟩ := hbx.cells
  have p0 := hr2.c0
  have p1 := hr2.c1
  have p2 := hr2.c2
  have hl1 := hbx.lt
  have hl2 := hr2.lt
  have HBW := Lib.hid hbw
  clear hbx hr2 hbw
  go_wp2
  refine wp_region_below rfl (by kernel_rfl) (by kernel_rfl) ?_
  repeat (first
    | (refine wpQuietIn_go (v := ?_) (a' := ?_) rfl (fun _ => trivial) (fun w' hC => qval ?_) rfl ?_ ?_; rotate_left; rotate_left; (have kc := bcell hC; go_simp; with_reducible rfl); (simp only [Act.put, List.setIfInBounds_toArray, List.set_cons_zero, List.set_cons_succ, i64_w, i32_w]; rfl))
    | (refine wpQuietIn_go (v := .int .u64 (rotr a x : Nat)) (a' := ?_) rfl (fun _ => trivial) (fun w' hC => bqcall 162 #[.agg #[.int .i64 32, .int .i64 64, .slice A2 3 c2, .slice A3 3 c3, .slice A4 3 c4, .slice A5 3 c5, .slice A6 n6 c6, .slice A7 n7 c7], .int .u64 x, .int .i64 (a : Nat)] ?_ hC (ka w')) rfl ?_ ?_; rotate_left; go_simp; (simp only [Act.put, List.setIfInBounds_toArray, List.set_cons_zero, List.set_cons_succ, i64_w, i32_w]; rfl))
    | (refine wpQuietIn_go (v := .int .u64 (rotr b x : Nat)) (a' := ?_) rfl (fun _ => trivial) (fun w' hC => bqcall 162 #[.agg #[.int .i64 32, .int .i64 64, .slice A2 3 c2, .slice A3 3 c3, .slice A4 3 c4, .slice A5 3 c5, .slice A6 n6 c6, .slice A7 n7 c7], .int .u64 x, .int .i64 (b : Nat)] ?_ hC (kb w')) rfl ?_ ?_; rotate_left; go_simp; (simp only [Act.put, List.setIfInBounds_toArray, List.set_cons_zero, List.set_cons_succ, i64_w, i32_w]; rfl)))
  refine wpQuietIn_nil ?_
  intro W3 hb3
  have hbw := HBW.out.trans (hb3.mono (by have := HBW.out.size; omega))
  clear q0 q1 q2 q3 q4 q5 q6 q7 p0 p1 p2 hl1 hl2 hb3
  go_wp2
  go_ret
  exact ⟨rfl, hn0 ▸ hbw⟩
set_option maxRecDepth 100000 in
set_option maxHeartbeats 4000000 in
theorem three_t (A2 A3 A4 A5 A6 A7 : Option Addr) (c2 c3 c4 c5 c6 c7 n6 n7 : Nat) (x : Nat) (hx : x < 4294967296) (g a b c cc : Nat) (ha : 1 ≤ a ∧ a ≤ 31) (hb : 1 ≤ b ∧ b ≤ 31) (hc : 1 ≤ c ∧ c ≤ 31) (w : World) (hr : Row3 w g a b c) :
    Calls Tryd.prog 155 #[.agg #[.int .i64 32, .int .i64 64, .slice A2 3 c2, .slice A3 3 c3, .slice A4 3 c4, .slice A5 3 c5, .slice A6 n6 c6, .slice A7 n7 c7], .int .u64 x, .slice (some ⟨g, 0, none⟩) 3 cc, .bool true] w fun e w' => e = .returned (.int .u64 (sigS a b c x : Nat)) ∧ Below w.heap.size w w' := by
  have ka := fun w => turn_calls A2 A3 A4 A5 A6 A7 c2 c3 c4 c5 c6 c7 n6 n7 x a hx ha.1 ha.2 w
  have kb := fun w => turn_calls A2 A3 A4 A5 A6 A7 c2 c3 c4 c5 c6 c7 n6 n7 x b hx hb.1 hb.2 w
  have kc := fun w => turn_calls A2 A3 A4 A5 A6 A7 c2 c3 c4 c5 c6 c7 n6 n7 x c hx hc.1 hc.2 w
  have e1 := bits_xor_u64N (rotr a x) (rotr b x) (rotr_lt a x (by omega) hx) (rotr_lt b x (by omega) hx)
  obtain ⟨p, hp⟩ : ∃ p, p = 2 ^ c := ⟨_, rfl⟩
  obtain ⟨Z, hZ⟩ : ∃ Z, Z = x / p := ⟨_, rfl⟩
  have hp0 : 0 < p := hp ▸ Nat.two_pow_pos c
  have kd := fun w => bit_calls c (by omega) p hp w
  have hZlt : Z < 4294967296 := by rw [hZ]; exact Nat.lt_of_le_of_lt (Nat.div_le_self _ _) hx
  have ez : (x : Int) / (p : Int) = (Z : Int) := by rw [hZ]; norm_cast
  have z1 : ((p : Int) == 0) = false := beq_eq_false_iff_ne.2 (by omega)
  have w1 : IntKind.u64.wrap (Z : Int) = (Z : Int) := by rw [IntKind.wrap_u64]; omega
  have e2 : bits .xor .u64 ((rotr a x ^^^ rotr b x : Nat) : Int) (Z : Int) = ((sigS a b c x : Nat) : Int) := by
    rw [bits_xor_u64N _ _ (Nat.xor_lt_two_pow (n := 32) (rotr_lt a x (by omega) hx) (rotr_lt b x (by omega) hx)) hZlt, hZ, hp]
    rfl
  clear hZ hp
  obtain ⟨n0, hn0⟩ : ∃ n0, w.heap.size = n0 := ⟨_, rfl⟩
  have HR := Lib.hid hr
  clear hr hx ha hb hc
  go_enter Tryd.func155, Tryd.ntmps155
  go_wp2
  refine at_world (fun W0 => WBox W0 n0 A2 A3 A4 A5 A6 A7 c2 c3 c4 c5 c6 c7 n6 n7 ∧ Row3 W0 g a b c ∧ Below n0 w W0) ⟨hn0 ▸ WBox.new w, HR.out.below ((Below.refl _ w).alloc (Nat.le_refl _) _) HR.out.lt, (Below.refl n0 w).alloc (Nat.le_of_eq hn0.symm) _⟩ ?_
  rintro W1 ⟨hbx, hr1, hb1⟩
  obtain ⟨q0, q1, q2, q3, q4, q5, q6, q7⟩ := hbx.cells
  have p0 := hr1.c0
  have p1 := hr1.c1
  have p2 := hr1.c2
  have hl1 := hbx.lt
  have hl2 := hr1.lt
  have HBX := Lib.hid hbx
  have HR1 := Lib.hid hr1
  have HB1 := Lib.hid hb1
  clear hbx hr1 hb1
  refine wp_region_below rfl (by kernel_rfl) (by kernel_rfl) ?_
  repeat (first
    | (refine wpQuietIn_go (v := ?_) (a' := ?_) rfl (fun _ => trivial) (fun w' hC => qval ?_) rfl ?_ ?_; rotate_left; rotate_left; (have kc := bcell hC; go_simp; with_reducible rfl); (simp only [Act.put, List.setIfInBounds_toArray, List.set_cons_zero, List.set_cons_succ, i64_w, i32_w]; rfl))
    | (refine wpQuietIn_go (v := .int .u64 (rotr c x : Nat)) (a' := ?_) rfl (fun _ => trivial) (fun w' hC => bqcall 162 #[.agg #[.int .i64 32, .int .i64 64, .slice A2 3 c2, .slice A3 3 c3, .slice A4 3 c4, .slice A5 3 c5, .slice A6 n6 c6, .slice A7 n7 c7], .int .u64 x, .int .i64 (c : Nat)] ?_ hC (kc w')) rfl ?_ ?_; rotate_left; go_simp; (simp only [Act.put, List.setIfInBounds_toArray, List.set_cons_zero, List.set_cons_succ, i64_w, i32_w]; rfl)))
  refine wpQuietIn_nil ?_
  intro W2 hb2
  have hbx := HBX.out.below hb2 hl1
  have hr2 := HR1.out.below hb2 hl2
  have hbw := HB1.out.trans (hb2.mono (by have := HB1.out.size; omega))
  clear q0 q1 q2 q3 q4 q5 q6 q7 p0 p1 p2 hl1 hl2 hb2
  obtain ⟨q0, q1, q2, q3, q4, q5, q6, q7⟩ := hbx.cells
  have p0 := hr2.c0
  have p1 := hr2.c1
  have p2 := hr2.c2
  have hl1 := hbx.lt
  have hl2 := hr2.lt
  have HBW := Lib.hid hbw
  clear hbx hr2 hbw
  go_wp2_with (go_at_call 163; with_reducible refine (kd _).mono ?_; rintro e w9 ⟨rfl, hw9⟩; rw [hw9]; clear hw9 w9)
  refine wp_region_below rfl (by kernel_rfl) (by kernel_rfl) ?_
  repeat (first
    | (refine wpQuietIn_go (v := ?_) (a' := ?_) rfl (fun _ => trivial) (fun w' hC => qval ?_) rfl ?_ ?_; rotate_left; rotate_left; (have kc := bcell hC; go_simp; with_reducible rfl); (simp only [Act.put, List.setIfInBounds_toArray, List.set_cons_zero, List.set_cons_succ, i64_w, i32_w]; rfl))
    | (refine wpQuietIn_go (v := .int .u64 (rotr a x : Nat)) (a' := ?_) rfl (fun _ => trivial) (fun w' hC => bqcall 162 #[.agg #[.int .i64 32, .int .i64 64, .slice A2 3 c2, .slice A3 3 c3, .slice A4 3 c4, .slice A5 3 c5, .slice A6 n6 c6, .slice A7 n7 c7], .int .u64 x, .int .i64 (a : Nat)] ?_ hC (ka w')) rfl ?_ ?_; rotate_left; go_simp; (simp only [Act.put, List.setIfInBounds_toArray, List.set_cons_zero, List.set_cons_succ, i64_w, i32_w]; rfl))
    | (refine wpQuietIn_go (v := .int .u64 (rotr b x : Nat)) (a' := ?_) rfl (fun _ => trivial) (fun w' hC => bqcall 162 #[.agg #[.int .i64 32, .int .i64 64, .slice A2 3 c2, .slice A3 3 c3, .slice A4 3 c4, .slice A5 3 c5, .slice A6 n6 c6, .slice A7 n7 c7], .int .u64 x, .int .i64 (b : Nat)] ?_ hC (kb w')) rfl ?_ ?_; rotate_left; go_simp; (simp only [Act.put, List.setIfInBounds_toArray, List.set_cons_zero, List.set_cons_succ, i64_w, i32_w]; rfl)))
  refine wpQuietIn_nil ?_
  intro W3 hb3
  have hbw := HBW.out.trans (hb3.mono (by have := HBW.out.size; omega))
  clear q0 q1 q2 q3 q4 q5 q6 q7 p0 p1 p2 hl1 hl2 hb3
  go_wp2
  go_ret
  exact ⟨rfl, hn0 ▸ hbw⟩
end Go.Proofs.YtoeibcdnhglobaaDoor.P
