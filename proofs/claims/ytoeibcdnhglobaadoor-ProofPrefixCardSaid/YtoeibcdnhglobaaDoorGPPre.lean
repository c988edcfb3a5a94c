/- pantilelaw10.ProofPrefix: the walk. -/
import Derived.Test.YtoeibcdnhglobaaDoorGPAny
namespace Go.Proofs.YtoeibcdnhglobaaDoor.P
set_option linter.unusedVariables false
set_option linter.unusedSimpArgs false
open Go.RowKit Go.Shelf Go.Proofs.YtoeibcdnhglobaaDoorW.PrintWords Go.Proofs.YtoeibcdnhglobaaDoorW.PrintLast Go.Proofs.YtoeibcdnhglobaaDoorW.PrintMore
open Go.Proofs.YtoeibcdnhglobaaDoor.Pure

/-- Two sources that stand in a world that has grown from w. -/
structure Two (w W : World) (L L2 : List ByteArray) (A : Option Addr) (K c : Nat) (A2 : Option Addr) (K2 c2 : Nat) : Prop where
  one : SrcAt W A K L
  two : SrcAt W A2 K2 L2
  bel : Below w.heap.size w W
theorem Two.on {w W W' : World} {L L2 : List ByteArray} {A : Option Addr} {K c : Nat} {A2 : Option Addr} {K2 c2 : Nat} (t : Two w W L L2 A K c A2 K2 c2) (hb : Below W.heap.size W W') : Two w W' L L2 A K c A2 K2 c2 :=
  ⟨t.one.below hb, t.two.below hb, t.bel.trans (hb.mono t.bel.size)⟩
set_option maxRecDepth 100000 in
set_option maxHeartbeats 8000000 in
theorem ProofPrefix_calls (A : Option Addr) (c : Nat) (ps : List Part) (n1 n2 n3 : Int) (w : World) (h : Leaves w A ps) (hT : TzTab w) (hG : GlobH w) (w1b : -9223372036854775808 ≤ n1) (w1c : n1 ≤ 9223372036854775807) :
    Calls Tryd.prog 14 #[.slice A ps.length c, .int .i64 n1, .int .i64 n2, .int .i64 n3] w fun e w' => e = .returned (.bool true) ∧ Below w.heap.size w w' := by
  have kH : Calls Tryd.prog 46 #[.slice A ps.length c, .int .i64 24] w _ := hashes_of A c ps 24 (by omega) w h
  have hlen := hash10_len ps 24
  have hsz := hash10_sz ps 24
  generalize hash10 ps 24 = L at *
  have kD := fun (W : World) => round_calls n1 (L.length + 1) w1b w1c (by omega) (by omega) W
  have hnm : (((L.length + 1 : Nat) : Int)) = (L.length : Int) + 1 := rfl
  simp only [hnm] at kD
  have kO := fun (A : Option Addr) (c : Nat) (W : World) (hs : StrRow W A L) (hW : Below w.heap.size w W) => of_row A c L W hs (by omega) hsz (hG.below hW)
  have kO2 := fun (n : Nat) (A : Option Addr) (c : Nat) (W : World) (hs : StrRow W A L) (hW : Below w.heap.size w W) => of_row A c (L.take n) W (hs.take_ n) (by rw [List.length_take]; omega) (fun s hm => hsz s (List.mem_of_mem_take hm)) (hG.below hW)
  obtain ⟨i9, hi9, _, hsz9, _⟩ := info_parts inf9
  have kS := fun (A1 : Option Addr) (c1 : Nat) (hc : L.length ≤ c1) (n : Nat) (hn : n ≤ L.length) => print_take_of (P := Tryd.prog) Value.string ByteArray.empty 22 9 .i64 Tryd.underlying22 hi9 hsz9 A1 c1 L (n : Int) (by omega) (by omega) hc
  have kL := fun (W : World) (hW : Below w.heap.size w W) => lives10_calls W (hT.below hW hT.lt) (hG.below hW)
  have kR : ∀ (n : Nat), n ≤ L.length → ∀ (A : Option Addr) (K c : Nat) (A2 : Option Addr) (K2 c2 : Nat) (W : World), Two w W L (L.take n) A K c A2 K2 c2 → Calls Tryd.prog 63 #[.iface 112 (.slice A K c), .int .i64 n] W fun e w' => e = .returned (.tuple #[.string (rootH (L.take n)), .int .i64 0]) ∧ Two w w' L (L.take n) A K c A2 K2 c2 := fun n hn A K c A2 K2 c2 W t =>
    (RootP_calls A K c n L W t.one hsz hn (hT.below t.bel hT.lt) (hG.below t.bel)).mono fun e w' ⟨he, hb⟩ => ⟨he, t.on hb⟩
  have kR2 : ∀ (n : Nat), n ≤ L.length → ∀ (A : Option Addr) (K c : Nat) (A2 : Option Addr) (K2 c2 : Nat) (W : World), Two w W L (L.take n) A K c A2 K2 c2 → Calls Tryd.prog 63 #[.iface 112 (.slice A2 K2 c2), .int .i64 n] W fun e w' => e = .returned (.tuple #[.string (rootH (L.take n)), .int .i64 0]) ∧ Two w w' L (L.take n) A K c A2 K2 c2 := fun n hn A K c A2 K2 c2 W t => by
    have k := RootP_calls A2 K2 c2 n (L.take n) W t.two (fun s hm => hsz s (List.mem_of_mem_take hm)) (by rw [List.length_take]; omega) (hT.below t.bel hT.lt) (hG.below t.bel)
    rw [List.take_take, Nat.min_self] at k
    exact k.mono fun e w' ⟨he, hb⟩ => ⟨he, t.on hb⟩
  have kI : ∀ (n : Nat), n ≤ L.length → ∀ (A : Option Addr) (K c : Nat) (A2 : Option Addr) (K2 c2 : Nat) (W : World), Two w W L (L.take n) A K c A2 K2 c2 → Calls Tryd.prog 64 #[.iface 112 (.slice A K c), .int .i64 n3, .int .i64 n] W fun e w' => ∃ A1 c1, e = .returned (.tuple #[.slice A1 (incP L n3 n).length c1, .int .i64 (incE n3 n)]) ∧ ReadsOf Value.string ByteArray.empty w' A1 (incP L n3 n).length (incP L n3 n) ∧ Below W.heap.size W w' ∧ Two w w' L (L.take n) A K c A2 K2 c2 := fun n hn A K c A2 K2 c2 W t =>
    (Inc_any A K c n3 n L W t.one hsz hn (hT.below t.bel hT.lt) (hG.below t.bel)).mono fun e w' ⟨A1, c1, he, _, hr, hb⟩ => ⟨A1, c1, he, hr, hb, t.on hb⟩
  have kI2 : ∀ (n : Nat), n ≤ L.length → ∀ (A : Option Addr) (K c : Nat) (A2 : Option Addr) (K2 c2 : Nat) (W : World), Two w W L (L.take n) A K c A2 K2 c2 → Calls Tryd.prog 64 #[.iface 112 (.slice A2 K2 c2), .int .i64 n3, .int .i64 n] W fun e w' => ∃ A1 c1, e = .returned (.tuple #[.slice A1 (incP L n3 n).length c1, .int .i64 (incE n3 n)]) ∧ ReadsOf Value.string ByteArray.empty w' A1 (incP L n3 n).length (incP L n3 n) ∧ Below W.heap.size W w' ∧ Two w w' L (L.take n) A K c A2 K2 c2 := fun n hn A K c A2 K2 c2 W t => by
    have k := Inc_any A2 K2 c2 n3 n (L.take n) W t.two (fun s hm => hsz s (List.mem_of_mem_take hm)) (by rw [List.length_take]; omega) (hT.below t.bel hT.lt) (hG.below t.bel)
    rw [incP_take] at k
    exact k.mono fun e w' ⟨A1, c1, he, _, hr, hb⟩ => ⟨A1, c1, he, hr, hb, t.on hb⟩
  have kC : ∀ (n : Nat), n ≤ L.length → ∀ (A : Option Addr) (K c : Nat) (A2 : Option Addr) (K2 c2 : Nat) (W : World), Two w W L (L.take n) A K c A2 K2 c2 → Calls Tryd.prog 48 #[.iface 112 (.slice A K c), .int .i64 n2, .int .i64 n] W fun e w' => ∃ A1 c1, e = .returned (.tuple #[.slice A1 (conP L n2 n).length c1, .int .i64 (conE n2 n)]) ∧ ReadsOf Value.string ByteArray.empty w' A1 (conP L n2 n).length (conP L n2 n) ∧ Below W.heap.size W w' ∧ Two w w' L (L.take n) A K c A2 K2 c2 := fun n hn A K c A2 K2 c2 W t =>
    (Con_any A K c n2 n L W t.one hsz hn (hT.below t.bel hT.lt) (hG.below t.bel)).mono fun e w' ⟨A1, c1, he, _, hr, hb⟩ => ⟨A1, c1, he, hr, hb, t.on hb⟩
  have kC2 : ∀ (n : Nat), n ≤ L.length → ∀ (A : Option Addr) (K c : Nat) (A2 : Option Addr) (K2 c2 : Nat) (W : World), Two w W L (L.take n) A K c A2 K2 c2 → Calls Tryd.prog 48 #[.iface 112 (.slice A2 K2 c2), .int .i64 n2, .int .i64 n] W fun e w' => ∃ A1 c1, e = .returned (.tuple #[.slice A1 (conP L n2 n).length c1, .int .i64 (conE n2 n)]) ∧ ReadsOf Value.string ByteArray.empty w' A1 (conP L n2 n).length (conP L n2 n) ∧ Below W.heap.size W w' ∧ Two w w' L (L.take n) A K c A2 K2 c2 := fun n hn A K c A2 K2 c2 W t => by
    have k := Con_any A2 K2 c2 n2 n (L.take n) W t.two (fun s hm => hsz s (List.mem_of_mem_take hm)) (by rw [List.length_take]; omega) (hT.below t.bel hT.lt) (hG.below t.bel)
    rw [conP_take] at k
    exact k.mono fun e w' ⟨A1, c1, he, _, hr, hb⟩ => ⟨A1, c1, he, hr, hb, t.on hb⟩
  have kE := fun (A0 A1 : Option Addr) (c0 c1 : Nat) (l : List ByteArray) (W : World) => Same_calls A0 A1 c0 c1 l W
  have hNb : (L.length : Int) ≤ 24 := by omega
  clear hsz hlen h hT hG hi9 hsz9 hnm w1b w1c
  go_enter Tryd.func14, Tryd.ntmps14
  go_wp2_with (first
    | (go_at_call 46; go_loud (with_reducible refine kH.mono ?_; rintro e w1 ⟨A1, c1, rfl, hc1, hs1, _, hb1⟩))
    | (go_at_call 62; go_loud (refine (kD _).mono ?_; rintro e w' ⟨⟨n, hn, rfl⟩, hw'⟩; rw [hw']; clear hw' w'; have hn1 : n ≤ L.length := Nat.le_of_lt_succ hn; have hcut := (kS A1 c1 hc1 n hn1).1; simp only [Int.toNat_natCast] at hcut; have kO3 := kO2 n; have hnI : (n : Int) ≤ (L.length : Int) := Int.ofNat_le.2 hn1; have kR := kR n hn1; have kR2 := kR2 n hn1; have kI := kI n hn1; have kI2 := kI2 n hn1; have kC := kC n hn1; have kC2 := kC2 n hn1; clear kO2 kS kD hn hn1; generalize rootH (L.take n) = RX at *; generalize incP L n3 n = IP at *; generalize conP L n2 n = CP at *; generalize incE n3 n = IE at *; generalize conE n2 n = CE at *; generalize L.take n = L2 at *))
    | (go_at_call 47; first
      | (with_reducible refine (kO _ _ _ hs1 hb1).mono ?_; rintro e w2 ⟨A2, K2, c2, rfl, hs2, hb2⟩; have hb12 := hb1.trans (hb2.mono hb1.size); clear kO; have hsr := hs1.below hb2; clear hs1 hb1)
      | (with_reducible refine (kO3 _ _ _ hsr hb12).mono ?_; rintro e w3 ⟨A3, K3, c3, rfl, hs3, hb3⟩; have t3 : Two w w3 L L2 A2 K2 c2 A3 K3 c3 := ⟨hs2.below hb3, hs3, hb12.trans (hb3.mono hb12.size)⟩; clear kO3 hs2 hs3 hb12))
    | (go_at_call 63; first
      | (refine (kR _ _ _ _ _ _ _ t3).mono ?_; rintro e w4 ⟨rfl, t4⟩; clear kR t3)
      | (refine (kR2 _ _ _ _ _ _ _ t4).mono ?_; rintro e w5 ⟨rfl, t5⟩; clear kR2 t4))
    | (go_at_call 64; first
      | (refine (kI _ _ _ _ _ _ _ t5).mono ?_; rintro e w6 ⟨A6, c6, rfl, r6, hb6, t6⟩; clear kI t5 hb6)
      | (refine (kI2 _ _ _ _ _ _ _ t6).mono ?_; rintro e w7 ⟨A7, c7, rfl, r7, hb7, t7⟩; have r6b := r6.below hb7; clear kI2 t6 hb7 r6))
    | (go_at_call 48; first
      | (refine (kC _ _ _ _ _ _ _ t7).mono ?_; rintro e w8 ⟨A8, c8, rfl, r8, hb8, t8⟩; have r6c := r6b.below hb8; have r7c := r7.below hb8; clear kC t7 hb8 r6b r7)
      | (refine (kC2 _ _ _ _ _ _ _ t8).mono ?_; rintro e w9 ⟨A9, c9, rfl, r9, hb9, t9⟩; have r6d := r6c.below hb9; have r7d := r7c.below hb9; have r8d := r8.below hb9; clear kC2 t8 hb9 r6c r7c r8))
    | (go_at_call 34; first
      | (with_reducible refine (kE _ _ _ _ _ _ r6d r7d).mono ?_; rintro e wa ⟨rfl, hba⟩; have r8e := r8d.below hba; have r9e := r9.below hba; have ta := t9.on hba; clear r6d r7d r8d r9 hba t9)
      | (with_reducible refine (kE _ _ _ _ _ _ r8e r9e).mono ?_; rintro e wb ⟨rfl, hbb⟩; have tb := ta.on hbb; clear r8e r9e hbb ta))
    | (go_at_call 49; refine (kL _ tb.bel).mono ?_; rintro e wc ⟨rfl, hbc⟩))
  go_ret
  exact ⟨rfl, tb.bel.trans (hbc.mono tb.bel.size)⟩
end Go.Proofs.YtoeibcdnhglobaaDoor.P
