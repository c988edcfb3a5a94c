/- pantilelaw09.PeaksHashes: the walk. -/
import Derived.Test.YtoeibcdnhglobaaDoorF4
namespace Go.Proofs.YtoeibcdnhglobaaDoor.P
set_option linter.unusedVariables false
set_option linter.unusedSimpArgs false
open Go.RowKit Go.Shelf Go.Proofs.YtoeibcdnhglobaaDoorW.PrintWords Go.Proofs.YtoeibcdnhglobaaDoorW.PrintLast Go.Proofs.YtoeibcdnhglobaaDoorW.PrintMore
open Go.Proofs.YtoeibcdnhglobaaDoor.Pure

/-- Between two rounds: the hashes hs were added at n0, and lie in the row v. -/
structure HI (w : World) (n0 : Nat) (hs : List ByteArray) (og : Option Nat) (v : Value) (W : World) : Prop where
  law : LawH w n0 hs og W
  own : W.ownsRow n0 9 1 v hs.length (encs Value.string hs)
  sz : ∀ s ∈ hs, s.size ≤ 32
  ne : ∀ g, v.ownBlock = some g → g ≠ n0 ∧ og ≠ some g
theorem HI.after {w W W' : World} {n0 : Nat} {hs : List ByteArray} {og : Option Nat} {v : Value} (h : HI w n0 hs og v W) (hb : Below W.heap.size W W') : HI w n0 hs og v W' :=
  ⟨h.law.after hb, pw_own_below h.own hb, h.sz, h.ne⟩
theorem HI.glob {w W : World} {n0 : Nat} {hs : List ByteArray} {og : Option Nat} {v : Value} (h : HI w n0 hs og v W) : GlobH W := h.law.glob.below h.law.below
theorem HI.tab {w W : World} {n0 : Nat} {hs : List ByteArray} {og : Option Nat} {v : Value} (h : HI w n0 hs og v W) : TzTab W := h.law.tab.below h.law.below h.law.tab.lt
theorem HI.root {w W : World} {n0 : Nat} {hs : List ByteArray} {og : Option Nat} {A : Option Addr} {n c : Nat} (h : HI w n0 hs og (.slice A n c) W) (hn : hs.length < 1000) (he : n = hs.length) :
    Calls Tryd.prog 39 #[.slice A n c] W fun e w' => e = .returned (.string (rootH hs)) ∧ Below W.heap.size W w' := by
  subst he
  exact Root_calls A c hs W (own_reads_of' h.own) h.sz (by omega) h.tab h.glob
theorem HI.rootR {w W : World} {n0 : Nat} {hs : List ByteArray} {og : Option Nat} {A : Option Addr} {n c : Nat} (h : HI w n0 hs og (.slice A n c) W) (hn : hs.length < 1000) (he : n = hs.length) (hc : hs.length ≤ c) :
    Calls Tryd.prog 40 #[.slice A n c] W fun e w' => e = .returned (.string (rootH hs)) ∧ Below W.heap.size W w' := by
  subst he
  exact RootR_calls hs.length hs (Nat.le_refl _) (by omega) h.sz A c W (own_reads_of' h.own) hc
theorem HI.add {w W : World} {n0 : Nat} {hs : List ByteArray} {x : ByteArray} {og : Option Nat} {v : Value} (hL : LawH w n0 hs og W) (hw : w.heap.size = n0) (hs0 : ∀ s ∈ hs, s.size ≤ 32) (hx : x.size ≤ 32) (hn : hs.length < 1000)
    (hown : W.ownsRow n0 9 1 v (hs ++ [x]).length (encs Value.string (hs ++ [x]))) (hne : ∀ g, v.ownBlock = some g → g ≠ n0 ∧ og ≠ some g) :
    Calls Tryd.prog 23 #[.pointer (some ⟨n0, 0, none⟩), .string x] W fun e w' => e = .returned (.tuple #[]) ∧ ∃ og', HI w n0 (hs ++ [x]) og' v w' := by
  refine (hL.add x (by omega) hs0 hx).mono ?_
  rintro e w' ⟨he, og', hL', ht, hog⟩
  refine ⟨he, og', hL', own_blk hown fun g hg => ht.block g (hown.lt g hg).2 ?_, ?_, ?_⟩
  · rintro (e | e)
    · exact (hne g hg).1 e
    · exact (hne g hg).2 e.symm
  · intro s hs1
    rcases List.mem_append.1 hs1 with h | h
    · exact hs0 s h
    · have : s = x := by simpa using h
      rw [this]; exact hx
  · intro g hg
    refine ⟨(hne g hg).1, fun e => ?_⟩
    rcases hog with e1 | ⟨g1, e1, h1⟩
    · exact (hne g hg).2 (e1 ▸ e)
    · rw [e] at e1; cases e1
      have := (hown.lt g hg).2
      omega
theorem own_cap {w : World} {base n : Nat} {e : TypeId} {size : Nat} {v : Value} {xs : List Value} (h : w.ownsRow base e size v n xs) : ∃ A c, v = .slice A n c ∧ n ≤ c := by
  rcases h.2 with ⟨rfl, h0⟩ | ⟨g, cap, cur, rfl, _, hg, hcap, _⟩
  · exact ⟨none, 0, by rw [h0], by omega⟩
  · exact ⟨_, _, rfl, hcap⟩
set_option maxRecDepth 100000 in
set_option maxHeartbeats 8000000 in
theorem PeaksHashes_calls (A : Option Addr) (c : Nat) (ps : List Part) (w : World) (h : Leaves w A ps) (hT : TzTab w) (hG : GlobH w) :
    Calls Tryd.prog 6 #[.slice A ps.length c] w fun e w' => e = .returned (.bool true) ∧ Below w.heap.size w w' := by
  obtain ⟨n0, hn0⟩ : ∃ n0, w.heap.size = n0 := ⟨_, rfl⟩
  have hL := LawH.new w hT hG
  rw [hn0] at hL
  have hI0 : HI w n0 [] none (.slice none 0 0) (w.alloc (.cells #[.func (.func 41) #[] #[], .slice none 0 0, .int .i64 0] 91)) := ⟨hL, own_nil _ _ _ _, fun s hs => (by cases hs), fun g e => (by cases e)⟩
  have H0 := Lib.hid hI0
  have HP := Lib.hid h
  have kH := fun (W : World) => Hashes_calls W
  obtain ⟨X, hX⟩ : ∃ X, X = nodeH ⟨#[97]⟩ ⟨#[98]⟩ := ⟨_, rfl⟩
  have kN : ∀ W, GlobH W → Calls Tryd.prog 41 #[.string ⟨#[97]⟩, .string ⟨#[98]⟩] W fun e w' => e = .returned (.string X) ∧ Below W.heap.size W w' := fun W hW => hX ▸ NodeHash_calls _ _ (by decide) W hW
  have kM : ∀ W, Calls Tryd.prog 42 #[.string ⟨#[97]⟩, .string ⟨#[98]⟩] W fun e w' => e = .returned (.string X) ∧ Below W.heap.size W w' := fun W => hX ▸ NodeR_calls _ _ (by decide) W
  clear hX
  have HN := Lib.hid hn0
  clear hI0 h hL hT hG
  go_enter Tryd.func6, Tryd.ntmps6
  go_wp2_with (go_at_call 36; refine (kH _).mono ?_; rintro e w' ⟨rfl, hw'⟩; rw [hw']; clear hw' w')
  go_loopw [3, 5] (fun v3 v5 wr => ∃ (i : Nat) (hs : List ByteArray) (og : Option Nat), v5 = .int .i64 i ∧ i ≤ ps.length ∧ i ≤ 12 ∧ hs.length = i ∧ HI w n0 hs og v3 wr) (fun _ v5 _ => 12 - (intOf v5).toNat)
  case atStart => exact ⟨0, [], none, rfl, by omega, by omega, rfl, H0.out⟩
  case round =>
    clear H0 kH
    obtain ⟨i, hs, og, rfl, hi, hi12, hhl, hI⟩ := hrel
    subst hhl
    obtain ⟨A3, c3, rfl, hc3⟩ := own_cap hI.own
    by_cases hlt : hs.length < ps.length
    · have hd : decide ((hs.length : Int) < (ps.length : Int)) = true := decide_eq_true (by omega)
      by_cases h12 : hs.length < 12
      · have hd2 : decide ((hs.length : Int) < 12) = true := decide_eq_true (by omega)
        have hib : (hs.length : Int) < 12 := by omega
        have hil : (hs.length : Int) < (ps.length : Int) := by omega
        obtain ⟨ad, rfl, hcell⟩ := HP.out.at_ hs.length hlt
        have hcw := (hI.law.below.cell (World.block_lt_of_cell? _ _ hcell)).trans hcell
        have hmem := List.getElem_mem hlt
        obtain ⟨m, x, hx, kL, kR, hcase⟩ := leaf_case _ _ _ wr ((HP.out.rd _ hmem).below hI.law.below) (HP.out.cap _ hmem) (HP.out.ok _ hmem) hI.glob
        obtain ⟨L, hLq⟩ : ∃ L, L = hs ++ [x] := ⟨_, rfl⟩
        have hLl : L.length = hs.length + 1 := by rw [hLq]; simp
        have kAdd : ∀ (W : World) (v : Value), LawH w n0 hs og W → W.ownsRow n0 9 1 v L.length (encs Value.string L) → (∀ g, v.ownBlock = some g → g ≠ n0 ∧ og ≠ some g) →
            Calls Tryd.prog 23 #[.pointer (some ⟨n0, 0, none⟩), .string x] W fun e w' => e = .returned (.tuple #[]) ∧ ∃ og', HI w n0 L og' v w' := by
          subst hLq
          exact fun W v h1 h2 h3 => HI.add h1 HN.out hI.sz (Nat.le_of_eq hx) (by omega) h2 h3
        have kTop : ∀ (W : World) (og : Option Nat) (v : Value), HI w n0 L og v W → Calls Tryd.prog 25 #[.pointer (some ⟨n0, 0, none⟩)] W fun e w' => e = .returned (.tuple #[.string (rootH L), .bool true]) ∧ Below W.heap.size W w' := fun W og v h => by
          have := h.law.top (by omega) h.sz
          rw [← rootH_pos L (by omega), decide_eq_true (by omega : 0 < L.length)] at this
          exact this.mono fun e w' ⟨h1, h2, _⟩ => ⟨h1, h2⟩
        have kRoot : ∀ (W : World) (og : Option Nat) (A : Option Addr) (c : Nat), HI w n0 L og (.slice A L.length c) W → Calls Tryd.prog 39 #[.slice A L.length c] W fun e w' => e = .returned (.string (rootH L)) ∧ Below W.heap.size W w' := fun W og A c h => h.root (by omega) rfl
        have kApp : ∀ (w2 : World), HI w n0 hs og (.slice A3 hs.length c3) w2 → ∀ v4 w4, w4.ownsRow n0 9 1 v4 L.length (encs Value.string L) → w2.grownBy w4 (Value.slice A3 hs.length c3).ownBlock → (v4.ownBlock = (Value.slice A3 hs.length c3).ownBlock ∨ ∃ b, v4.ownBlock = some b ∧ w2.heap.size ≤ b) →
            LawH w n0 hs og w4 ∧ (∀ g, v4.ownBlock = some g → g ≠ n0 ∧ og ≠ some g) := fun w2 h2 v4 w4 ho hg hat => by
          refine ⟨h2.law.far (S := fun k => some k = (Value.slice A3 hs.length c3).ownBlock) (Touch.grown hg (fun k e => e.symm)) (fun k e => ⟨by rw [HN.out]; exact own_base h2.own k e.symm, (h2.ne k e.symm).1, (h2.ne k e.symm).2⟩), fun g hgg => ?_⟩
          rcases hat with e | ⟨b, e, hb⟩
          · exact h2.ne g (e ▸ hgg)
          · rw [hgg] at e; cases e
            refine ⟨fun e => ?_, fun e => ?_⟩
            · have := h2.law.lt; omega
            · have := (h2.law.own _ e).2; omega
        have hl16 : (hs.length + 1) * 16 ≤ 140737488355328 := by omega
        have hbw : ∀ W, HI w n0 hs og (.slice A3 hs.length c3) W → Below n0 w W ∧ n0 ≤ W.heap.size := fun W h => ⟨by rw [← HN.out]; exact h.law.below, Nat.le_of_lt h.law.lt⟩
        generalize ps[hs.length] = pt at *
        have HLQ := Lib.hid hLq
        have HLL := Lib.hid hLl
        have HX := Lib.hid hx
        have hbr := Below.refl wr.heap.size wr
        clear hLq hLl hx hmem hcell HP kN kM
        rcases hcase with ⟨h0, rfl, g0⟩ | ⟨h0, rfl⟩
        all_goals
          go_wp2_with (first
            | (go_at_call 37; go_loud (with_reducible refine (kL wr hbr).mono ?_; rintro e w1 ⟨rfl, hb1⟩; have kR1 := kR w1 hb1; clear kL kR))
            | (go_at_call 38; go_loud (with_reducible refine kR1.mono ?_; rintro e w2 ⟨rfl, hb2⟩; have hI2 := hI.after hb2; have hO2 := hI2.own; have hB2 := hbw w2 hI2; clear kR1))
            | (at_builtin; go_loud (refine print_append_of (w0 := w) Value.string n0 rfl _ _ 22 9 (.string ⟨#[]⟩) 16 rfl Tryd.underlying22 inf9 rfl (by decide) (.slice A3 hs.length c3) hs x rfl rfl rfl hO2 hB2.1 hB2.2 hl16 ?_; intro v4 w4 hown4 hB4 hg4 hat4; rw [← HLQ.out] at hown4; have hA4 := kApp w2 hI2 v4 w4 hown4 hg4 hat4; obtain ⟨A4, c4, rfl, hc4⟩ := own_cap hown4; have kA := kAdd w4 _ hA4.1 hown4 hA4.2; clear hO2 hB2 hown4 hB4 hg4 hat4 hA4))
            | (go_at_call 23; go_loud (with_reducible refine kA.mono ?_; rintro e w5 ⟨rfl, og5, hI5⟩; have kT := kTop w5 og5 _ hI5; clear kA))
            | (go_at_call 25; go_loud (with_reducible refine kT.mono ?_; rintro e w6 ⟨rfl, hb6⟩; have hI6 := hI5.after hb6; have kQ := kRoot w6 og5 A4 c4 hI6; clear kT))
            | (go_at_call 39; go_loud (with_reducible refine kQ.mono ?_; rintro e w7 ⟨rfl, hb7⟩; have hI7 := hI6.after hb7; clear kQ)))
          exact ⟨⟨hs.length + 1, L, og5, rfl, by omega, by omega, HLL.out, hI7⟩, by simp only [intOf]; omega⟩
      · have hd2 : decide ((hs.length : Int) < 12) = false := decide_eq_false (by omega)
        have kA := hI.root (by omega) rfl
        go_wp2_with (first
          | (go_at_call 39; go_loud (with_reducible refine kA.mono ?_; rintro e w1 ⟨rfl, hb1⟩; have hI1 := hI.after hb1; have kB := hI1.rootR (by omega) rfl hc3; clear kA))
          | (go_at_call 40; go_loud (with_reducible refine kB.mono ?_; rintro e w2 ⟨rfl, hb2⟩; have hI2 := hI1.after hb2; have kC := kN w2 hI2.glob; clear kB))
          | (go_at_call 41; go_loud (with_reducible refine kC.mono ?_; rintro e w3 ⟨rfl, hb3⟩; have hI3 := hI2.after hb3; clear kC))
          | (go_at_call 42; go_loud (with_reducible refine (kM _).mono ?_; rintro e w4 ⟨rfl, hb4⟩; have hI4 := hI3.after hb4; have kD := lives09_calls w4 hI4.tab))
          | (go_at_call 27; go_loud (with_reducible refine kD.mono ?_; rintro e w5 ⟨rfl, hb5⟩; have hI5 := hI4.after hb5; clear kD)))
        go_ret
        exact ⟨rfl, hI5.law.below⟩
    · have hd : decide ((hs.length : Int) < (ps.length : Int)) = false := decide_eq_false (by omega)
      have kA := hI.root (by omega) rfl
      go_wp2_with (first
        | (go_at_call 39; go_loud (with_reducible refine kA.mono ?_; rintro e w1 ⟨rfl, hb1⟩; have hI1 := hI.after hb1; have kB := hI1.rootR (by omega) rfl hc3; clear kA))
        | (go_at_call 40; go_loud (with_reducible refine kB.mono ?_; rintro e w2 ⟨rfl, hb2⟩; have hI2 := hI1.after hb2; have kC := kN w2 hI2.glob; clear kB))
        | (go_at_call 41; go_loud (with_reducible refine kC.mono ?_; rintro e w3 ⟨rfl, hb3⟩; have hI3 := hI2.after hb3; clear kC))
        | (go_at_call 42; go_loud (with_reducible refine (kM _).mono ?_; rintro e w4 ⟨rfl, hb4⟩; have hI4 := hI3.after hb4; have kD := lives09_calls w4 hI4.tab))
        | (go_at_call 27; go_loud (with_reducible refine kD.mono ?_; rintro e w5 ⟨rfl, hb5⟩; have hI5 := hI4.after hb5; clear kD)))
      go_ret
      exact ⟨rfl, hI5.law.below⟩
end Go.Proofs.YtoeibcdnhglobaaDoor.P
