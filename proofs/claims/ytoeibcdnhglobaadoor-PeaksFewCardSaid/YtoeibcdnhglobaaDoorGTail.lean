/- digest.tail, and a copy of bytes: the walks. -/
import Derived.Test.YtoeibcdnhglobaaDoorGHash
import Derived.WalkSpells
namespace Go.Proofs.YtoeibcdnhglobaaDoor.P
set_option linter.unusedVariables false
set_option linter.unusedSimpArgs false
open Go.RowKit Go.Shelf Go.Proofs.YtoeibcdnhglobaaDoorW.PrintWords Go.Proofs.YtoeibcdnhglobaaDoorW.PrintLast Go.Proofs.YtoeibcdnhglobaaDoorW.PrintMore
open Go.Proofs.YtoeibcdnhglobaaDoor.Pure

/-- A row of bytes of the call's own. -/
abbrev OwnB (w : World) (base : Nat) (v : Value) (l : List Int) : Prop := w.ownsRow base 5 1 v l.length (nums .u8 l)
theorem run_append_none (A : Option Addr) (n cap : Nat) (h : n ≤ cap) (hn : n ≤ 140737488355328) (ty : TypeId) (w : World) : (Builtin.append_ #[47, 3] ty #[.slice A n cap, .int .i64 0]).run Tryd.prog w = .ok (.slice A n cap) w := by
  obtain ⟨i5, hi5, hz5, hsz5, hby5⟩ := info_parts inf5
  have hw0 : IntKind.i64.wrap 0 = 0 := by rw [IntKind.wrap_i64]; rfl
  have h63 : ¬ (9223372036854775807 < (n : Int)) := by omega
  cases A <;> simp [Builtin.append_, run_underlying Tryd.underlying47, run_underlying Tryd.underlying3, sizeOf, typeInfo, zeroValue, hi5, hz5, hsz5, hby5, asInt, asIntOf, hw0, h, h63, Builtin.zeroCells, storeCells]
set_option maxRecDepth 100000 in
set_option maxHeartbeats 2000000 in
theorem CloneB_calls (A : Option Addr) (c : Nat) (l : List Int) (w : World) (hr : ReadsInt w .u8 A l.length l) (hl : l.length ≤ 1099511627776) (hc : l.length ≤ c) :
    Calls Tryd.prog 134 #[.slice A l.length c] w fun e w' => ∃ v', e = .returned v' ∧ OwnB w' w.heap.size v' l ∧ Below w.heap.size w w' := by
  have heq := fun (w : World) => Lib.run_eql_slice_nil (P := Tryd.prog) w 47 5 A l.length c 0 0 Tryd.underlying47
  rcases A with _ | ad
  · obtain rfl : l = [] := by
      rcases Nat.eq_zero_or_pos l.length with h0 | h0
      · exact List.length_eq_zero_iff.1 h0
      · obtain ⟨ad, h, _⟩ := hr.2.2 h0; cases h
    clear hr hl hc
    simp only [List.length_nil, Option.isNone_none] at heq ⊢
    go_enter Tryd.func134, Tryd.ntmps134
    go_wp2
    go_ret
    exact ⟨_, rfl, own_nil _ _ _ _, Below.refl _ _⟩
  · have hbig : (([] : List Int).length + l.length) * 1 ≤ 140737488355328 := by simp only [List.length_nil]; omega
    have HR := Lib.hid hr
    clear hr
    obtain ⟨n0, hn0⟩ : ∃ n0, w.heap.size = n0 := ⟨_, rfl⟩
    have HN := Lib.hid hn0
    have hown : (w.alloc (.cells #[] 5)).ownsRow n0 5 1 (.slice (some ⟨n0, 0, none⟩) 0 0) ([] : List Int).length (nums .u8 []) := by
      subst hn0; exact own_lit w w.heap.size 5 .u8 [] (Nat.le_refl _) (by decide)
    have hBel : Below n0 w (w.alloc (.cells #[] 5)) := (Below.refl n0 w).alloc (Nat.le_of_eq hn0.symm) _
    have hrd : ReadsInt (w.alloc (.cells #[] 5)) .u8 (some ad) l.length l := HR.out.below ((Below.refl _ w).alloc (Nat.le_refl _) _)
    have hsz : n0 ≤ (w.alloc (.cells #[] 5)).heap.size := by simp; omega
    go_enter Tryd.func134, Tryd.ntmps134
    go_wp2_with (at_builtin; go_loud (refine print_append_row (w0 := w) n0 rfl _ _ 47 5 .u8 1 rfl Tryd.underlying47 inf5 (by decide) (.slice (some ⟨n0, 0, none⟩) 0 0) [] l (some ad) l.length c rfl rfl hown hrd hBel hsz hbig ?_; intro v5 w5 hown5 hB5 _ _))
    go_ret
    refine ⟨_, rfl, ?_, ?_⟩
    · rw [HN.out]; simpa using hown5
    · rw [HN.out]; exact hB5
theorem own_form {w : World} {base : Nat} {e : TypeId} {v : Value} {n : Nat} {xs : List Value} (h : w.ownsRow base e 1 v n xs) : ∃ A c, v = .slice A n c ∧ n ≤ c := by
  rcases h.2 with ⟨rfl, rfl⟩ | ⟨g, cap, cur, rfl, _, _, hc, _⟩
  · exact ⟨_, _, rfl, Nat.le_refl _⟩
  · exact ⟨_, _, rfl, hc⟩
theorem len8_at (n : Nat) : len8 n = [((n / 2 ^ 56 % 256 : Nat) : Int), ((n / 2 ^ 48 % 256 : Nat) : Int), ((n / 2 ^ 40 % 256 : Nat) : Int), ((n / 2 ^ 32 % 256 : Nat) : Int), ((n / 2 ^ 24 % 256 : Nat) : Int), ((n / 2 ^ 16 % 256 : Nat) : Int), ((n / 2 ^ 8 % 256 : Nat) : Int), ((n / 2 ^ 0 % 256 : Nat) : Int)] := by
  simp [len8]
theorem tail_test (many : Nat) (hm : many < 1152921504606846976) (i : Nat) : (IntKind.u8.wrap ((IntKind.u64.wrap (IntKind.u64.wrap (many : Int) * 8)) / 2 ^ i) : Int) = ((8 * many / 2 ^ i % 256 : Nat) : Int) := by
  have h1 : IntKind.u64.wrap (IntKind.u64.wrap (many : Int) * 8) = ((8 * many : Nat) : Int) := by rw [IntKind.wrap_u64, IntKind.wrap_u64]; omega
  have e : (2 : Int) ^ i = ((2 ^ i : Nat) : Int) := by norm_cast
  rw [h1, IntKind.wrap_u8, e, ← Int.natCast_ediv]
  generalize 8 * many / 2 ^ i = z
  omega
theorem own_form2 {w : World} {base : Nat} {e : TypeId} {v : Value} {n : Nat} {xs : List Value} (h : w.ownsRow base e 1 v n xs) (hn : 0 < n) : ∃ g c, v = .slice (some ⟨g, 0, none⟩) n c ∧ n ≤ c := by
  rcases h.2 with ⟨rfl, rfl⟩ | ⟨g, cap, cur, rfl, _, _, hc, _⟩
  · exact absurd hn (Nat.lt_irrefl 0)
  · exact ⟨_, _, rfl, hc⟩
set_option maxRecDepth 100000 in
set_option maxHeartbeats 4000000 in
theorem tail_calls (A : Option Addr) (c : Nat) (r : List Int) (many : Nat) (w : World) (hr : ReadsInt w .u8 A r.length r) (hl : r.length ≤ 1099511627776) (hc : r.length ≤ c) (hm : many < 1152921504606846976) :
    Calls Tryd.prog 135 #[.slice A r.length c, .int .i64 many, .int .i64 64] w fun e w' => ∃ v', e = .returned v' ∧ OwnB w' w.heap.size v' (tailN r many) ∧ Below w.heap.size w w' := by
  have kC := CloneB_calls A c r w hr hl hc
  clear hr hc
  obtain ⟨n0, hn0⟩ : ∃ n0, w.heap.size = n0 := ⟨_, rfl⟩
  rw [hn0] at kC ⊢
  have HN := Lib.hid (Nat.le_of_eq hn0.symm)
  clear hn0
  have HL := Lib.hid hl
  obtain ⟨M, hMM⟩ : ∃ M, M = 8 * many := ⟨_, rfl⟩
  have hW : IntKind.u64.wrap (IntKind.u64.wrap (many : Int) * 8) = (M : Int) := by rw [IntKind.wrap_u64, IntKind.wrap_u64]; omega
  have HMM := Lib.hid hMM
  clear hl hm hMM
  go_enter Tryd.func135, Tryd.ntmps135
  go_wp2_with (first
    | (go_at_call 134; with_reducible refine kC.mono ?_; rintro e w1 ⟨v1, rfl, hown1, hB1⟩)
    | (at_builtin; go_loud (refine print_append_num (w0 := w) n0 rfl _ _ 47 5 .u8 1 rfl Tryd.underlying47 inf5 (by decide) v1 r 128 rfl rfl hown1 hB1 (Nat.le_trans HN.out hB1.size) (by have := HL.out; omega) ?_; intro v5 w5 hown5 hB5 _ _)))
  clear kC hB1 hown1
  have H5 := Lib.hid hown5
  have HB5 := Lib.hid hB5
  clear hown5 hB5
  go_loopw [7] (fun v7 wr => ∃ (j len : Nat), Hid (len = r.length + 1 + j) ∧ wr.ownsRow n0 5 1 v7 len (nums .u8 (r ++ 128 :: List.replicate j 0)) ∧ j ≤ zc r.length ∧ Below n0 w wr) (fun v7 _ => match v7 with | .slice _ n _ => r.length + 100 - n | _ => 0)
  case atStart => exact ⟨0, _, Lib.hid (by simp), H5.out, by omega, HB5.out⟩
  case round =>
    obtain ⟨j, len, HLen, hown, hj, hB⟩ := hrel
    obtain ⟨g7, c7, rfl, hc7⟩ := own_form2 hown (by have := HLen.out; omega)
    have hzc : zc r.length < 64 := by unfold zc; omega
    have hll := HLen.out
    have hl := HL.out
    by_cases hlt : j < zc r.length
    · have hd : ((len : Int) % 64 != 56) = true := by
        rw [bne_iff_ne]; unfold zc at hlt; omega
      have hlen1 : (len + 1) * 1 ≤ 140737488355328 := by omega
      have hX : (r ++ 128 :: List.replicate j (0 : Int)).length = len := by simp; omega
      have hown' : OwnB wr n0 (.slice (some ⟨g7, 0, none⟩) len c7) (r ++ 128 :: List.replicate j 0) := by unfold OwnB; rw [hX]; exact hown
      have hlenX : ((r ++ 128 :: List.replicate j (0 : Int)).length + 1) * 1 ≤ 140737488355328 := by rw [hX]; exact hlen1
      have hbs := hB.size
      have hns := HN.out
      have hns2 : n0 ≤ wr.heap.size := Nat.le_trans hns hbs
      have hlb : len < 1099511627900 := by omega
      clear hll hl hzc hown hlen1 hX hbs hns
      go_wp2_with (at_builtin; go_loud (refine print_append_num (w0 := w) n0 rfl _ _ 47 5 .u8 1 rfl Tryd.underlying47 inf5 (by decide) (.slice (some ⟨g7, 0, none⟩) len c7) (r ++ 128 :: List.replicate j 0) 0 rfl rfl hown' hB hns2 hlenX ?_; intro v6 w6 hown6 hB6 _ _))
      have e1 : r ++ 128 :: List.replicate j (0 : Int) ++ [0] = r ++ 128 :: List.replicate (j + 1) 0 := by simp [List.replicate_succ']
      rw [e1] at hown6
      have e2 : (r ++ 128 :: List.replicate (j + 1) (0 : Int)).length = len + 1 := by have := HLen.out; simp; omega
      rw [e2] at hown6
      obtain ⟨A8, c8, rfl, _⟩ := own_form hown6
      exact ⟨⟨j + 1, len + 1, Lib.hid (by have := HLen.out; omega), hown6, by omega, hB6⟩, by have := HLen.out; have hz : zc r.length < 64 := (by unfold zc; omega); simp only []; omega⟩
    · have hd : ((len : Int) % 64 != 56) = false := by
        rw [bne_eq_false_iff_eq]; unfold zc at hlt hj; omega
      have hjz : j = zc r.length := by omega
      subst hjz
      have kZ := fun w => run_append_none (some ⟨g7, 0, none⟩) len c7 hc7 (by omega) 47 w
      have hlb : len < 1099511627900 := by omega
      have HOwn := Lib.hid hown
      have HBq := Lib.hid hB
      clear hll hl hzc hown hB hj hlt
      go_wp2
      go_loopw [7, 8] (fun v7 v8 wr => ∃ (k len2 : Nat), Hid (len2 = len + k) ∧ v8 = .int .i64 (56 - 8 * (k : Int)) ∧ wr.ownsRow n0 5 1 v7 len2 (nums .u8 (r ++ 128 :: List.replicate (zc r.length) 0 ++ (len8 M).take k)) ∧ k ≤ 8 ∧ Below n0 w wr) (fun _ v8 _ => (intOf v8 + 8).toNat)
      case atStart => exact ⟨0, len, Lib.hid rfl, rfl, by simpa using HOwn.out, by omega, HBq.out⟩
      case round =>
        clear HOwn HBq kZ
        obtain ⟨k, len2, HLen2, rfl, hown, hk, hB⟩ := hrel
        obtain ⟨g9, c9, rfl, hc9⟩ := own_form2 hown (by have := HLen.out; have := HLen2.out; omega)
        by_cases hlt : k < 8
        · have hX : (r ++ 128 :: List.replicate (zc r.length) 0 ++ (len8 M).take k).length = len2 := by
            have h1 := HLen.out
            have h2 := HLen2.out
            have h3 : (len8 M).length = 8 := rfl
            simp only [List.length_append, List.length_cons, List.length_replicate, List.length_take, h3]; omega
          have hown' : OwnB wr n0 (.slice (some ⟨g9, 0, none⟩) len2 c9) (r ++ 128 :: List.replicate (zc r.length) 0 ++ (len8 M).take k) := by unfold OwnB; rw [hX]; exact hown
          have hlenX : ((r ++ 128 :: List.replicate (zc r.length) 0 ++ (len8 M).take k).length + 1) * 1 ≤ 140737488355328 := by rw [hX]; have := HLen2.out; omega
          have hns2 : n0 ≤ wr.heap.size := Nat.le_trans HN.out hB.size
          have HX := Lib.hid hX
          clear hown hX
          have hcase : k = 0 ∨ k = 1 ∨ k = 2 ∨ k = 3 ∨ k = 4 ∨ k = 5 ∨ k = 6 ∨ k = 7 := by omega
          rcases hcase with rfl | rfl | rfl | rfl | rfl | rfl | rfl | rfl
          · go_wp2_with (at_builtin; go_loud (refine print_append_num (w0 := w) n0 rfl _ _ 47 5 .u8 1 rfl Tryd.underlying47 inf5 (by decide) (.slice (some ⟨g9, 0, none⟩) len2 c9) (r ++ 128 :: List.replicate (zc r.length) 0 ++ (len8 M).take 0) _ rfl rfl hown' hB hns2 hlenX ?_; intro v6 w6 hown6 hB6 _ _))
            have eT : (len8 M).take (0 + 1) = (len8 M).take 0 ++ [(M : Int) / 72057594037927936 % 256] := by simp [len8]
            rw [List.append_assoc, ← eT] at hown6
            have e2 : (r ++ 128 :: List.replicate (zc r.length) 0 ++ (len8 M).take (0 + 1)).length = len2 + 1 := by
              rw [eT, ← List.append_assoc, List.length_append, HX.out]; rfl
            rw [e2] at hown6
            exact ⟨⟨0 + 1, len2 + 1, Lib.hid (by have := HLen2.out; omega), rfl, hown6, by decide, hB6⟩, by simp only [intOf]; decide⟩
          · go_wp2_with (at_builtin; go_loud (refine print_append_num (w0 := w) n0 rfl _ _ 47 5 .u8 1 rfl Tryd.underlying47 inf5 (by decide) (.slice (some ⟨g9, 0, none⟩) len2 c9) (r ++ 128 :: List.replicate (zc r.length) 0 ++ (len8 M).take 1) _ rfl rfl hown' hB hns2 hlenX ?_; intro v6 w6 hown6 hB6 _ _))
            have eT : (len8 M).take (1 + 1) = (len8 M).take 1 ++ [(M : Int) / 281474976710656 % 256] := by simp [len8]
            rw [List.append_assoc, ← eT] at hown6
            have e2 : (r ++ 128 :: List.replicate (zc r.length) 0 ++ (len8 M).take (1 + 1)).length = len2 + 1 := by
              rw [eT, ← List.append_assoc, List.length_append, HX.out]; rfl
            rw [e2] at hown6
            exact ⟨⟨1 + 1, len2 + 1, Lib.hid (by have := HLen2.out; omega), rfl, hown6, by decide, hB6⟩, by simp only [intOf]; decide⟩
          · go_wp2_with (at_builtin; go_loud (refine print_append_num (w0 := w) n0 rfl _ _ 47 5 .u8 1 rfl Tryd.underlying47 inf5 (by decide) (.slice (some ⟨g9, 0, none⟩) len2 c9) (r ++ 128 :: List.replicate (zc r.length) 0 ++ (len8 M).take 2) _ rfl rfl hown' hB hns2 hlenX ?_; intro v6 w6 hown6 hB6 _ _))
            have eT : (len8 M).take (2 + 1) = (len8 M).take 2 ++ [(M : Int) / 1099511627776 % 256] := by simp [len8]
            rw [List.append_assoc, ← eT] at hown6
            have e2 : (r ++ 128 :: List.replicate (zc r.length) 0 ++ (len8 M).take (2 + 1)).length = len2 + 1 := by
              rw [eT, ← List.append_assoc, List.length_append, HX.out]; rfl
            rw [e2] at hown6
            exact ⟨⟨2 + 1, len2 + 1, Lib.hid (by have := HLen2.out; omega), rfl, hown6, by decide, hB6⟩, by simp only [intOf]; decide⟩
          · go_wp2_with (at_builtin; go_loud (refine print_append_num (w0 := w) n0 rfl _ _ 47 5 .u8 1 rfl Tryd.underlying47 inf5 (by decide) (.slice (some ⟨g9, 0, none⟩) len2 c9) (r ++ 128 :: List.replicate (zc r.length) 0 ++ (len8 M).take 3) _ rfl rfl hown' hB hns2 hlenX ?_; intro v6 w6 hown6 hB6 _ _))
            have eT : (len8 M).take (3 + 1) = (len8 M).take 3 ++ [(M : Int) / 4294967296 % 256] := by simp [len8]
            rw [List.append_assoc, ← eT] at hown6
            have e2 : (r ++ 128 :: List.replicate (zc r.length) 0 ++ (len8 M).take (3 + 1)).length = len2 + 1 := by
              rw [eT, ← List.append_assoc, List.length_append, HX.out]; rfl
            rw [e2] at hown6
            exact ⟨⟨3 + 1, len2 + 1, Lib.hid (by have := HLen2.out; omega), rfl, hown6, by decide, hB6⟩, by simp only [intOf]; decide⟩
          · go_wp2_with (at_builtin; go_loud (refine print_append_num (w0 := w) n0 rfl _ _ 47 5 .u8 1 rfl Tryd.underlying47 inf5 (by decide) (.slice (some ⟨g9, 0, none⟩) len2 c9) (r ++ 128 :: List.replicate (zc r.length) 0 ++ (len8 M).take 4) _ rfl rfl hown' hB hns2 hlenX ?_; intro v6 w6 hown6 hB6 _ _))
            have eT : (len8 M).take (4 + 1) = (len8 M).take 4 ++ [(M : Int) / 16777216 % 256] := by simp [len8]
            rw [List.append_assoc, ← eT] at hown6
            have e2 : (r ++ 128 :: List.replicate (zc r.length) 0 ++ (len8 M).take (4 + 1)).length = len2 + 1 := by
              rw [eT, ← List.append_assoc, List.length_append, HX.out]; rfl
            rw [e2] at hown6
            exact ⟨⟨4 + 1, len2 + 1, Lib.hid (by have := HLen2.out; omega), rfl, hown6, by decide, hB6⟩, by simp only [intOf]; decide⟩
          · go_wp2_with (at_builtin; go_loud (refine print_append_num (w0 := w) n0 rfl _ _ 47 5 .u8 1 rfl Tryd.underlying47 inf5 (by decide) (.slice (some ⟨g9, 0, none⟩) len2 c9) (r ++ 128 :: List.replicate (zc r.length) 0 ++ (len8 M).take 5) _ rfl rfl hown' hB hns2 hlenX ?_; intro v6 w6 hown6 hB6 _ _))
            have eT : (len8 M).take (5 + 1) = (len8 M).take 5 ++ [(M : Int) / 65536 % 256] := by simp [len8]
            rw [List.append_assoc, ← eT] at hown6
            have e2 : (r ++ 128 :: List.replicate (zc r.length) 0 ++ (len8 M).take (5 + 1)).length = len2 + 1 := by
              rw [eT, ← List.append_assoc, List.length_append, HX.out]; rfl
            rw [e2] at hown6
            exact ⟨⟨5 + 1, len2 + 1, Lib.hid (by have := HLen2.out; omega), rfl, hown6, by decide, hB6⟩, by simp only [intOf]; decide⟩
          · go_wp2_with (at_builtin; go_loud (refine print_append_num (w0 := w) n0 rfl _ _ 47 5 .u8 1 rfl Tryd.underlying47 inf5 (by decide) (.slice (some ⟨g9, 0, none⟩) len2 c9) (r ++ 128 :: List.replicate (zc r.length) 0 ++ (len8 M).take 6) _ rfl rfl hown' hB hns2 hlenX ?_; intro v6 w6 hown6 hB6 _ _))
            have eT : (len8 M).take (6 + 1) = (len8 M).take 6 ++ [(M : Int) / 256 % 256] := by simp [len8]
            rw [List.append_assoc, ← eT] at hown6
            have e2 : (r ++ 128 :: List.replicate (zc r.length) 0 ++ (len8 M).take (6 + 1)).length = len2 + 1 := by
              rw [eT, ← List.append_assoc, List.length_append, HX.out]; rfl
            rw [e2] at hown6
            exact ⟨⟨6 + 1, len2 + 1, Lib.hid (by have := HLen2.out; omega), rfl, hown6, by decide, hB6⟩, by simp only [intOf]; decide⟩
          · go_wp2_with (at_builtin; go_loud (refine print_append_num (w0 := w) n0 rfl _ _ 47 5 .u8 1 rfl Tryd.underlying47 inf5 (by decide) (.slice (some ⟨g9, 0, none⟩) len2 c9) (r ++ 128 :: List.replicate (zc r.length) 0 ++ (len8 M).take 7) _ rfl rfl hown' hB hns2 hlenX ?_; intro v6 w6 hown6 hB6 _ _))
            have eT : (len8 M).take (7 + 1) = (len8 M).take 7 ++ [(M : Int) % 256] := by simp [len8]
            rw [List.append_assoc, ← eT] at hown6
            have e2 : (r ++ 128 :: List.replicate (zc r.length) 0 ++ (len8 M).take (7 + 1)).length = len2 + 1 := by
              rw [eT, ← List.append_assoc, List.length_append, HX.out]; rfl
            rw [e2] at hown6
            exact ⟨⟨7 + 1, len2 + 1, Lib.hid (by have := HLen2.out; omega), rfl, hown6, by decide, hB6⟩, by simp only [intOf]; decide⟩
        · have hk8 : k = 8 := by omega
          subst hk8
          have HOw := Lib.hid hown
          have HBq := Lib.hid hB
          have eX : r ++ 128 :: List.replicate (zc r.length) 0 ++ (len8 M).take 8 = tailN r many := by
            unfold tailN
            rw [← HMM.out, List.take_of_length_le (by simp [len8])]
            simp
          have eL : len2 = (tailN r many).length := by
            have h1 := HLen.out
            have h2 := HLen2.out
            rw [tailN_length]; omega
          have HE := Lib.hid eX
          have HEL := Lib.hid eL
          clear hown hB eX eL
          go_wp2
          go_ret
          refine ⟨_, rfl, ?_, HBq.out⟩
          have ho := HOw.out
          rw [HE.out, HEL.out] at ho
          rw [HEL.out]
          exact ho
end Go.Proofs.YtoeibcdnhglobaaDoor.P
