/- pantilelaw15.NodesParts: the walk. -/
import Derived.Test.YtoeibcdnhglobaaDoorGNJ
namespace Go.Proofs.YtoeibcdnhglobaaDoor.P
set_option linter.unusedVariables false
set_option linter.unusedSimpArgs false
open Go.RowKit Go.Shelf Go.Proofs.YtoeibcdnhglobaaDoorW.PrintWords Go.Proofs.YtoeibcdnhglobaaDoorW.PrintLast Go.Proofs.YtoeibcdnhglobaaDoorW.PrintMore
open Go.Proofs.YtoeibcdnhglobaaDoor.Pure

section
variable {P : Program} {ops : Array Oper} {rest : List Oper} {o : Oper} {a : Act} {Q : Exit → Act → World → Prop}
/-- append(v, ys...) at elements of several cells. -/
theorem append_cells_row {w0 W : World} (base : Nat) (hgd : o.guard = none) (s x : Operand) (t e : TypeId) (z : Value) (size bytes : Nat)
    (ho : o.op = .call { callee := .builtin .append, args := #[s, x], argTypes := #[t, t] })
    (ht : P.underlying t = some (.slice e)) (hinfo : (P.info? e).map (fun i => (i.zero, i.size, i.bytes)) = some (some z, size, bytes)) (hz : z.cells.size = size) (hs0 : 0 < size) (hb0 : 0 < bytes)
    (v : Value) (n : Nat) (xs ys : List Value) (A : Option Addr) (m c : Nat) (hs : a.eval s = v) (hx : a.eval x = .slice A m c) (hys : ys.length = m * size) (h1 : ∀ u ∈ ys, u.oneCell' = true)
    (HO : W.ownsRow base e size v n xs) (HR : m = 0 ∨ ∃ ad, A = some ad ∧ ∀ j u, ys[j]? = some u → W.cell? (ad.add j) = some u) (HB : Below base w0 W) (hbase : base ≤ W.heap.size) (hl : (n + m) * bytes ≤ 140737488355328)
    (h : ∀ v1 w1, w1.ownsRow base e size v1 (n + m) (xs ++ ys) → Below base w0 w1 → W.grownBy w1 v.ownBlock → wpList P ops Q rest (a.put o.dst v1) w1) :
    wpList P ops Q (o :: rest) a W := by
  obtain ⟨i0, hi, hzz⟩ := Option.map_eq_some_iff.1 hinfo
  simp only [Prod.mk.injEq] at hzz
  obtain ⟨hz0, hz1, hz2⟩ := hzz
  have hlen : n + m ≤ 140737488355328 := Nat.le_trans (Nat.le_mul_of_pos_right _ hb0) hl
  have hrun : ∃ v1 w1, (Builtin.append_ #[t, t] o.type #[v, .slice A m c]).run P W = .ok v1 w1 ∧ w1.ownsRow base e size v1 (n + m) (xs ++ ys) ∧ W.grownBy w1 v.ownBlock := by
    rcases A with _ | ad
    · have h0 : m = 0 := by
        rcases HR with h0 | ⟨ad, h, _⟩
        · exact h0
        · cases h
      subst h0
      obtain rfl : ys = [] := List.eq_nil_of_length_eq_zero (by omega)
      refine ⟨v, W, ?_, by simpa using HO, World.grownBy.refl W _⟩
      rcases HO.2 with ⟨rfl, hn⟩ | ⟨g, cap, cur, rfl, _, _, hnc, _⟩
      · simp [Builtin.append_, run_underlying ht, sizeOf, typeInfo, hi, Builtin.lenOf, Builtin.firstCells]
      · simp [Builtin.append_, run_underlying ht, sizeOf, typeInfo, hi, Builtin.lenOf, Builtin.firstCells, hnc, storeCells]
    · have hcells : ∀ j u, ys[j]? = some u → W.cell? (ad.add j) = some u := by
        rcases HR with h0 | ⟨ad', h', hc⟩
        · subst h0
          obtain rfl : ys = [] := List.eq_nil_of_length_eq_zero (by omega)
          intro j u hu
          simp at hu
        · injection h' with h'
          subst h'
          exact hc
      obtain ⟨v1, w1, hr, h2, h3, _, _⟩ := run_append_own_at (P := P) W base t o.type e i0 z size bytes ht hi hz0 hz1 hz2 hz hs0 v n xs HO ad m c ys hys hcells h1 (by simp only [maxLen]; omega) hl hbase
      exact ⟨v1, w1, hr, h2, h3⟩
  obtain ⟨v1, w1, hr, hown, hg⟩ := hrun
  refine wpList_plain hgd fun K hK => ?_
  unfold Oper.wp execOp
  simp only [ho, resolve, invoke, builtin, Sem.run_bind, Sem.run_pure, Result.andThen_ok, List.map_toArray, List.map_cons, List.map_nil, hs, hx, hr]
  exact hK _ _ (h v1 w1 hown (HB.grown hg hbase (own_base HO)) hg)
end
theorem cells81_app (l m : List (ByteArray × ByteArray)) : cells81 (l ++ m) = cells81 l ++ cells81 m := by simp [cells81]
theorem cells81_len : ∀ l : List (ByteArray × ByteArray), (cells81 l).length = l.length * 3
  | [] => rfl
  | p :: l => by
    show (cells81 l).length + 3 = _
    rw [cells81_len l, List.length_cons]
    omega
theorem cells81_one (l : List (ByteArray × ByteArray)) : ∀ u ∈ cells81 l, u.oneCell' = true := by
  intro u hu
  obtain ⟨p, _, hp⟩ := List.mem_flatMap.1 hu
  simp only [List.mem_cons, List.not_mem_nil, or_false] at hp
  rcases hp with rfl | rfl | rfl <;> rfl
/-- What a row of entries reads as, cell by cell. -/
theorem ent_cells {w : World} {base k : Nat} {A : Option Addr} {l : List (ByteArray × ByteArray)} (ho : w.ownsRow base 131 3 (.slice A l.length k) l.length (cells81 l)) :
    l.length = 0 ∨ ∃ ad, A = some ad ∧ ∀ j u, (cells81 l)[j]? = some u → w.cell? (ad.add j) = some u := by
  rcases Nat.eq_zero_or_pos l.length with h | h
  · exact .inl h
  · obtain ⟨g, cp, he, _⟩ := World.ownsRow.form ho h
    simp only [Value.slice.injEq] at he
    obtain ⟨rfl, _, _⟩ := he
    refine .inr ⟨_, rfl, fun j u hu => ?_⟩
    have hj : j < l.length * 3 := by
      rw [← cells81_len]
      rcases Nat.lt_or_ge j (cells81 l).length with h | h
      · exact h
      · rw [List.getElem?_eq_none h] at hu; cases hu
    rw [add_plain, World.ownsRow.cellAt ho j hj, hu]
set_option maxRecDepth 100000 in
set_option maxHeartbeats 8000000 in
theorem NodesParts_calls (A : Option Addr) (c : Nat) (ps : List Part) (n : Int) (w : World) (h : Leaves w A ps) (hT : PowTab w) (hG : GlobH w) (hn0 : -9223372036854775808 ≤ n) (hn1 : n ≤ 9223372036854775807) :
    Calls Tryd.prog 19 #[.slice A ps.length c, .int .i64 n] w fun e w' => e = .returned (.bool true) ∧ Below w.heap.size w w' := by
  have kH : Calls Tryd.prog 46 #[.slice A ps.length c, .int .i64 24] w _ := hashes_of A c ps 24 (by omega) w h
  have hlen := hash10_len ps 24
  have hsz := hash10_sz ps 24
  generalize hash10 ps 24 = L at *
  have hN40 : L.length ≤ 40 := by omega
  have hNb : (L.length : Int) ≤ 24 := by omega
  have g1 : (1 : Int) ≤ (L.length : Int) + 1 := by omega
  obtain ⟨r, hr, hcs⟩ := brought n L.length
  have kT := take_at L r hr
  have kD := drop_at L r hr
  have kP := peaks_at L r hr hN40 hsz
  have kL := fun (W : World) (hW : Below w.heap.size w W) => lives15_calls W (hT.below hW) (hG.below hW)
  have hrI : (r : Int) ≤ 24 := by omega
  have hrL : (r : Int) ≤ (L.length : Int) := by omega
  have hl : (L.take r).length = r := by rw [List.length_take]; omega
  have hst : ∀ s ∈ L.take r, s.size ≤ 32 := fun s hm => hsz s (List.mem_of_mem_take hm)
  have kG2 := fun A1 A2 c1 c2 (W : World) (hW : Below w.heap.size w W) hp hR => grow_at L r hr hN40 hsz A1 A2 c1 c2 W hp hR (hT.below hW) (hG.below hW)
  have kG0 : ∀ (A2 : Option Addr) (c2 : Nat) (W : World) (hW : Below w.heap.size w W) (hR : ReadsOf Value.string ByteArray.empty W A2 L.length L), Calls Tryd.prog 66 #[.int .i64 0, .slice none 0 0, .slice A2 L.length c2] W _ := fun A2 c2 W hW hR => grow_at L 0 (Nat.zero_le _) hN40 hsz none A2 0 c2 W (.inl ⟨rfl, rfl⟩) hR (hT.below hW) (hG.below hW)
  have kG1 : ∀ (A2 : Option Addr) (c2 : Nat) (W : World) (hW : Below w.heap.size w W) (hR : ReadsOf Value.string ByteArray.empty W A2 (L.take r).length (L.take r)), Calls Tryd.prog 66 #[.int .i64 0, .slice none 0 0, .slice A2 (L.take r).length c2] W _ := fun A2 c2 W hW hR => grow_at (L.take r) 0 (Nat.zero_le _) (by omega) hst none A2 0 c2 W (.inl ⟨rfl, rfl⟩) hR (hT.below hW) (hG.below hW)
  have hgp := grown_parts L r hr
  simp only [Nat.sub_zero] at kG0 kG1
  rw [hl] at kG1
  simp only [hl, pkN_take L r (by omega)] at kG1
  have hg0 := grownL_len L 0 L.length
  have hg1 := grownL_len (L.take r) 0 r
  have hg2 := grownL_len L r (L.length - r)
  have hRT : ∀ (A : Option Addr) (W : World), ReadsOf Value.string ByteArray.empty W A L.length L → ReadsOf Value.string ByteArray.empty W A r (L.take r) := fun A W h => h.take_ r hr
  have kS := fun (A0 A1 : Option Addr) (c0 c1 : Nat) (W : World) h0 h1 => Same15_calls A0 A1 c0 c1 (grownL L 0 L.length) (by omega) W h0 h1
  have kE := fun (A0 A1 : Option Addr) (c0 c1 : Nat) (W : World) h0 h1 => Same_calls A0 A1 c0 c1 (pkN L L.length) W h0 h1
  have hb1' : (0 + (grownL (L.take r) 0 r).length) * 40 ≤ 140737488355328 := by omega
  have hb2' : (0 + (grownL (L.take r) 0 r).length + (grownL L r (L.length - r)).length) * 40 ≤ 140737488355328 := by omega
  clear hg0 hg1 hg2 kP hlen h hT hG hsz hst hN40 hr hl
  generalize grownL (L.take r) 0 r = G1 at *
  generalize grownL L r (L.length - r) = G2 at *
  generalize grownL L 0 L.length = G0 at *
  generalize pkN L L.length = P at *
  generalize pkN L r = T at *
  generalize L.drop r = D at *
  generalize L.take r = E at *
  have hG12 : G0.length = 0 + G1.length + G2.length := by rw [← hgp, List.length_append, Nat.zero_add]
  have hGc : [] ++ cells81 G1 ++ cells81 G2 = cells81 G0 := by rw [← hgp, cells81_app, List.nil_append]
  clear hgp
  have HGc := Lib.hid hGc
  have HG12 := Lib.hid hG12
  clear hGc hG12
  rcases hcs with ⟨d1, g3, hre⟩ | ⟨d1, g3, hre⟩
  all_goals
    go_enter Tryd.func19, Tryd.ntmps19
    go_wp2_with (first
      | (go_at_call 46; go_loud (with_reducible refine kH.mono ?_; rintro e w1 ⟨A1, c1, rfl, hc1, _, hr1, hb1⟩; have hcutT := kT A1 c1 hc1; obtain ⟨A', hcutD, hD⟩ := kD A1 c1 hc1; clear kT kD kH))
      | (go_at_call 66; go_loud (first
        | (with_reducible refine (kG0 _ _ _ hb1 hr1).mono ?_; rintro e w2 ⟨B1, k1, B2, k2, rfl, hE2, hP2, hb2⟩; have hr2 := hr1.below hb2; have hB2 := hb1.trans (hb2.mono hb1.size); have hF2 := EntRow.of_own hE2; have hQ2 := own_reads_of' (d := ByteArray.empty) hP2; clear kG0 hr1 hE2 hP2)
        | (with_reducible refine (kG1 _ _ _ hB2 (hRT _ _ hr2)).mono ?_; rintro e w3 ⟨B3, k3, B4, k4, rfl, hE3, hT3, hb3⟩; have hr3 := hr2.below hb3; have hB3 := hB2.trans (hb3.mono hB2.size); have hF3 := hF2.below hb3; have hQ3 := hQ2.below hb3; clear kG1 hr2 hF2 hQ2 hb2)
        | (with_reducible refine (kG2 _ _ _ _ _ hB3 (StrRow.of_own hT3) (hD _ hr3)).mono ?_; rintro e w4 ⟨B5, k5, B6, k6, rfl, hE4, hP4, hb4⟩; have hB4 := hB3.trans (hb4.mono hB3.size); have hF4 := hF3.below hb4; have hQ4 := hQ3.below hb4; have hE34 := pw_own_below hE3 hb4; have hR4 := own_reads_of' (d := ByteArray.empty) hP4; clear kG2 hr3 hF3 hQ3 hE3 hT3 hP4)))
      | (at_builtin; go_loud (first
        | (refine append_cells_row (w0 := w4) w4.heap.size rfl _ _ 81 131 (.agg #[.string ⟨#[]⟩, .string ⟨#[]⟩, .bool false]) 3 40 rfl Tryd.underlying81 inf131 rfl (by decide) (by decide) (.slice none 0 0) 0 [] (cells81 G1) B3 G1.length k3 rfl rfl (cells81_len G1) (cells81_one G1) (own_nil _ _ _ _) (ent_cells hE34) (Below.refl _ _) (Nat.le_refl _) hb1' ?_; intro v5 w5 hown5 hb5 _; have hc5 := ent_cells (pw_own_below hE4 hb5); clear hE34 hE4)
        | (refine append_cells_row (w0 := w4) w4.heap.size rfl _ _ 81 131 (.agg #[.string ⟨#[]⟩, .string ⟨#[]⟩, .bool false]) 3 40 rfl Tryd.underlying81 inf131 rfl (by decide) (by decide) v5 (0 + G1.length) ([] ++ cells81 G1) (cells81 G2) B5 G2.length k5 rfl rfl (cells81_len G2) (cells81_one G2) hown5 hc5 hb5 hb5.size hb2' ?_; intro v6 w6 hown6 hb6 _; rw [HGc.out, ← HG12.out] at hown6; obtain ⟨B7, k7, rfl⟩ := own_slice hown6; have hF6 := hF4.below hb6; have hQ6 := hQ4.below hb6; have hR6 := hR4.below hb6; have hB6 := hB4.trans (hb6.mono hB4.size); clear hown5 hc5 hb5 hF4 hQ4 hR4)))
      | (go_at_call 67; go_loud (with_reducible refine (kS _ _ _ _ _ (EntRow.of_own hown6) hF6).mono ?_; rintro e w7 ⟨rfl, hb7⟩; have hQ7 := hQ6.below hb7; have hR7 := hR6.below hb7; have hB7 := hB6.trans (hb7.mono hB6.size); clear kS hown6 hF6 hQ6 hR6))
      | (go_at_call 34; go_loud (with_reducible refine (kE _ _ _ _ _ hR7 hQ7).mono ?_; rintro e w8 ⟨rfl, hb8⟩; have hB8 := hB7.trans (hb8.mono hB7.size); clear kE hR7 hQ7))
      | (go_at_call 69; go_loud (with_reducible refine (kL _ hB8).mono ?_; rintro e w9 ⟨rfl, hb9⟩)))
    go_ret
    exact ⟨rfl, hB8.trans (hb9.mono hB8.size)⟩
end Go.Proofs.YtoeibcdnhglobaaDoor.P
