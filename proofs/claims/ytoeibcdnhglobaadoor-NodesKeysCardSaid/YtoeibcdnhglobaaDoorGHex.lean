/- b64.Hex, pantileref05.Hex: bytes as a text of hexadecimal digits. -/
import Derived.Test.YtoeibcdnhglobaaDoorGKey
namespace Go.Proofs.YtoeibcdnhglobaaDoor.P
set_option linter.unusedVariables false
set_option linter.unusedSimpArgs false
open Go.RowKit Go.Shelf Go.Proofs.YtoeibcdnhglobaaDoorW.PrintWords Go.Proofs.YtoeibcdnhglobaaDoorW.PrintLast Go.Proofs.YtoeibcdnhglobaaDoorW.PrintMore
open Go.Proofs.YtoeibcdnhglobaaDoor.Pure

/-- A digit. -/
def dg (d : Nat) : Int := if d < 10 then 48 + d else 87 + d
def hexd (x : Int) : List Int := [dg (x.toNat / 16), dg (x.toNat % 16)]
def hexL (l : List Int) : List Int := l.flatMap hexd
theorem hexL_take (l : List Int) (i : Nat) (h : i < l.length) : hexL (l.take i) ++ hexd l[i] = hexL (l.take (i + 1)) := by
  rw [List.take_succ_eq_append_getElem h]
  unfold hexL
  rw [List.flatMap_append]
  simp only [List.flatMap_cons, List.flatMap_nil, List.append_nil]
theorem hexL_len (l : List Int) : (hexL l).length = 2 * l.length := by
  induction l with
  | nil => rfl
  | cons x r ih =>
    show (hexd x ++ hexL r).length = _
    rw [List.length_append, ih, List.length_cons]
    show 2 + _ = _
    omega
theorem hexAt_all : ∀ d : Fin 16, ((((⟨#[48, 49, 50, 51, 52, 53, 54, 55, 56, 57, 97, 98, 99, 100, 101, 102]⟩ : ByteArray)[d.val]'(by exact d.isLt)).toNat : Nat) : Int) = dg d.val := by decide +kernel
theorem hexAt (z : Int) (h0 : 0 ≤ z) (h1 : z < 16) (pf : z.toNat < (⟨#[48, 49, 50, 51, 52, 53, 54, 55, 56, 57, 97, 98, 99, 100, 101, 102]⟩ : ByteArray).size) : ((((⟨#[48, 49, 50, 51, 52, 53, 54, 55, 56, 57, 97, 98, 99, 100, 101, 102]⟩ : ByteArray)[z.toNat]'pf).toNat : Nat) : Int) = dg z.toNat :=
  hexAt_all ⟨z.toNat, by omega⟩
theorem and15_all : ((List.range 256).all fun x => bits .and .u8 (x : Int) 15 == ((x % 16 : Nat) : Int)) = true := by kernel_rfl
theorem and15 (x : Nat) (h : x < 256) : bits .and .u8 (x : Int) 15 = ((x % 16 : Nat) : Int) := beq_iff_eq.1 (List.all_eq_true.1 and15_all x (List.mem_range.2 h))
section
open Go.Proofs.YtoeibcdnhglobaaDoorW.PrintWords.Kd
variable {P : Program} {ops : Array Oper} {Q : Exit → Act → World → Prop} {o : Oper} {a : Act}
theorem step_append_nums {w0 W : World} {Kc : Act → World → Prop} (base : Nat) (hw : Region.wanted o (yielded ops a.tmps) = true) (s x : Operand) (t e : TypeId) (k : IntKind) (bytes : Nat)
    (ho : o.op = .call { callee := .builtin .append, args := #[s, x], argTypes := #[t, t] })
    (ht : P.underlying t = some (.slice e)) (hinfo : (P.info? e).map (fun i => (i.zero, i.size, i.bytes)) = some (some (.int k 0), 1, bytes)) (hb0 : 0 < bytes)
    (v : Value) (xs ys : List Int) (A : Option Addr) (m c : Nat) (hs : a.eval s = v) (hx : a.eval x = .slice A m c)
    (HO : W.ownsRow base e 1 v xs.length (nums k xs)) (HR : ReadsInt W k A m ys) (HB : Below base w0 W) (hbase : base ≤ W.heap.size) (hl : (xs.length + m) * bytes ≤ 140737488355328)
    (h : ∀ v1 w1, w1.ownsRow base e 1 v1 (xs ++ ys).length (nums k (xs ++ ys)) → Below base w0 w1 → Kc (a.put o.dst v1) w1) :
    if Region.wanted o (yielded ops a.tmps) = true then Oper.wp P o a W Kc Q else Kc (a.put o.dst undef) W := by
  refine R_append_rows_step (scalar (Value.int k) (fun _ => rfl)) (Rr := fun x cs => cs = [Value.int k x]) base hw s x t e (.int k 0) bytes ho ht hinfo rfl (Nat.one_pos) hb0 v xs ys A m c (fun _ => True) (fun _ => False) hs hx (R_of_own (h1 := fun _ => rfl) HO (fun _ _ => trivial)) ?_ (fun x cs h => h) (fun k h => h.elim) (fun _ _ => trivial) HB hbase hl (fun v1 w1 hr hb _ _ => h v1 w1 (own_of_R hr) hb)
  refine ⟨HR.1, HR.2.1, fun hp => ?_⟩
  obtain ⟨ad, e, hc⟩ := HR.2.2 hp
  refine ⟨ad, e, fun j p hj => ⟨[Value.int k p], rfl, rfl, fun i u hu => ?_⟩⟩
  obtain ⟨hjl, hjp⟩ := List.getElem?_eq_some_iff.1 hj
  have hi : i = 0 := by
    rcases i with _ | i
    · rfl
    · simp at hu
  subst hi
  have hlen := HR.1
  have := hc j (by omega)
  show W.cell? (ad.add (j * 1 + 0)) = some u
  rw [Nat.mul_one, Nat.add_zero, this]
  simp [List.getD_eq_getElem?_getD, hj] at hu ⊢
  exact hu
end
set_option maxRecDepth 100000 in
set_option maxHeartbeats 4000000 in
theorem Hex_calls (A : Option Addr) (c : Nat) (l : List Int) (w : World) (hr : ReadsInt w .u8 A l.length l) (hb : ∀ x ∈ l, 0 ≤ x ∧ x < 256) (hl : l.length ≤ 100000) :
    Calls Tryd.prog 106 #[.slice A l.length c] w fun e w' => e = .returned (.string (strOfNums (hexL l))) ∧ Below w.heap.size w w' := by
  obtain ⟨n0, hn0⟩ : ∃ n0, w.heap.size = n0 := ⟨_, rfl⟩
  have hown0 : w.ownsRow n0 5 1 (.slice none 0 0) (hexL (l.take 0)).length (nums .u8 (hexL (l.take 0))) := by simpa [hexL, nums] using own_nil w n0 5 1
  have hbl0 : Below n0 w w := hn0 ▸ Below.refl _ _
  have HR := Lib.hid hr
  have HN := Lib.hid hn0
  have HBB := Lib.hid hb
  have hlI : (l.length : Int) ≤ 100000 := by omega
  rw [hn0]
  clear hr hn0 hb
  go_enter Tryd.func106, Tryd.ntmps106
  go_wp2
  go_loopw [3, 5, 8] (fun v3 v5 v8 wr => ∃ i : Nat, v8 = .int .i64 i ∧ i ≤ l.length ∧ wr.ownsRow n0 5 1 v3 (hexL (l.take i)).length (nums .u8 (hexL (l.take i))) ∧ Below n0 w wr) (fun _ _ v8 _ => l.length - (intOf v8).toNat)
  case atStart => exact ⟨0, rfl, by omega, hown0, hbl0⟩
  case round =>
    obtain ⟨i, rfl, hi, hown, hbl⟩ := hrel
    obtain ⟨A3, c3, rfl, _⟩ := own_form hown
    by_cases hlt : i < l.length
    · have hd : decide (i < l.length) = true := decide_eq_true hlt
      obtain ⟨ad, rfl, hcell⟩ := HR.out.2.2 (by omega)
      have hcw := pw_cell_below (HN.out ▸ hbl) (hcell i hlt)
      have hx : (l.getD i 0) = l[i] := by simp [List.getD_eq_getElem?_getD, hlt]
      rw [hx] at hcw
      have hsn := hexL_take l i hlt
      have hx0 := HBB.out _ (List.getElem_mem hlt)
      obtain ⟨x, hxe⟩ : ∃ x : Nat, l[i] = x := ⟨l[i].toNat, by omega⟩
      rw [hxe] at hcw hsn hx0
      have hxI : (x : Int) < 256 := hx0.2
      have HSN := Lib.hid hsn
      have hand := and15 x (by omega)
      have hll : (hexL (l.take i)).length ≤ 200000 := by rw [hexL_len, List.length_take]; omega
      have hl0 : n0 ≤ wr.heap.size := by have := HN.out; have := hbl.size; omega
      generalize hexL (l.take i) = R at *
      clear hcell hx hsn hxe hx0
      go_wp2
      refine start_ (n := 10) (S := fun w' => Below wr.heap.size wr w') (ds := [8, 9]) #[false, false, false, false, false, false, false, false, false, false] (by kernel_rfl) rfl rfl ((Below.refl _ wr).drew) (fun hHeld => ?_)
      refine pure_ (i := 0) (N := some 12) (v := ?_) (a' := ?_) #[true, false, false, false, false, false, false, false, false, false] rfl rfl (by kernel_rfl) (fun _ _ _ h => h) (Or.inl ⟨by rfl, ?_⟩) ?_ ?_
      rotate_left
      · intro w'
        go_simp
        with_reducible rfl
      rotate_left
      · simp only [Act.put, List.setIfInBounds_toArray, List.set_cons_zero, List.set_cons_succ, i64_w, i32_w]
        rfl
      refine pure_ (i := 1) (N := some 13) (v := ?_) (a' := ?_) #[true, true, false, false, false, false, false, false, false, false] rfl rfl (by kernel_rfl) (fun _ _ _ h => h) (Or.inl ⟨by rfl, ?_⟩) ?_ ?_
      rotate_left
      · intro w'
        go_simp
        with_reducible rfl
      rotate_left
      · simp only [Act.put, List.setIfInBounds_toArray, List.set_cons_zero, List.set_cons_succ, i64_w, i32_w]
        rfl
      refine pure_ (i := 2) (N := some 14) (v := ?_) (a' := ?_) #[true, true, true, false, false, false, false, false, false, false] rfl rfl (by kernel_rfl) (fun _ _ _ h => h) (Or.inl ⟨by rfl, ?_⟩) ?_ ?_
      rotate_left
      · intro w'
        go_simp
        with_reducible rfl
      rotate_left
      · simp only [Act.put, List.setIfInBounds_toArray, List.set_cons_zero, List.set_cons_succ, i64_w, i32_w]
        rfl
      refine pure_ (i := 3) (N := some 15) (v := .int .u8 (dg (x / 16))) (a' := ?_) #[true, true, true, true, false, false, false, false, false, false] rfl rfl (by kernel_rfl) (fun _ _ _ h => h) (Or.inl ⟨by rfl, ?_⟩) ?_ ?_
      · intro w'
        go_simp
        rw [dif_pos ⟨by omega, by omega⟩, hexAt _ (by omega) (by omega), show ((x : Int) / 16).toNat = (x / 16) by omega]
        rfl
      rotate_left
      · simp only [Act.put, List.setIfInBounds_toArray, List.set_cons_zero, List.set_cons_succ, i64_w, i32_w]
        rfl
      refine pure_ (i := 4) (N := some 16) (v := ?_) (a' := ?_) #[true, true, true, true, true, false, false, false, false, false] rfl rfl (by kernel_rfl) (fun _ _ _ h => h) (Or.inl ⟨by rfl, ?_⟩) ?_ ?_
      rotate_left
      · intro w'
        go_simp
        with_reducible rfl
      rotate_left
      · simp only [Act.put, List.setIfInBounds_toArray, List.set_cons_zero, List.set_cons_succ, i64_w, i32_w]
        rfl
      refine pure_ (i := 5) (N := some 17) (v := ?_) (a' := ?_) #[true, true, true, true, true, true, false, false, false, false] rfl rfl (by kernel_rfl) (fun _ _ _ h => h) (Or.inl ⟨by rfl, ?_⟩) ?_ ?_
      rotate_left
      · intro w'
        go_simp
        with_reducible rfl
      rotate_left
      · simp only [Act.put, List.setIfInBounds_toArray, List.set_cons_zero, List.set_cons_succ, i64_w, i32_w]
        rfl
      refine pure_ (i := 6) (N := some 18) (v := .int .u8 (dg (x % 16))) (a' := ?_) #[true, true, true, true, true, true, true, false, false, false] rfl rfl (by kernel_rfl) (fun _ _ _ h => h) (Or.inl ⟨by rfl, ?_⟩) ?_ ?_
      · intro w'
        go_simp
        rw [dif_pos ⟨by omega, by omega⟩, hexAt _ (by omega) (by omega), show ((x : Int) % 16).toNat = x % 16 by omega]
        rfl
      rotate_left
      · simp only [Act.put, List.setIfInBounds_toArray, List.set_cons_zero, List.set_cons_succ, i64_w, i32_w]
        rfl
      refine one_ (i := 7) (N := some 19) #[true, true, true, true, true, true, true, true, false, false] rfl rfl (by kernel_rfl) (by decide) (fun K hK => ?_)
      refine value_ (w1 := ?_) (v := ?_) (by rfl) rfl ?_ ?_
      rotate_left 2
      · go_simp
        constructor
        · rfl
        · rfl
      refine hK.out _ _ ((hHeld.alloc hHeld.size _)) (fun _ => ?_)
      clear hK K
      refine norm_ (a' := ?_) ?_ ?_
      rotate_left
      · show Act.put _ (some 19) _ = _
        simp only [Act.put, List.setIfInBounds_toArray, List.set_cons_zero, List.set_cons_succ, i64_w, i32_w]
        rfl
      have hrd2 : ReadsInt (wr.drew.alloc (.cells #[.int .u8 (dg (x / 16)), .int .u8 (dg (x % 16))] 5)) .u8 (some ⟨wr.drew.heap.size, 0, none⟩) 2 [dg (x / 16), dg (x % 16)] := by
        have hn := heap_alloc_new wr.drew (.cells #[.int .u8 (dg (x / 16)), .int .u8 (dg (x % 16))] 5)
        refine ⟨rfl, by simp, fun _ => ⟨_, rfl, fun j hj => ?_⟩⟩
        have hj0 : j = 0 ∨ j = 1 := by omega
        rcases hj0 with rfl | rfl
        · rw [add_plain]
          unfold World.cell?
          simp only []
          rw [hn]
          rfl
        · rw [add_plain]
          unfold World.cell?
          simp only []
          rw [hn]
          rfl
      have hownd : (wr.drew.alloc (.cells #[.int .u8 (dg (x / 16)), .int .u8 (dg (x % 16))] 5)).ownsRow n0 5 1 (.slice A3 R.length c3) R.length (nums .u8 R) := World.ownsRow.alloc (show wr.drew.ownsRow n0 5 1 (.slice A3 R.length c3) R.length (nums .u8 R) from hown) _
      have hbd : Below n0 w (wr.drew.alloc (.cells #[.int .u8 (dg (x / 16)), .int .u8 (dg (x % 16))] 5)) := (hbl.drew).alloc hl0 _
      refine last_ (i := 8) (N := some 20) #[true, true, true, true, true, true, true, true, true, false] rfl rfl (by kernel_rfl) (by decide) (fun K hK => ?_)
      refine step_append_nums (w0 := w) n0 (by rfl) (.tmp 12) (.tmp 19) 47 5 .u8 1 rfl Tryd.underlying47 inf5 (by decide) (.slice A3 R.length c3) R [dg (x / 16), dg (x % 16)] (some ⟨wr.drew.heap.size, 0, none⟩) 2 2 (by rfl) (by rfl) hownd hrd2 hbd (Nat.le_trans hl0 ((((Below.refl _ wr).drew).alloc (Nat.le_refl _) _).size)) (by omega) ?_
      intro v6 w6 hown6 hB6
      refine hK.out _ _ ?_
      clear hK K
      refine norm_ (a' := ?_) ?_ ?_
      rotate_left
      · show Act.put _ (some 20) _ = _
        simp only [Act.put, List.setIfInBounds_toArray, List.set_cons_zero, List.set_cons_succ, i64_w, i32_w]
        rfl
      refine last_ (i := 9) (N := some 3) #[true, true, true, true, true, true, true, true, true, true] rfl rfl (by kernel_rfl) (by decide) (fun K hK => ?_)
      refine value_ (w1 := ?_) (v := ?_) (by rfl) rfl ?_ ?_
      rotate_left 2
      · go_simp
        constructor
        · rfl
        · rfl
      refine hK.out _ _ ?_
      clear hK K
      refine norm_ (a' := ?_) ?_ ?_
      rotate_left
      · show Act.put _ (some 3) _ = _
        simp only [Act.put, List.setIfInBounds_toArray, List.set_cons_zero, List.set_cons_succ, i64_w, i32_w]
        rfl
      refine done_ (by kernel_rfl) ?_
      try simp only [calmly]
      have hown7 : w6.ownsRow n0 5 1 v6 (hexL (l.take (i + 1))).length (nums .u8 (hexL (l.take (i + 1)))) := by rw [← HSN.out]; exact hown6
      go_wp2
      exact ⟨⟨i + 1, by go_num, by omega, hown7, hB6⟩, by simp only [intOf]; omega⟩
    · have hd : decide (i < l.length) = false := decide_eq_false hlt
      have hL : l.take i = l := List.take_of_length_le (by omega)
      rw [hL] at hown
      have hcv := fun (c : Nat) => string_of_reads (P := Tryd.prog) (src := 47) (dst := 9) (c := c) Tryd.underlying47 Tryd.underlying5 Tryd.underlying9 (own_reads' hown)
      rw [hL]
      go_wp2
      go_ret
      exact ⟨rfl, hbl⟩
set_option maxRecDepth 100000 in
set_option maxHeartbeats 4000000 in
theorem RHex_calls (A : Option Addr) (c : Nat) (l : List Int) (w : World) (hr : ReadsInt w .u8 A l.length l) (hb : ∀ x ∈ l, 0 ≤ x ∧ x < 256) (hl : l.length ≤ 100000) :
    Calls Tryd.prog 107 #[.slice A l.length c] w fun e w' => e = .returned (.string (strOfNums (hexL l))) ∧ Below w.heap.size w w' := by
  obtain ⟨n0, hn0⟩ : ∃ n0, w.heap.size = n0 := ⟨_, rfl⟩
  have hown0 : w.ownsRow n0 5 1 (.slice none 0 0) (hexL (l.take 0)).length (nums .u8 (hexL (l.take 0))) := by simpa [hexL, nums] using own_nil w n0 5 1
  have hbl0 : Below n0 w w := hn0 ▸ Below.refl _ _
  have HR := Lib.hid hr
  have HN := Lib.hid hn0
  have HBB := Lib.hid hb
  have hlI : (l.length : Int) ≤ 100000 := by omega
  rw [hn0]
  clear hr hn0 hb
  go_enter Tryd.func107, Tryd.ntmps107
  go_wp2
  go_loopw [4, 5, 6, 7] (fun v4 v5 v6 v7 wr => ∃ i : Nat, v5 = .int .i64 i ∧ i ≤ l.length ∧ wr.ownsRow n0 5 1 v4 (hexL (l.take i)).length (nums .u8 (hexL (l.take i))) ∧ Below n0 w wr) (fun _ v5 _ _ _ => l.length - (intOf v5).toNat)
  case atStart => exact ⟨0, rfl, by omega, hown0, hbl0⟩
  case round =>
    obtain ⟨i, rfl, hi, hown, hbl⟩ := hrel
    obtain ⟨A3, c3, rfl, _⟩ := own_form hown
    by_cases hlt : i < l.length
    · have hd : decide (i < l.length) = true := decide_eq_true hlt
      obtain ⟨ad, rfl, hcell⟩ := HR.out.2.2 (by omega)
      have hcw := pw_cell_below (HN.out ▸ hbl) (hcell i hlt)
      have hx : (l.getD i 0) = l[i] := by simp [List.getD_eq_getElem?_getD, hlt]
      rw [hx] at hcw
      have hsn := hexL_take l i hlt
      have hx0 := HBB.out _ (List.getElem_mem hlt)
      obtain ⟨x, hxe⟩ : ∃ x : Nat, l[i] = x := ⟨l[i].toNat, by omega⟩
      rw [hxe] at hcw hsn hx0
      have hxI : (x : Int) < 256 := hx0.2
      have HSN := Lib.hid hsn
      have hll : (hexL (l.take i)).length ≤ 200000 := by rw [hexL_len, List.length_take]; omega
      have hl0 : n0 ≤ wr.heap.size := by have := HN.out; have := hbl.size; omega
      generalize hexL (l.take i) = R at *
      clear hcell hx hsn hxe hx0
      go_wp2
      refine start_ (n := 10) (S := fun w' => Below wr.heap.size wr w') (ds := [8, 9]) #[false, false, false, false, false, false, false, false, false, false] (by kernel_rfl) rfl rfl ((Below.refl _ wr).drew) (fun hHeld => ?_)
      refine pure_ (i := 0) (N := some 26) (v := ?_) (a' := ?_) #[true, false, false, false, false, false, false, false, false, false] rfl rfl (by kernel_rfl) (fun _ _ _ h => h) (Or.inl ⟨by rfl, ?_⟩) ?_ ?_
      rotate_left
      · intro w'
        go_simp
        with_reducible rfl
      rotate_left
      · simp only [Act.put, List.setIfInBounds_toArray, List.set_cons_zero, List.set_cons_succ, i64_w, i32_w]
        rfl
      refine pure_ (i := 1) (N := some 27) (v := ?_) (a' := ?_) #[true, true, false, false, false, false, false, false, false, false] rfl rfl (by kernel_rfl) (fun _ _ _ h => h) (Or.inl ⟨by rfl, ?_⟩) ?_ ?_
      rotate_left
      · intro w'
        go_simp
        with_reducible rfl
      rotate_left
      · simp only [Act.put, List.setIfInBounds_toArray, List.set_cons_zero, List.set_cons_succ, i64_w, i32_w]
        rfl
      refine pure_ (i := 2) (N := some 28) (v := ?_) (a' := ?_) #[true, true, true, false, false, false, false, false, false, false] rfl rfl (by kernel_rfl) (fun _ _ _ h => h) (Or.inl ⟨by rfl, ?_⟩) ?_ ?_
      rotate_left
      · intro w'
        go_simp
        with_reducible rfl
      rotate_left
      · simp only [Act.put, List.setIfInBounds_toArray, List.set_cons_zero, List.set_cons_succ, i64_w, i32_w]
        rfl
      refine pure_ (i := 3) (N := some 29) (v := .int .u8 (dg (x / 16))) (a' := ?_) #[true, true, true, true, false, false, false, false, false, false] rfl rfl (by kernel_rfl) (fun _ _ _ h => h) (Or.inl ⟨by rfl, ?_⟩) ?_ ?_
      · intro w'
        go_simp
        rw [dif_pos ⟨by omega, by omega⟩, hexAt _ (by omega) (by omega), show ((x : Int) / 16).toNat = (x / 16) by omega]
        rfl
      rotate_left
      · simp only [Act.put, List.setIfInBounds_toArray, List.set_cons_zero, List.set_cons_succ, i64_w, i32_w]
        rfl
      refine pure_ (i := 4) (N := some 30) (v := ?_) (a' := ?_) #[true, true, true, true, true, false, false, false, false, false] rfl rfl (by kernel_rfl) (fun _ _ _ h => h) (Or.inl ⟨by rfl, ?_⟩) ?_ ?_
      rotate_left
      · intro w'
        go_simp
        with_reducible rfl
      rotate_left
      · simp only [Act.put, List.setIfInBounds_toArray, List.set_cons_zero, List.set_cons_succ, i64_w, i32_w]
        rfl
      refine pure_ (i := 5) (N := some 31) (v := ?_) (a' := ?_) #[true, true, true, true, true, true, false, false, false, false] rfl rfl (by kernel_rfl) (fun _ _ _ h => h) (Or.inl ⟨by rfl, ?_⟩) ?_ ?_
      rotate_left
      · intro w'
        go_simp
        with_reducible rfl
      rotate_left
      · simp only [Act.put, List.setIfInBounds_toArray, List.set_cons_zero, List.set_cons_succ, i64_w, i32_w]
        rfl
      refine pure_ (i := 6) (N := some 32) (v := .int .u8 (dg (x % 16))) (a' := ?_) #[true, true, true, true, true, true, true, false, false, false] rfl rfl (by kernel_rfl) (fun _ _ _ h => h) (Or.inl ⟨by rfl, ?_⟩) ?_ ?_
      · intro w'
        go_simp
        rw [dif_pos ⟨by omega, by omega⟩, hexAt _ (by omega) (by omega), show ((x : Int) % 16).toNat = (x % 16) by omega]
        rfl
      rotate_left
      · simp only [Act.put, List.setIfInBounds_toArray, List.set_cons_zero, List.set_cons_succ, i64_w, i32_w]
        rfl
      refine one_ (i := 7) (N := some 33) #[true, true, true, true, true, true, true, true, false, false] rfl rfl (by kernel_rfl) (by decide) (fun K hK => ?_)
      refine value_ (w1 := ?_) (v := ?_) (by rfl) rfl ?_ ?_
      rotate_left 2
      · go_simp
        constructor
        · rfl
        · rfl
      refine hK.out _ _ ((hHeld.alloc hHeld.size _)) (fun _ => ?_)
      clear hK K
      refine norm_ (a' := ?_) ?_ ?_
      rotate_left
      · show Act.put _ (some 33) _ = _
        simp only [Act.put, List.setIfInBounds_toArray, List.set_cons_zero, List.set_cons_succ, i64_w, i32_w]
        rfl
      have hrd2 : ReadsInt (wr.drew.alloc (.cells #[.int .u8 (dg (x / 16)), .int .u8 (dg (x % 16))] 5)) .u8 (some ⟨wr.drew.heap.size, 0, none⟩) 2 [dg (x / 16), dg (x % 16)] := by
        have hn := heap_alloc_new wr.drew (.cells #[.int .u8 (dg (x / 16)), .int .u8 (dg (x % 16))] 5)
        refine ⟨rfl, by simp, fun _ => ⟨_, rfl, fun j hj => ?_⟩⟩
        have hj0 : j = 0 ∨ j = 1 := by omega
        rcases hj0 with rfl | rfl
        · rw [add_plain]
          unfold World.cell?
          simp only []
          rw [hn]
          rfl
        · rw [add_plain]
          unfold World.cell?
          simp only []
          rw [hn]
          rfl
      have hownd : (wr.drew.alloc (.cells #[.int .u8 (dg (x / 16)), .int .u8 (dg (x % 16))] 5)).ownsRow n0 5 1 (.slice A3 R.length c3) R.length (nums .u8 R) := World.ownsRow.alloc (show wr.drew.ownsRow n0 5 1 (.slice A3 R.length c3) R.length (nums .u8 R) from hown) _
      have hbd : Below n0 w (wr.drew.alloc (.cells #[.int .u8 (dg (x / 16)), .int .u8 (dg (x % 16))] 5)) := (hbl.drew).alloc hl0 _
      refine last_ (i := 8) (N := some 34) #[true, true, true, true, true, true, true, true, true, false] rfl rfl (by kernel_rfl) (by decide) (fun K hK => ?_)
      refine step_append_nums (w0 := w) n0 (by rfl) (.tmp 26) (.tmp 33) 47 5 .u8 1 rfl Tryd.underlying47 inf5 (by decide) (.slice A3 R.length c3) R [dg (x / 16), dg (x % 16)] (some ⟨wr.drew.heap.size, 0, none⟩) 2 2 (by rfl) (by rfl) hownd hrd2 hbd (Nat.le_trans hl0 ((((Below.refl _ wr).drew).alloc (Nat.le_refl _) _).size)) (by omega) ?_
      intro v6 w6 hown6 hB6
      refine hK.out _ _ ?_
      clear hK K
      refine norm_ (a' := ?_) ?_ ?_
      rotate_left
      · show Act.put _ (some 34) _ = _
        simp only [Act.put, List.setIfInBounds_toArray, List.set_cons_zero, List.set_cons_succ, i64_w, i32_w]
        rfl
      refine last_ (i := 9) (N := some 4) #[true, true, true, true, true, true, true, true, true, true] rfl rfl (by kernel_rfl) (by decide) (fun K hK => ?_)
      refine value_ (w1 := ?_) (v := ?_) (by rfl) rfl ?_ ?_
      rotate_left 2
      · go_simp
        constructor
        · rfl
        · rfl
      refine hK.out _ _ ?_
      clear hK K
      refine norm_ (a' := ?_) ?_ ?_
      rotate_left
      · show Act.put _ (some 4) _ = _
        simp only [Act.put, List.setIfInBounds_toArray, List.set_cons_zero, List.set_cons_succ, i64_w, i32_w]
        rfl
      refine done_ (by kernel_rfl) ?_
      try simp only [calmly]
      have hown7 : w6.ownsRow n0 5 1 v6 (hexL (l.take (i + 1))).length (nums .u8 (hexL (l.take (i + 1)))) := by rw [← HSN.out]; exact hown6
      go_wp2
      exact ⟨⟨i + 1, by go_num, by omega, hown7, hB6⟩, by simp only [intOf]; omega⟩
    · have hd : decide (i < l.length) = false := decide_eq_false hlt
      have hL : l.take i = l := List.take_of_length_le (by omega)
      rw [hL] at hown
      have hcv := fun (c : Nat) => string_of_reads (P := Tryd.prog) (src := 47) (dst := 9) (c := c) Tryd.underlying47 Tryd.underlying5 Tryd.underlying9 (own_reads' hown)
      rw [hL]
      go_wp2
      go_ret
      exact ⟨rfl, hbl⟩
theorem bytesOf_ok2 (s : ByteArray) : ∀ x ∈ bytesOf s, 0 ≤ x ∧ x < 256 := by
  intro x hx
  obtain ⟨b, _, rfl⟩ := List.mem_map.1 hx
  have := b.toNat_lt
  omega
/-- The key of a hash. -/
def hashK (s : ByteArray) : ByteArray := (⟨#[105, 47]⟩ : ByteArray) ++ strOfNums (hexL (bytesOf s))
set_option maxRecDepth 100000 in
set_option maxHeartbeats 4000000 in
theorem HashK_calls (s : ByteArray) (hs : s.size ≤ 1000) (w : World) :
    Calls Tryd.prog 78 #[.string s] w fun e w' => e = .returned (.string (hashK s)) ∧ Below w.heap.size w w' := by
  have kb := fun (W : World) => print_bytes (P := Tryd.prog) 9 47 5 Tryd.underlying9 Tryd.underlying47 Tryd.underlying5 s W
  have hlen := bytesOf_length s
  have k := fun (W : World) => Hex_calls (some ⟨W.heap.size, 0, none⟩) (grownCap W s.size 0 5) (bytesOf s) (Lib.bytesWorld W 5 s) (by rw [hlen]; exact bytes_reads W 5 s (by omega)) (bytesOf_ok2 s) (by omega)
  rw [hlen] at k
  have kB := bytes_below (Below.refl w.heap.size w) (Nat.le_refl _) 5 s
  have hX : (strOfNums (hexL (bytesOf s))).size ≤ 200000 := by
    show (((hexL (bytesOf s)).map fun n => UInt8.ofNat n.toNat).toArray).size ≤ _
    rw [List.size_toArray, List.length_map, hexL_len, hlen]
    omega
  unfold hashK
  generalize strOfNums (hexL (bytesOf s)) = X at *
  have z1 : ¬ 9223372036854775807 < (⟨#[105, 47]⟩ : ByteArray).size + X.size := by
    have : (⟨#[105, 47]⟩ : ByteArray).size = 2 := rfl
    omega
  have KB := Lib.hid kB
  clear hlen hX kB hs
  go_enter Tryd.func78, Tryd.ntmps78
  go_wp2_with (go_at_call 106; go_loud (refine (k _).mono ?_; rintro e w1 ⟨rfl, hb1⟩))
  go_ret
  exact ⟨rfl, KB.out.trans (hb1.mono KB.out.size)⟩
set_option maxRecDepth 100000 in
set_option maxHeartbeats 4000000 in
theorem HexK_calls (s : ByteArray) (hs : s.size ≤ 1000) (w : World) :
    Calls Tryd.prog 79 #[.string ⟨#[105]⟩, .string s] w fun e w' => e = .returned (.string (hashK s)) ∧ Below w.heap.size w w' := by
  have kb := fun (W : World) => print_bytes (P := Tryd.prog) 9 47 5 Tryd.underlying9 Tryd.underlying47 Tryd.underlying5 s W
  have hlen := bytesOf_length s
  have k := fun (W : World) => RHex_calls (some ⟨W.heap.size, 0, none⟩) (grownCap W s.size 0 5) (bytesOf s) (Lib.bytesWorld W 5 s) (by rw [hlen]; exact bytes_reads W 5 s (by omega)) (bytesOf_ok2 s) (by omega)
  rw [hlen] at k
  have kB := bytes_below (Below.refl w.heap.size w) (Nat.le_refl _) 5 s
  have hX : (strOfNums (hexL (bytesOf s))).size ≤ 200000 := by
    show (((hexL (bytesOf s)).map fun n => UInt8.ofNat n.toNat).toArray).size ≤ _
    rw [List.size_toArray, List.length_map, hexL_len, hlen]
    omega
  unfold hashK
  generalize strOfNums (hexL (bytesOf s)) = X at *
  have e1 : (⟨#[105, 47]⟩ : ByteArray) = ⟨#[105]⟩ ++ ⟨#[47]⟩ := rfl
  rw [e1]
  have z1 : ¬ 9223372036854775807 < ((⟨#[105]⟩ : ByteArray) ++ ⟨#[47]⟩).size + X.size := by
    have : ((⟨#[105]⟩ : ByteArray) ++ ⟨#[47]⟩).size = 2 := rfl
    omega
  have KB := Lib.hid kB
  clear hlen hX kB hs e1
  go_enter Tryd.func79, Tryd.ntmps79
  go_wp2_with (go_at_call 107; go_loud (refine (k _).mono ?_; rintro e w1 ⟨rfl, hb1⟩))
  go_ret
  exact ⟨rfl, KB.out.trans (hb1.mono KB.out.size)⟩
end Go.Proofs.YtoeibcdnhglobaaDoor.P
