/- nodes.Grow: the walk. -/
import Derived.Test.YtoeibcdnhglobaaDoorGNPu
import Derived.Test.YtoeibcdnhglobaaDoorGPOf
namespace Go.Proofs.YtoeibcdnhglobaaDoor.P
set_option linter.unusedVariables false
set_option linter.unusedSimpArgs false
open Go.RowKit Go.Shelf Go.Proofs.YtoeibcdnhglobaaDoorW.PrintWords Go.Proofs.YtoeibcdnhglobaaDoorW.PrintLast Go.Proofs.YtoeibcdnhglobaaDoorW.PrintMore
open Go.Proofs.YtoeibcdnhglobaaDoor.Pure

/-- The cells of entries. -/
def cells81 (l : List (ByteArray × ByteArray)) : List Value := l.flatMap fun p => [.string p.1, .string p.2, .bool false]
theorem cells81_snoc (l : List (ByteArray × ByteArray)) (a b : ByteArray) : cells81 l ++ [.string a, .string b, .bool false] = cells81 (l ++ [(a, b)]) := by simp [cells81]
/-- The entries of the levels 1 .. k behind leaf i. -/
def entTo (H : List ByteArray) (i k : Nat) : List (ByteArray × ByteArray) := (List.range' 1 k).map fun L => (nodeK L (i / 2 ^ L), seg H (i + 1 - 2 ^ L) (2 ^ L))
theorem entTo_step (H : List ByteArray) (i k : Nat) : entTo H i (k + 1) = entTo H i k ++ [(nodeK (k + 1) (i / 2 ^ (k + 1)), seg H (i + 1 - 2 ^ (k + 1)) (2 ^ (k + 1)))] := by
  unfold entTo
  rw [List.range'_concat, List.map_append]
  simp [Nat.add_comm]
def lvF (i : Nat) : Nat → Nat → List Nat
  | 0, _ => []
  | f + 1, L => if (i + 1) % 2 ^ L = 0 then L :: lvF i f (L + 1) else []
theorem entI_lv (H : List ByteArray) (i : Nat) : ∀ f L, entI H i f L = (lvF i f L).map fun L => (nodeK L (i / 2 ^ L), seg H (i + 1 - 2 ^ L) (2 ^ L))
  | 0, _ => rfl
  | f + 1, L => by
    unfold entI lvF
    split
    · rw [entI_lv H i f]; rfl
    · rfl
theorem lvF_all : ((List.range 63).all fun n => (List.range 6).all fun k => !decide ((n + 1) % 2 ^ k = 0 ∧ ¬ (n + 1) % 2 ^ (k + 1) = 0) || lvF n 6 1 == List.range' 1 k) = true := by kernel_rfl
theorem entI_end (H : List ByteArray) (n k : Nat) (hn : n < 63) (hk : k < 6) (h0 : (n + 1) % 2 ^ k = 0) (h1 : ¬ (n + 1) % 2 ^ (k + 1) = 0) : entI H n 6 1 = entTo H n k := by
  have h := List.all_eq_true.1 (List.all_eq_true.1 lvF_all n (List.mem_range.2 hn)) k (List.mem_range.2 hk)
  rw [decide_eq_true ⟨h0, h1⟩] at h
  simp only [Bool.not_true, Bool.false_or, beq_iff_eq] at h
  rw [entI_lv, h]
  rfl
theorem inf131 : (Tryd.prog.info? 131).map (fun i => (i.zero, i.size, i.bytes)) = some (some (.agg #[.string ⟨#[]⟩, .string ⟨#[]⟩, .bool false]), 3, 40) := by kernel_rfl
theorem seg_one2 (h : List ByteArray) (a : Nat) (ha : a < h.length) : seg h a 1 = h[a] := by
  unfold seg
  rw [List.drop_eq_getElem_cons ha]
  rfl
theorem drop_get (H : List ByteArray) (n i : Nat) (h : n + i < H.length) : (H.drop n).getD i ByteArray.empty = seg H (n + i) 1 := by
  rw [seg_one2 H _ h]
  simp [List.getD_eq_getElem?_getD, h]
theorem hiP_len : ∀ d k n, (hiP d k n).length ≤ d
  | 0, _, _ => Nat.le_refl _
  | d + 1, k, n => by
    have h := hiP_len d (k + 1) n
    unfold hiP
    rw [List.length_append]
    split <;> simp <;> omega
theorem hiN_len (H : List ByteArray) (k n : Nat) : (hiN H k n).length ≤ 6 := by
  unfold hiN
  rw [List.length_map]
  have := hiP_len (6 - k) k n
  omega
theorem entI_len (H : List ByteArray) (i : Nat) : ∀ f L, (entI H i f L).length ≤ f
  | 0, _ => Nat.le_refl _
  | f + 1, L => by
    have h := entI_len H i f (L + 1)
    unfold entI
    split
    · rw [List.length_cons]; omega
    · simp
theorem grownL_len (H : List ByteArray) (a : Nat) : ∀ m, (grownL H a m).length ≤ 7 * m
  | 0 => Nat.le_refl _
  | m + 1 => by
    have h := grownL_len H a m
    have h2 := entI_len H (a + m) 6 1
    show (grownL H a m ++ entA H (a + m)).length ≤ _
    rw [List.length_append]
    show _ + (entI H (a + m) 6 1).length.succ ≤ _
    omega
theorem sn_bound (H : List ByteArray) (k a sn : Nat) (S : List ByteArray) (hS : S = hiN H (k + 1) a) (hsn : sn = S.length + 1) : (sn : Int) ≤ 1000 := by
  have h := hiN_len H (k + 1) a
  rw [← hS] at h
  omega
theorem ent_bound (H : List ByteArray) (n i a k : Nat) (G : List (ByteArray × ByteArray)) (kk x : ByteArray) (hG : G = grownL H n i) (hi : i ≤ 40) (hk : k ≤ 5) : ((G ++ (kk, x) :: entTo H a k).length + 1) * 40 ≤ 140737488355328 := by
  have h1 := grownL_len H n i
  rw [← hG] at h1
  rw [List.length_append, List.length_cons, entTo, List.length_map, List.length_range']
  omega
theorem lev_bound (a k : Nat) (ha : a < 40) (hk : k ≤ 5) (h : (a + 1) % 2 ^ (k + 1) = 0) : k + 1 ≤ 5 := by
  rcases Nat.lt_or_ge (k + 1) 6 with h1 | h1
  · omega
  · have e : k = 5 := by omega
    subst e
    have h64 := (at_step a 5 (by omega) (by omega) h).2.2
    have : (2 : Nat) ^ (5 + 1) = 64 := rfl
    omega
theorem pc_le : ∀ f n, pcF f n ≤ f
  | 0, _ => Nat.le_refl _
  | f + 1, n => by
    have h := pc_le f (n / 2)
    unfold pcF
    omega
set_option maxRecDepth 100000 in
set_option maxHeartbeats 8000000 in
theorem NGrow_calls (H : List ByteArray) (n : Nat) (hn : n ≤ H.length) (hH : H.length ≤ 40) (hs : ∀ s ∈ H, s.size ≤ 32) (A1 A2 : Option Addr) (c1 c2 : Nat) (w : World)
    (hp : StrRow w A1 (pkN H n)) (hr : ReadsOf Value.string ByteArray.empty w A2 (H.length - n) (H.drop n)) (hT : PowTab w) (hG : GlobH w) :
    Calls Tryd.prog 66 #[.int .i64 n, .slice A1 (pkN H n).length c1, .slice A2 (H.length - n) c2] w fun e w' => ∃ v1 v2, e = .returned (.tuple #[v1, v2]) ∧
      w'.ownsRow w.heap.size 131 3 v1 (grownL H n (H.length - n)).length (cells81 (grownL H n (H.length - n))) ∧ w'.ownsRow w.heap.size 9 1 v2 (pkN H H.length).length (encs Value.string (pkN H H.length)) ∧ Below w.heap.size w w' := by
  obtain ⟨n0, hn0⟩ : ∃ n0, w.heap.size = n0 := ⟨_, rfl⟩
  have kO := fun W => Ones_calls n (by omega) W
  have hpl := pkN_len H n (by omega)
  have kC := CloneA w A1 c1 (pkN H n) hp (by have := pc_le 6 n; unfold pc at hpl; omega)
  rw [← hpl] at kO
  rw [hn0] at kC
  obtain ⟨m, hm⟩ : ∃ m, m = H.length - n := ⟨_, rfl⟩
  rw [← hm] at hr ⊢
  have hwn : IntKind.u64.wrap (n : Int) = (n : Int) := by rw [IntKind.wrap_u64]; omega
  have d0 : decide ((n : Int) < 0) = false := decide_eq_false (by omega)
  have HR := Lib.hid hr
  have HTT := Lib.hid hT
  have HGG := Lib.hid hG
  have HS := Lib.hid hs
  have HM := Lib.hid hm
  have HHL := Lib.hid hH
  have HNH := Lib.hid hn
  have HN0 := Lib.hid hn0
  have hmI : (m : Int) ≤ 40 := by omega
  have hnI : (n : Int) ≤ 40 := by omega
  rw [hn0]
  clear hp hr hT hG hs hm hH hn hpl
  have hnm : Hid ((pkN H n).length = (pkN H n).length) := Lib.hid rfl
  generalize hpk : (pkN H n).length = p at *
  have HPK := Lib.hid hpk
  clear hpk hnm hn0
  go_enter Tryd.func66, Tryd.ntmps66
  go_wp2_with (first
    | (go_at_call 103; refine (kO _).mono ?_; rintro e w' ⟨rfl, hw'⟩; rw [hw']; clear hw' w')
    | (go_at_call 81; go_loud (with_reducible refine kC.mono ?_; rintro e w1 ⟨v1, rfl, ho1, hb1⟩; have HO1 := Lib.hid ho1; have HB1 := Lib.hid hb1; clear ho1 hb1)))
  go_loopw [0, 1, 8, 10, 11, 12, 27] (fun v0 v1 v8 v10 v11 v12 v27 wr => ∃ i a : Nat, v0 = .int .i64 a ∧ Hid (a = n + i) ∧ v27 = .int .i64 i ∧ i ≤ m ∧ wr.ownsRow n0 9 1 v1 (pkN H a).length (encs Value.string (pkN H a)) ∧ wr.ownsRow n0 131 3 v8 (grownL H n i).length (cells81 (grownL H n i)) ∧ Below n0 w wr) (fun _ _ _ _ _ _ v27 _ => m - (intOf v27).toNat)
  case atStart => exact ⟨0, n, rfl, Lib.hid rfl, rfl, Nat.zero_le _, by rw [HPK.out]; exact HO1.out, own_nil _ _ _ _, HB1.out⟩
  case round =>
    obtain ⟨i, a, rfl, HA, rfl, hi, hown, hent, hbl⟩ := hrel
    by_cases hlt : i < m
    · have hd : decide (i < m) = true := decide_eq_true hlt
      have ha := HA.out
      have hni : a < H.length := by have := HM.out; omega
      obtain ⟨ad, rfl, hcell⟩ := HR.out.2.2 (by omega)
      have hb0 : Below w.heap.size w wr := by rw [HN0.out]; exact hbl
      have hcw := pw_cell_below hb0 (hcell i hlt)
      rw [drop_get H n i (by omega), ← ha] at hcw
      have hkey := fun (W : World) (hW : Below w.heap.size w W) => NodeK_calls 0 (a : Int) (by omega) (by omega) (by omega) (by have := HHL.out; omega) W (HTT.out.below hW)
      have HENT := Lib.hid hent
      have HOWN := Lib.hid hown
      have HBL := Lib.hid hbl
      have hiI : (i : Int) < 40 := by omega
      have hk0 : nodeK (0 : Int).toNat ((a : Nat) : Int).toNat = nodeK 0 a := by rw [Int.toNat_natCast]; rfl
      rw [hk0] at hkey
      have hkey2 := hkey wr hb0
      generalize hx : seg H a 1 = x at *
      generalize hkk : nodeK 0 a = kk at *
      have HX := Lib.hid hx
      have HKK := Lib.hid hkk
      obtain ⟨A8, c8, rfl⟩ := own_slice hent
      have hl0 : n0 ≤ wr.heap.size := by have := HN0.out; have := hbl.size; omega
      have ha40 : a < 40 := by have := HHL.out; omega
      have hi40 : i ≤ 40 := by omega
      have haI : (a : Int) < 40 := by omega
      have hgl : ((grownL H n i).length + 1) * 40 ≤ 140737488355328 := by have := grownL_len H n i; omega
      clear hcell hk0 hx hkk hkey hent hown hbl hb0 ha hni
      go_wp2_with (first
        | (go_at_call 73; go_loud (with_reducible refine hkey2.mono ?_; rintro e w2 ⟨rfl, hb2⟩; have hb3 := HBL.out.trans (hb2.mono hl0); have he3 := pw_own_below HENT.out hb2; have HP3 := Lib.hid (pw_own_below HOWN.out hb2); clear hkey2))
        | (at_builtin; go_loud (refine print_append_cells (w0 := w) n0 rfl _ _ 81 131 (.agg #[.string ⟨#[]⟩, .string ⟨#[]⟩, .bool false]) 3 40 rfl Tryd.underlying81 inf131 rfl (by decide) (by decide) (.slice A8 (grownL H n i).length c8) (grownL H n i).length (cells81 (grownL H n i)) [.string kk, .string x, .bool false] rfl rfl rfl (by simp [Value.oneCell']) he3 hb3 (Nat.le_trans hl0 hb2.size) hgl ?_; intro v4 w4 hown4 hB4 hg4 _)))
      have hP4 : w4.ownsRow n0 9 1 u1 (pkN H a).length (encs Value.string (pkN H a)) := own_other HP3.out hg4 (own_type_ne HP3.out he3 (by decide))
      have HP4 := Lib.hid hP4
      have HE4 := Lib.hid hown4
      have HB4 := Lib.hid hB4
      clear hown4 hB4 hg4 he3 hb3 hP4 HP3
      generalize wr = wA at *
      obtain ⟨G, hG⟩ : ∃ G, G = grownL H n i := ⟨_, rfl⟩
      have HGL := Lib.hid hG
      rw [← hG] at HE4 HENT
      clear hG
      go_loopw [1, 8, 10, 11, 12] (fun v1 v8 v10 v11 v12 wr => ∃ k L : Nat, Hid (L = k + 1) ∧ v11 = .int .i64 L ∧ k ≤ 5 ∧ Hid ((a + 1) % 2 ^ k = 0) ∧ v10 = .string (seg H (a + 1 - 2 ^ k) (2 ^ k)) ∧ wr.ownsRow n0 9 1 v1 (hiN H k a).length (encs Value.string (hiN H k a)) ∧ wr.ownsRow n0 131 3 v8 (G ++ (kk, x) :: entTo H a k).length (cells81 (G ++ (kk, x) :: entTo H a k)) ∧ Below n0 w wr) (fun _ _ _ v11 _ _ => 7 - (intOf v11).toNat)
      case atStart =>
        refine ⟨0, 1, Lib.hid rfl, rfl, by omega, Lib.hid (Nat.mod_one _), ?_, HP4.out, ?_, HB4.out⟩
        · rw [← HX.out]
          rfl
        · have e := HE4.out
          rw [cells81_snoc] at e
          have el : (G ++ [(kk, x)]).length = G.length + 1 := by simp
          show w4.ownsRow n0 131 3 v4 (G ++ [(kk, x)]).length (cells81 (G ++ [(kk, x)]))
          rw [el]
          exact e
      case round =>
        obtain ⟨k, L, HL, rfl, hk, HK, rfl, hpk, hen, hbl⟩ := hrel
        have hLk : (L : Int) - 1 = (k : Int) := by have := HL.out; omega
        have hkI : (k : Int) ≤ 5 := by omega
        have hLI : (L : Int) ≤ 6 := by have := HL.out; omega
        have hL1 : (1 : Int) ≤ (L : Int) := by have := HL.out; omega
        obtain ⟨q, hq⟩ : ∃ q, q = a / 2 ^ k := ⟨_, rfl⟩
        have hqd : (a : Int) / 2 ^ k = (q : Int) := by rw [hq]; simp
        have hqa : q ≤ a := by rw [hq]; exact Nat.div_le_self _ _
        have hqI : (q : Int) < 40 := by omega
        have HQ := Lib.hid hq
        clear hq
        have hbb : bits .and .i64 (q : Int) 1 = ((q % 2 : Nat) : Int) := by
          have h := bits_and_i64_nat q 1 (by omega) (by omega)
          rw [Nat.and_one_is_mod] at h
          exact h
        by_cases hbit : q % 2 = 1
        · have e1 : (bits .and .i64 (q : Int) 1 == 1) = true := by rw [hbb, hbit]; rfl
          have hst := hiN_step H k a (by omega) (by rw [← HQ.out]; exact hbit)
          have hdiv : (a + 1) % 2 ^ (k + 1) = 0 := (lv_test a k (by omega) (by omega) HK.out).1 (by rw [← HQ.out]; exact hbit)
          have hjn := join_step H a k (by omega) (by omega) hdiv (by have := HA.out; have := HM.out; omega)
          obtain ⟨S, hS⟩ : ∃ S, S = hiN H (k + 1) a := ⟨_, rfl⟩
          obtain ⟨y, hy⟩ : ∃ y, y = seg H (a / 2 ^ (k + 1) * 2 ^ (k + 1)) (2 ^ k) := ⟨_, rfl⟩
          rw [← hS, ← hy] at hst
          rw [← hy] at hjn
          rw [hst] at hpk
          have hys : y.size ≤ 32 := by rw [hy]; exact Tree_sz _ (fun s hm => HS.out s (List.mem_of_mem_drop (List.mem_of_mem_take hm)))
          have hzs : (seg H (a + 1 - 2 ^ k) (2 ^ k)).size ≤ 32 := Tree_sz _ (fun s hm => HS.out s (List.mem_of_mem_drop (List.mem_of_mem_take hm)))
          have hlS : (S ++ [y]).length = S.length + 1 := by simp
          obtain ⟨sn, hsn⟩ : ∃ sn, sn = S.length + 1 := ⟨_, rfl⟩
          rw [hlS, ← hsn] at hpk
          obtain ⟨g, cp, rfl, _⟩ := World.ownsRow.form hpk (by omega)
          have hcy := World.ownsRow.cellAt hpk S.length (by omega)
          have hcy2 : (encs Value.string (S ++ [y]))[S.length]? = some (.string y) := by simp [encs]
          rw [hcy2] at hcy
          have hcap := own_le hpk
          have hpk2 := own_take hpk (m := S.length) (by omega)
          have htk : (encs Value.string (S ++ [y])).take (S.length * 1) = encs Value.string S := by simp [encs]
          rw [htk] at hpk2
          have kJ := fun (W : World) (hW : Below w.heap.size w W) => NodeHash_calls y (seg H (a + 1 - 2 ^ k) (2 ^ k)) (by omega) W (HGG.out.below hW)
          have hjn2 : nodeH y (seg H (a + 1 - 2 ^ k) (2 ^ k)) = seg H (a + 1 - 2 ^ (k + 1)) (2 ^ (k + 1)) := hjn
          rw [hjn2] at kJ
          have hbw : Below w.heap.size w wr := by rw [HN0.out]; exact hbl
          have kJw := fun (W : World) (hW : Below wr.heap.size wr W) => kJ W (hbw.trans (hW.mono hbw.size))
          have HSS := Lib.hid hS
          have HD := Lib.hid hdiv
          have HPK2 := Lib.hid hpk2
          have HBW := Lib.hid hbl
          obtain ⟨A9, c9, rfl⟩ := own_slice hen
          have HEN := Lib.hid hen
          generalize hZ : seg H (a + 1 - 2 ^ (k + 1)) (2 ^ (k + 1)) = Z at *
          have HZ := Lib.hid hZ
          clear hZ
          generalize seg H (a + 1 - 2 ^ k) (2 ^ k) = z at *
          have hlI : (sn : Int) ≤ (cp : Int) := by omega
          have hsl1 : (sn : Int) - 1 = (S.length : Int) := by omega
          have hslt : (S.length : Int) < (sn : Int) := by omega
          have hsltN : S.length < sn := by omega
          have hlb : (sn : Int) ≤ 1000 := sn_bound H k a sn S hS hsn
          clear hsn
          have hEl : ((G ++ (kk, x) :: entTo H a k).length + 1) * 40 ≤ 140737488355328 := ent_bound H n i a k G kk x HGL.out hi40 hk
          have hEs : (G ++ (kk, x) :: entTo H a k) ++ [(nodeK (k + 1) (a / 2 ^ (k + 1)), Z)] = G ++ (kk, x) :: entTo H a (k + 1) := by rw [entTo_step, HZ.out]; simp
          have HES := Lib.hid hEs
          clear hEs
          generalize hsL : S.length = sl at *
          have HSL := Lib.hid hsL
          clear hsL
          generalize hE : G ++ (kk, x) :: entTo H a k = E at *
          clear hE
          clear hst hjn hjn2 hS hy hys hzs hlS hcy2 hpk hpk2 htk kJ hdiv hen hbl hbw
          obtain ⟨q2, hq2⟩ : ∃ q2, q2 = a / 2 ^ (k + 1) := ⟨_, rfl⟩
          have hqd2 : (a : Int) / 2 ^ L = (q2 : Int) := by rw [hq2, HL.out]; simp
          have hq2a : q2 ≤ a := by rw [hq2]; exact Nat.div_le_self _ _
          have hq2I : (q2 : Int) < 40 := by omega
          have HQ2 := Lib.hid hq2
          clear hq2
          have hkey3 := fun (W : World) (hW : Below wr.heap.size wr W) => NodeK_calls (L : Int) (q2 : Int) (by omega) (by omega) (by omega) (by omega) W (HTT.out.below ((HN0.out ▸ HBW.out).trans (hW.mono (HN0.out ▸ HBW.out).size)))
          simp only [Int.toNat_natCast] at hkey3
          generalize hk3 : nodeK L q2 = k3 at *
          have HK3 := Lib.hid hk3
          clear hk3
          have hwsl : IntKind.i64.wrap (sl : Int) = (sl : Int) := by rw [IntKind.wrap_i64]; omega
          have hslc : (sl : Int) ≤ (cp : Int) := by omega
          go_wp2
          refine wp_region_below rfl (by kernel_rfl) (by kernel_rfl) ?_
          repeat (first
            | (refine wpQuietIn_go (v := ?_) (a' := ?_) rfl (fun _ => trivial) (fun w' hC => qval ?_) rfl ?_ ?_; rotate_left; rotate_left; (have p0 := pw_cell_below hC hcy; go_simp; with_reducible rfl); (simp only [Act.put, List.setIfInBounds_toArray, List.set_cons_zero, List.set_cons_succ, i64_w, i32_w]; rfl))
            | (refine wpQuietIn_go (v := .string Z) (a' := ?_) rfl (fun _ => trivial) (fun w' hC => bqcall 41 #[.string y, .string z] ?_ hC (kJw w' hC)) rfl ?_ ?_; rotate_left; go_simp; (simp only [Act.put, List.setIfInBounds_toArray, List.set_cons_zero, List.set_cons_succ, i64_w, i32_w]; rfl)))
          refine wpQuietIn_nil ?_
          intro w5 hb5
          have hl1 : n0 ≤ wr.heap.size := Nat.le_trans (by have := HN0.out; omega) (HN0.out ▸ HBW.out).size
          have hb5n := HBW.out.trans (hb5.mono hl1)
          have he5 := pw_own_below HEN.out hb5
          have hp5 := pw_own_below HPK2.out hb5
          have hkey5 := hkey3 w5 hb5
          clear hkey3 kJw
          go_wp2_with (first
            | (go_at_call 73; go_loud (with_reducible refine hkey5.mono ?_; rintro e w6 ⟨rfl, hb6⟩; have hb7 := hb5n.trans (hb6.mono (Nat.le_trans hl1 hb5.size)); have he6 := pw_own_below he5 hb6; have hp6 := pw_own_below hp5 hb6; have hl6 := Nat.le_trans (Nat.le_trans hl1 hb5.size) hb6.size; clear hkey5 he5 hp5))
            | (at_builtin; go_loud (refine print_append_cells (w0 := w) n0 rfl _ _ 81 131 (.agg #[.string ⟨#[]⟩, .string ⟨#[]⟩, .bool false]) 3 40 rfl Tryd.underlying81 inf131 rfl (by decide) (by decide) (.slice A9 E.length c9) E.length (cells81 E) [.string k3, .string Z, .bool false] rfl rfl rfl (by simp [Value.oneCell']) he6 hb7 hl6 hEl ?_; intro v7 w7 hown7 hB7 hg7 _; have hp7 := own_other hp6 hg7 (own_type_ne hp6 he6 (by decide)); rw [cells81_snoc] at hown7)))
          have e3 : k3 = nodeK (k + 1) (a / 2 ^ (k + 1)) := by rw [← HK3.out, HL.out, HQ2.out]
          rw [e3, HES.out] at hown7
          have el : (G ++ (kk, x) :: entTo H a (k + 1)).length = E.length + 1 := by rw [← HES.out]; simp
          refine ⟨⟨k + 1, L + 1, Lib.hid (by have := HL.out; omega), by go_num, ?_, HD, by rw [← HZ.out], ?_, ?_, hB7⟩, by simp only [intOf]; have := HL.out; omega⟩
          · exact lev_bound a k ha40 hk HD.out
          · rw [← HSS.out, HSL.out]; exact hp7
          · rw [el]; exact hown7
        · have e1 : (bits .and .i64 (q : Int) 1 == 1) = false := by
            rw [hbb, show q % 2 = 0 by omega]; rfl
          have hq0 : (a / 2 ^ k) % 2 = 0 := by rw [← HQ.out]; omega
          have hend := pkN_end H a k (by omega) (by omega) HK.out hq0
          have hnd : ¬ (a + 1) % 2 ^ (k + 1) = 0 := fun h => by
            have := (lv_test a k (by omega) (by omega) HK.out).2 h
            omega
          have hei := entI_end H a k (by omega) (by omega) HK.out hnd
          have hgr : G ++ (kk, x) :: entTo H a k = grownL H n (i + 1) := by
            show _ = grownL H n i ++ entA H (n + i)
            rw [← HA.out, ← HGL.out, entA, hei, HKK.out, HX.out]
          have hl1 : n0 ≤ wr.heap.size := Nat.le_trans (by have := HN0.out; omega) (HN0.out ▸ hbl).size
          have hpl6 := hiN_len H k a
          obtain ⟨A7, c7, rfl, _⟩ := own_form hpk
          have HEND := Lib.hid hend
          have HGR := Lib.hid hgr
          have HEN := Lib.hid hen
          have HPK7 := Lib.hid hpk
          have HBL7 := Lib.hid hbl
          generalize seg H (a + 1 - 2 ^ k) (2 ^ k) = z at *
          generalize hR : hiN H k a = R at *
          have hl16 : (R.length + 1) * 16 ≤ 140737488355328 := by omega
          clear hend hgr hen hpk hbl hei hnd hq0 hpl6 hR
          go_wp2_with (at_builtin; go_loud (refine print_append_of (w0 := w) Value.string n0 rfl _ _ 22 9 (.string ⟨#[]⟩) 16 rfl Tryd.underlying22 inf9 rfl (by decide) (.slice A7 R.length c7) R z rfl rfl rfl HPK7.out HBL7.out hl1 hl16 ?_; intro v8 w8 hown8 hB8 hg8 _; have he8 := own_other HEN.out hg8 (own_type_ne HEN.out HPK7.out (by decide)); rw [← HEND.out] at hown8))
          rw [HGR.out] at he8
          exact ⟨⟨i + 1, a + 1, by go_num, Lib.hid (by have := HA.out; omega), by go_num, by omega, hown8, he8, hB8⟩, by simp only [intOf]; omega⟩
    · have hd : decide (i < m) = false := decide_eq_false hlt
      have him : i = m := by omega
      have hal : a = H.length := by have := HA.out; have := HM.out; have := HNH.out; omega
      rw [him] at hent
      rw [hal] at hown
      have HOW := Lib.hid hown
      have HEN := Lib.hid hent
      have HBL := Lib.hid hbl
      clear hown hent hbl him hal
      go_wp2
      go_ret2
      exact ⟨_, _, rfl, HEN.out, HOW.out, HBL.out⟩
set_option maxRecDepth 100000 in
set_option maxHeartbeats 4000000 in
/-- The number of peaks is wrong: nothing is given. -/
theorem NGrow_wrong (n p : Nat) (hn : n < 64) (hp : p ≠ pc n) (A1 : Option Addr) (c1 : Nat) (v : Value) (w : World) :
    Calls Tryd.prog 66 #[.int .i64 n, .slice A1 p c1, v] w fun e w' => e = .returned (.tuple #[.slice none 0 0, .slice none 0 0]) ∧ w' = w := by
  have kO := fun W => Ones_calls n hn W
  have hwn : IntKind.u64.wrap (n : Int) = (n : Int) := by rw [IntKind.wrap_u64]; omega
  have d0 : decide ((n : Int) < 0) = false := decide_eq_false (by omega)
  have hnI : (n : Int) < 64 := by omega
  generalize pc n = k at *
  have e1 : (p != k) = true := bne_iff_ne.2 hp
  have e2 : ((p : Int) != (k : Int)) = true := bne_iff_ne.2 (by omega)
  clear hp
  go_enter Tryd.func66, Tryd.ntmps66
  go_wp2_with (go_at_call 103; refine (kO _).mono ?_; rintro e w' ⟨rfl, hw'⟩; rw [hw']; clear hw' w')
  go_ret2
  exact ⟨rfl, rfl⟩
end Go.Proofs.YtoeibcdnhglobaaDoor.P
