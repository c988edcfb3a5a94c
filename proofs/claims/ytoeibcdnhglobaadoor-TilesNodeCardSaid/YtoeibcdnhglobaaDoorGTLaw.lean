/- pantileref12.Node, pantilelaw12.TilesNode: the walks. -/
import Derived.Deep.DeepCutAuto
import Derived.Test.YtoeibcdnhglobaaDoorGTRange
import Derived.Test.YtoeibcdnhglobaaDoorGTiles
import Derived.Test.YtoeibcdnhglobaaDoorF4
namespace Go.Proofs.YtoeibcdnhglobaaDoor.P
set_option linter.unusedVariables false
set_option linter.unusedSimpArgs false
open Go.RowKit Go.Shelf Go.Proofs.YtoeibcdnhglobaaDoorW.PrintWords Go.Proofs.YtoeibcdnhglobaaDoorW.PrintLast Go.Proofs.YtoeibcdnhglobaaDoorW.PrintMore
open Go.Proofs.YtoeibcdnhglobaaDoor.Pure

set_option maxRecDepth 100000 in
set_option maxHeartbeats 4000000 in
theorem RNode12_calls (A : Option Addr) (c : Nat) (l : List ByteArray) (hs : ∀ s ∈ l, s.size ≤ 32) (fr mn : Nat) (h : fr + mn ≤ l.length) (hl : l.length < 1000000000) (w : World) (hr : ReadsOf Value.string ByteArray.empty w A l.length l) (hc : l.length ≤ c) :
    Calls Tryd.prog 45 #[.slice A l.length c, .int .i64 fr, .int .i64 mn] w fun e w' => e = .returned (.string (rootH ((l.drop fr).take mn))) ∧ Below w.heap.size w w' := by
  obtain ⟨i9, hi9, _, hsz9, _⟩ := info_parts inf9
  have hs1 : (fr : Int) + (mn : Int) = ((fr + mn : Nat) : Int) := by omega
  obtain ⟨A', hcut, hA, hC⟩ := print_mid_of (P := Tryd.prog) Value.string ByteArray.empty 22 9 .i64 .i64 Tryd.underlying22 hi9 hsz9 A c l (fr : Nat) ((fr : Int) + (mn : Int)) (by omega) (by omega) (by omega) hc
  have hlist : (l.take ((fr : Int) + (mn : Int)).toNat).drop (fr : Int).toNat = (l.drop fr).take mn := by
    rw [hs1, Int.toNat_natCast, Int.toNat_natCast, List.drop_take, Nat.add_sub_cancel_left]
  rw [hlist] at hcut hA hC
  simp only [Int.toNat_natCast] at hcut hC
  have hll : ((l.drop fr).take mn).length = mn := by rw [List.length_take, List.length_drop]; omega
  have k := RootR_calls mn ((l.drop fr).take mn) (by omega) (by omega) (fun s hm => hs s (List.mem_of_mem_drop (List.mem_of_mem_take hm))) A' _ w (hA w hr) hC
  have b1 : (fr : Int) ≤ 1000000000 := by omega
  have b2 : (mn : Int) ≤ 1000000000 := by omega
  clear hs1 hlist hA hC hll hr hs
  generalize ((l.drop fr).take mn).length = n2 at *
  go_enter Tryd.func45, Tryd.ntmps45
  go_wp2_with (go_at_call 40; with_reducible refine k.mono ?_; rintro e w1 ⟨rfl, hb1⟩)
  go_ret
  exact ⟨rfl, hb1⟩
theorem own_cap2 {w : World} {base n : Nat} {e : TypeId} {size : Nat} {v : Value} {xs : List Value} (h : w.ownsRow base e size v n xs) : ∃ A c, v = .slice A n c ∧ n ≤ c := by
  rcases h.2 with ⟨rfl, h0⟩ | ⟨g, cap, cur, rfl, _, hg, hcap, _⟩
  · exact ⟨none, 0, by rw [h0], by omega⟩
  · exact ⟨_, _, rfl, hcap⟩
theorem hs32_len (d : List Int) : (hs32 d).length = d.length / 32 := by simp [hs32]
theorem hs32_get (d : List Int) (q : Nat) (h : q < (hs32 d).length) : (hs32 d)[q] = strOfNums ((d.drop (32 * q)).take 32) := by simp [hs32]
theorem hs32_sz (d : List Int) : ∀ s ∈ hs32 d, s.size ≤ 32 := by
  intro s hs
  obtain ⟨i, _, rfl⟩ := List.mem_map.1 hs
  simp [strOfNums, ByteArray.size]
  omega
set_option maxRecDepth 100000 in
set_option maxHeartbeats 8000000 in
theorem TilesNode_calls (A : Option Addr) (c : Nat) (d : List Int) (fr mn : Int) (w : World) (hr : ReadsInt w .u8 A d.length d) (hb : ∀ x ∈ d, 0 ≤ x ∧ x < 256) (hc : d.length ≤ c) (hT : TzTab w) (hG : GlobH w) :
    Calls Tryd.prog 8 #[.slice A d.length c, .int .i64 fr, .int .i64 mn] w fun e w' => e = .returned (.bool true) ∧ Below w.heap.size w w' := by
  obtain ⟨n0, hn0⟩ : ∃ n0, w.heap.size = n0 := ⟨_, rfl⟩
  obtain ⟨d2, m, hdm, hm, hr2, hb2, hcm, hcase⟩ : ∃ (d2 : List Int) (m : Nat), d2.length = m ∧ m ≤ 1280 ∧ ReadsInt w .u8 A m d2 ∧ (∀ x ∈ d2, 0 ≤ x ∧ x < 256) ∧ m ≤ c ∧
      ((decide ((1280 : Int) < (d.length : Int)) = true ∧ m = 1280 ∧ (1280 : Int) ≤ (c : Int)) ∨ (decide ((1280 : Int) < (d.length : Int)) = false ∧ m = d.length)) := by
    by_cases h : 1280 < d.length
    · exact ⟨d.take 1280, 1280, by rw [List.length_take]; omega, by omega, hr.take_ 1280 (by omega), fun x hx => hb x (List.mem_of_mem_take hx), by omega, .inl ⟨decide_eq_true (by omega), rfl, by omega⟩⟩
    · exact ⟨d, d.length, rfl, by omega, hr, hb, hc, .inr ⟨decide_eq_false (by omega), rfl⟩⟩
  have HR := Lib.hid hr2
  have HD := Lib.hid hdm
  have HB2 := Lib.hid hb2
  have HT := Lib.hid hT
  have HG := Lib.hid hG
  have HN := Lib.hid hn0
  have hown0 : w.ownsRow n0 9 1 (.slice none 0 0) ((hs32 d2).take 0).length (encs Value.string ((hs32 d2).take 0)) := by simpa [encs] using own_nil w n0 9 1
  have hbl0 : Below n0 w w := hn0 ▸ Below.refl _ _
  have HO := Lib.hid hown0
  have hmI : (m : Int) ≤ 1280 := by omega
  clear hr hb hc hr2 hb2 hT hG hdm hown0 hn0
  have kL := fun W => lives12_calls true W rfl
  obtain ⟨i9, hi9, _, hsz9, _⟩ := info_parts inf9
  have hstr := fun (W : World) (A : Option Addr) (n c : Nat) (xs : List Int) (h : ReadsInt W .u8 A n xs) => string_of_reads (P := Tryd.prog) (src := 47) (dst := 9) (c := c) Tryd.underlying47 Tryd.underlying5 Tryd.underlying9 h
  have HSTR := Lib.hid hstr
  have HL12 := Lib.hid kL
  clear hstr kL hi9 hsz9
  rcases hcase with ⟨h0, rfl, g0⟩ | ⟨h0, rfl⟩
  all_goals
    go_enter Tryd.func8, Tryd.ntmps8
    go_wp2
    go_loopw [7, 8] (fun v7 v8 wr => ∃ (q i : Nat), v8 = .int .i64 i ∧ Hid (i = 32 * q) ∧ i ≤ 1280 ∧ q ≤ (hs32 d2).length ∧ wr.ownsRow n0 9 1 v7 ((hs32 d2).take q).length (encs Value.string ((hs32 d2).take q)) ∧ Below n0 w wr) (fun _ v8 _ => 1312 - (intOf v8).toNat)
    case atStart => exact ⟨0, 0, rfl, Lib.hid rfl, by omega, by omega, HO.out, hbl0⟩
    case round =>
      obtain ⟨q, i, rfl, HI, hi, hq, hown, hbl⟩ := hrel
      have hdm := HD.out
      have hK := hs32_len d2
      by_cases hlt : i + 32 ≤ d2.length
      · have hqK : q < (hs32 d2).length := by have := HI.out; omega
        obtain ⟨ad, rfl, hcell⟩ := HR.out.2.2 (by omega)
        have hl32 : ((d2.drop (32 * q)).take 32).length = 32 := by have := HI.out; rw [List.length_take, List.length_drop]; omega
        have hrd : ReadsInt wr .u8 (some (ad.add i)) 32 ((d2.drop (32 * q)).take 32) := by
          refine ⟨hl32, by omega, fun _ => ⟨_, rfl, fun j hj => ?_⟩⟩
          have h1 := hcell (i + j) (by omega)
          have hb0 : Below w.heap.size w wr := by rw [HN.out]; exact hbl
          rw [add_add, pw_cell_below hb0 h1]
          have := HI.out
          simp [List.getD_eq_getElem?_getD, hj, this]
        have hcv := fun c => HSTR.out wr (some (ad.add i)) 32 c _ hrd
        have hsn : (hs32 d2).take q ++ [strOfNums ((d2.drop (32 * q)).take 32)] = (hs32 d2).take (q + 1) := by
          rw [List.take_succ_eq_append_getElem hqK, hs32_get]
        obtain ⟨x, hx⟩ : ∃ x, x = strOfNums ((d2.drop (32 * q)).take 32) := ⟨_, rfl⟩
        rw [← hx] at hcv hsn
        have HSN := Lib.hid hsn
        have HI2 : Hid (i + 32 = 32 * (q + 1)) := Lib.hid (by have := HI.out; omega)
        have hbs := hbl.size
        have hl16 : (((hs32 d2).take q).length + 1) * 16 ≤ 140737488355328 := by rw [List.length_take]; omega
        have hl0 : n0 ≤ wr.heap.size := by have := HN.out; omega
        have f1 : ((i : Int) + 32).toNat - i = 32 := by omega
        have f2 : ¬ (c = i) := by omega
        have f3 : ((i : Int) + 32) ≤ (c : Int) := by omega
        have f4 : (0 : Int) ≤ (i : Int) := by omega
        have f5 : (i : Int) ≤ 1280 := by omega
        have hd : decide ((i : Int) + 32 ≤ (d2.length : Int)) = true := decide_eq_true (by omega)
        rw [HD.out] at hd
        try simp only [Nat.cast_ofNat] at hd
        have hi2 : i + 32 ≤ 1280 := by omega
        clear hx hsn hdm hK hrd hl32 hcell
        obtain ⟨A3, c3, rfl, hc3⟩ := own_cap2 hown
        go_wp2_with (at_builtin; go_loud (refine print_append_of (w0 := w) Value.string n0 rfl _ _ 22 9 (.string ⟨#[]⟩) 16 rfl Tryd.underlying22 inf9 rfl (by decide) (.slice A3 ((hs32 d2).take q).length c3) ((hs32 d2).take q) x rfl rfl rfl hown hbl hl0 hl16 ?_; intro v4 w4 hown4 hB4 _ _; rw [HSN.out] at hown4))
        exact ⟨⟨q + 1, i + 32, by go_num, HI2, hi2, by omega, hown4, hB4⟩, by simp only [intOf]; omega⟩
      · have hqK : q = (hs32 d2).length := by have := HI.out; omega
        have hdl := HD.out
        first | have hd : decide ((i : Int) + 32 ≤ 1280) = false := decide_eq_false (by omega) | have hd : decide ((i : Int) + 32 ≤ (d.length : Int)) = false := decide_eq_false (by omega)
        clear hdl
        subst hqK
        rw [List.take_length] at hown
        obtain ⟨A3, c3, rfl, hc3⟩ := own_cap2 hown
        have hreads := own_reads_of' (d := ByteArray.empty) hown
        have hTw : TzTab wr := HT.out.below hbl (by have := HT.out.lt; have := HN.out; omega)
        have hGw : GlobH wr := HG.out.below (by rw [HN.out]; exact hbl)
        have hszs := hs32_sz d2
        have hlen1 : (hs32 d2).length ≤ 40 := by omega
        have HLL := Lib.hid hK
        have hl0' : n0 ≤ wr.heap.size := by have := hbl.size; have := HN.out; omega
        clear hown hK hdm
        by_cases hp : pwB mn = true ∧ 0 ≤ fr ∧ fr % mn = 0
        · obtain ⟨hp1, hp2, hp3⟩ := hp
          obtain ⟨b1, b2⟩ := pwB_bd hp1
          have e3 : decide (fr < 0) = false := decide_eq_false (by omega)
          have e4 : (fr % mn != 0) = false := by rw [hp3]; rfl
          have HP := Lib.hid hp1
          have HP3 := Lib.hid hp3
          have hpw := hp1
          by_cases hs : (((hs32 d2).length : Nat) : Int) < fr ∨ (((hs32 d2).length : Nat) : Int) < fr + mn
          · have kN := fun (m : Nat) (hm : d2.length = m) => TNode_short A m c (by have h1 := HD.out; omega) fr mn wr hp1 hp2 hp3 (by have h2 := HLL.out; omega)
            clear hp1 hp3
            obtain ⟨x1, k1⟩ : ∃ b, (mn == 1) = b := ⟨_, rfl⟩
            obtain ⟨x2, k2⟩ : ∃ b, (mn == 2) = b := ⟨_, rfl⟩
            obtain ⟨x4, k4⟩ : ∃ b, (mn == 4) = b := ⟨_, rfl⟩
            obtain ⟨x8, k8⟩ : ∃ b, (mn == 8) = b := ⟨_, rfl⟩
            obtain ⟨x16, k16⟩ : ∃ b, (mn == 16) = b := ⟨_, rfl⟩
            obtain ⟨x32, k32⟩ : ∃ b, (mn == 32) = b := ⟨_, rfl⟩
            obtain ⟨x64, k64⟩ : ∃ b, (mn == 64) = b := ⟨_, rfl⟩
            obtain ⟨x128, k128⟩ : ∃ b, (mn == 128) = b := ⟨_, rfl⟩
            obtain ⟨x256, k256⟩ : ∃ b, (mn == 256) = b := ⟨_, rfl⟩
            have HPW : Hid (pwB mn = (x1 || x2 || x4 || x8 || x16 || x32 || x64 || x128 || x256)) := Lib.hid (by unfold pwB; rw [k1, k2, k4, k8, k16, k32, k64, k128, k256])
            clear hpw
            go_upto_region 9 with (go_at_call 43; refine (kN _ HD.out).mono ?_; rintro e w1 ⟨rfl, hw1⟩; rw [hw1]; clear hw1 w1)
            go_cut [11] (fun s11 wx => s11 = .bool (pwB mn) ∧ wx = wr)
            case first =>
              go_wp2
              all_goals (go_meet; exact ⟨by rw [HPW.out]; simp [*], rfl⟩)
            case rest =>
              obtain ⟨rfl, rfl⟩ := hcut
              have hpw := HP.out
              clear k1 k2 k4 k8 k16 k32 k64 k128 k256 HPW
              by_cases hs3 : (((hs32 d2).length : Nat) : Int) < fr
              · have e5 : decide ((((hs32 d2).length : Nat) : Int) < fr) = true := decide_eq_true hs3
                clear hs
                go_wp2_with (go_at_call 44; refine (HL12.out _).mono ?_; rintro e w2 ⟨rfl, hb2⟩)
                go_ret
                exact ⟨rfl, HN.out.symm ▸ (hbl.trans (hb2.mono hl0'))⟩
              · have e5 : decide ((((hs32 d2).length : Nat) : Int) < fr) = false := decide_eq_false hs3
                have e6 : decide ((((hs32 d2).length : Nat) : Int) < fr + mn) = true := decide_eq_true (by omega)
                have e7 : fr ≤ 40 := by omega
                clear hs
                go_wp2_with (go_at_call 44; refine (HL12.out _).mono ?_; rintro e w2 ⟨rfl, hb2⟩)
                go_ret
                exact ⟨rfl, HN.out.symm ▸ (hbl.trans (hb2.mono hl0'))⟩
          · obtain ⟨f, rfl⟩ : ∃ f : Nat, fr = f := ⟨fr.toNat, by omega⟩
            obtain ⟨k, rfl⟩ : ∃ k : Nat, mn = k := ⟨mn.toNat, by omega⟩
            have hsz : f + k ≤ (hs32 d2).length := by omega
            have hpb := pwB_iff k (by omega) (by omega)
            rw [hp1] at hpb
            simp only [Bool.not_true] at hpb
            have hmd : (f + k) * 32 ≤ d2.length := by have h2 := HLL.out; omega
            have hb0 : Below w.heap.size w wr := by rw [HN.out]; exact hbl
            have hR2 : ReadsInt wr .u8 A d2.length d2 := by rw [HD.out]; exact HR.out.below hb0
            have kN := callsIn_wide.1 (TNode_in 10 (Nat.le_refl _) A c d2 wr hR2 HB2.out (by rw [HD.out]; exact hcm) (by rw [HD.out]; omega) f k (by omega) (by omega) hpb e4 hmd hTw hGw)
            have k45 := fun W (hW : Below wr.heap.size wr W) => RNode12_calls A3 c3 (hs32 d2) hszs f k hsz (by omega) W (hreads.below hW) hc3
            rw [HD.out] at kN
            have e5 : decide ((((hs32 d2).length : Nat) : Int) < (f : Int)) = false := decide_eq_false (by omega)
            have e6 : decide ((((hs32 d2).length : Nat) : Int) < (f : Int) + (k : Int)) = false := decide_eq_false (by omega)
            have e7 : (f : Int) ≤ 40 := by omega
            have e8 : (k : Int) ≤ 40 := by omega
            generalize hX : rootH (List.take k (List.drop f (hs32 d2))) = X at *
            clear hX hR2 hb0 hmd hpb hp1 hp3 hs
            obtain ⟨x1, k1⟩ : ∃ b, ((k : Int) == 1) = b := ⟨_, rfl⟩
            obtain ⟨x2, k2⟩ : ∃ b, ((k : Int) == 2) = b := ⟨_, rfl⟩
            obtain ⟨x4, k4⟩ : ∃ b, ((k : Int) == 4) = b := ⟨_, rfl⟩
            obtain ⟨x8, k8⟩ : ∃ b, ((k : Int) == 8) = b := ⟨_, rfl⟩
            obtain ⟨x16, k16⟩ : ∃ b, ((k : Int) == 16) = b := ⟨_, rfl⟩
            obtain ⟨x32, k32⟩ : ∃ b, ((k : Int) == 32) = b := ⟨_, rfl⟩
            obtain ⟨x64, k64⟩ : ∃ b, ((k : Int) == 64) = b := ⟨_, rfl⟩
            obtain ⟨x128, k128⟩ : ∃ b, ((k : Int) == 128) = b := ⟨_, rfl⟩
            obtain ⟨x256, k256⟩ : ∃ b, ((k : Int) == 256) = b := ⟨_, rfl⟩
            have HPW : Hid (pwB k = (x1 || x2 || x4 || x8 || x16 || x32 || x64 || x128 || x256)) := Lib.hid (by unfold pwB; rw [k1, k2, k4, k8, k16, k32, k64, k128, k256])
            clear hpw
            go_upto_region 9 with (go_at_call 43; refine kN.mono ?_; rintro e w1 ⟨rfl, hb1⟩; have k45' := k45 w1 hb1; clear k45 kN)
            go_cut [11] (fun s11 wx => s11 = .bool (pwB k) ∧ wx = w1)
            case first =>
              go_wp2
              all_goals (go_meet; exact ⟨by rw [HPW.out]; simp [*], rfl⟩)
            case rest =>
              obtain ⟨rfl, rfl⟩ := hcut
              have hpw := HP.out
              clear k1 k2 k4 k8 k16 k32 k64 k128 k256 HPW
              go_wp2_with (first
                | (go_at_call 45; go_loud (with_reducible refine k45'.mono ?_; rintro e w2 ⟨rfl, hb2⟩; clear k45'))
                | (go_at_call 44; refine (HL12.out _).mono ?_; rintro e w3 ⟨rfl, hb3⟩))
              go_ret
              exact ⟨rfl, HN.out.symm ▸ (hbl.trans ((hb1.trans ((hb2.trans (hb3.mono hb2.size)).mono hb1.size)).mono hl0'))⟩
        · have hbad : pwB mn = false ∨ fr < 0 ∨ (0 ≤ fr ∧ fr % mn ≠ 0) := by
            cases h1 : pwB mn with
            | false => exact .inl rfl
            | true =>
              rcases Int.lt_or_le fr 0 with h2 | h2
              · exact .inr (.inl h2)
              · exact .inr (.inr ⟨h2, fun h3 => hp ⟨h1, h2, h3⟩⟩)
          have kN := fun m => TNode_range A m c fr mn wr hbad
          have HBAD := Lib.hid hbad
          clear hp hbad
          obtain ⟨x1, k1⟩ : ∃ b, (mn == 1) = b := ⟨_, rfl⟩
          obtain ⟨x2, k2⟩ : ∃ b, (mn == 2) = b := ⟨_, rfl⟩
          obtain ⟨x4, k4⟩ : ∃ b, (mn == 4) = b := ⟨_, rfl⟩
          obtain ⟨x8, k8⟩ : ∃ b, (mn == 8) = b := ⟨_, rfl⟩
          obtain ⟨x16, k16⟩ : ∃ b, (mn == 16) = b := ⟨_, rfl⟩
          obtain ⟨x32, k32⟩ : ∃ b, (mn == 32) = b := ⟨_, rfl⟩
          obtain ⟨x64, k64⟩ : ∃ b, (mn == 64) = b := ⟨_, rfl⟩
          obtain ⟨x128, k128⟩ : ∃ b, (mn == 128) = b := ⟨_, rfl⟩
          obtain ⟨x256, k256⟩ : ∃ b, (mn == 256) = b := ⟨_, rfl⟩
          have HPW : Hid (pwB mn = (x1 || x2 || x4 || x8 || x16 || x32 || x64 || x128 || x256)) := Lib.hid (by unfold pwB; rw [k1, k2, k4, k8, k16, k32, k64, k128, k256])
          go_upto_region 9 with (go_at_call 43; refine (kN _).mono ?_; rintro e w1 ⟨rfl, hw1⟩; rw [hw1]; clear hw1 w1)
          go_cut [11] (fun s11 wx => s11 = .bool (pwB mn) ∧ wx = wr)
          case first =>
            go_wp2
            all_goals (go_meet; exact ⟨by rw [HPW.out]; simp [*], rfl⟩)
          case rest =>
            obtain ⟨rfl, rfl⟩ := hcut
            have HB := HBAD
            clear k1 k2 k4 k8 k16 k32 k64 k128 k256 HPW
            cases hpw : pwB mn with
            | false =>
              go_wp2_with (go_at_call 44; refine (HL12.out _).mono ?_; rintro e w2 ⟨rfl, hb2⟩)
              go_ret
              exact ⟨rfl, HN.out.symm ▸ (hbl.trans (hb2.mono hl0'))⟩
            | true =>
              obtain ⟨b1, b2⟩ := pwB_bd hpw
              rcases HBAD.out with h | h | ⟨h1, h2⟩
              · rw [hpw] at h; cases h
              · have e3 : decide (fr < 0) = true := decide_eq_true h
                go_wp2_with (go_at_call 44; refine (HL12.out _).mono ?_; rintro e w2 ⟨rfl, hb2⟩)
                go_ret
                exact ⟨rfl, HN.out.symm ▸ (hbl.trans (hb2.mono hl0'))⟩
              · have e3 : decide (fr < 0) = false := decide_eq_false (by omega)
                have e4 : (fr % mn != 0) = true := by rw [bne_iff_ne]; exact h2
                clear h2
                go_wp2_with (go_at_call 44; refine (HL12.out _).mono ?_; rintro e w2 ⟨rfl, hb2⟩)
                go_ret
                exact ⟨rfl, HN.out.symm ▸ (hbl.trans (hb2.mono hl0'))⟩
end Go.Proofs.YtoeibcdnhglobaaDoor.P
