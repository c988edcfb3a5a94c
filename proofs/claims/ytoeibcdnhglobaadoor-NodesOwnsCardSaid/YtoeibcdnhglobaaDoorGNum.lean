/- nodes.padded, pantileref15.pad, pantileref07.Decimal: numbers as texts. -/
import Derived.Shelf.Strings.Repeat
import Derived.Shelf.Strconv.Itoa3
import Derived.Lib.AppendIntMem
import Derived.Test.YtoeibcdnhglobaaDoorE5
namespace Go.Proofs
open Go.Shelf
def Tryd.lays171_ren : Go.Shelf.Ren := ⟨fun | 171 => 129 | 243 => 146 | 246 => 158 | 283 => 164 | 284 => 165 | 285 => 166 | 286 => 167 | 129 => 143 | 317 => 168 | 318 => 169 | 319 => 170 | 320 => 80 | 337 => 108 | 338 => 109 | n => n, fun | 3 => 3 | 9 => 9 | 2 => 2 | 4 => 4 | 171 => 190 | 0 => 0 | 53 => 135 | 37 => 47 | 5 => 5 | 173 => 192 | 212 => 195 | 51 => 133 | 20 => 20 | 213 => 196 | 46 => 93 | 232 => 159 | 233 => 160 | n => n, fun | 17 => 5 | 18 => 0 | 19 => 1 | n => n⟩
theorem Tryd.lays171 : Go.Proofs.LaysM.n171 Tryd.prog Tryd.lays171_ren := {
  mixed := by kernel_rfl
  f129 := Tryd.func143.trans (congrArg some (by kernel_rfl))
  f171 := Tryd.func129.trans (congrArg some (by kernel_rfl))
  f243 := Tryd.func146.trans (congrArg some (by kernel_rfl))
  f246 := Tryd.func158.trans (congrArg some (by kernel_rfl))
  f283 := Tryd.func164.trans (congrArg some (by kernel_rfl))
  f284 := Tryd.func165.trans (congrArg some (by kernel_rfl))
  f285 := Tryd.func166.trans (congrArg some (by kernel_rfl))
  f286 := Tryd.func167.trans (congrArg some (by kernel_rfl))
  f317 := Tryd.func168.trans (congrArg some (by kernel_rfl))
  f318 := Tryd.func169.trans (congrArg some (by kernel_rfl))
  f319 := Tryd.func170.trans (congrArg some (by kernel_rfl))
  f320 := Tryd.func80.trans (congrArg some (by kernel_rfl))
  f337 := Tryd.func108.trans (congrArg some (by kernel_rfl))
  f338 := Tryd.func109.trans (congrArg some (by kernel_rfl))
  t0 := Tryd.underlying0
  a0 := Tryd.isAgg0
  z0 := Tryd.sizeOf0
  v0 := Tryd.zeroValue0
  t2 := Tryd.underlying2
  a2 := Tryd.isAgg2
  z2 := Tryd.sizeOf2
  v2 := Tryd.zeroValue2
  t3 := Tryd.underlying3
  a3 := Tryd.isAgg3
  z3 := Tryd.sizeOf3
  v3 := Tryd.zeroValue3
  t4 := Tryd.underlying4
  a4 := Tryd.isAgg4
  z4 := Tryd.sizeOf4
  v4 := Tryd.zeroValue4
  t5 := Tryd.underlying5
  a5 := Tryd.isAgg5
  z5 := Tryd.sizeOf5
  v5 := Tryd.zeroValue5
  t9 := Tryd.underlying9
  a9 := Tryd.isAgg9
  z9 := Tryd.sizeOf9
  v9 := Tryd.zeroValue9
  t20 := Tryd.underlying20
  a20 := Tryd.isAgg20
  z20 := Tryd.sizeOf20
  v20 := Tryd.zeroValue20
  t37 := Tryd.underlying47
  a37 := Tryd.isAgg47
  z37 := Tryd.sizeOf47
  v37 := Tryd.zeroValue47
  t46 := Tryd.underlying93
  a46 := Tryd.isAgg93
  z46 := Tryd.sizeOf93
  v46 := Tryd.zeroValue93
  t51 := Tryd.underlying133
  a51 := Tryd.isAgg133
  z51 := Tryd.sizeOf133
  v51 := Tryd.zeroValue133
  t53 := Tryd.underlying135
  a53 := Tryd.isAgg135
  z53 := Tryd.sizeOf135
  v53 := Tryd.zeroValue135
  t171 := Tryd.underlying190
  a171 := Tryd.isAgg190
  z171 := Tryd.sizeOf190
  v171 := Tryd.zeroValue190
  t173 := Tryd.underlying192
  a173 := Tryd.isAgg192
  z173 := Tryd.sizeOf192
  v173 := Tryd.zeroValue192
  t212 := Tryd.underlying195
  a212 := Tryd.isAgg195
  z212 := Tryd.sizeOf195
  v212 := Tryd.zeroValue195
  t213 := Tryd.underlying196
  a213 := Tryd.isAgg196
  z213 := Tryd.sizeOf196
  t232 := Tryd.underlying159
  a232 := Tryd.isAgg159
  z232 := Tryd.sizeOf159
  v232 := Tryd.zeroValue159
  t233 := Tryd.underlying160
  a233 := Tryd.isAgg160
  z233 := Tryd.sizeOf160
  v233 := Tryd.zeroValue160
  g17 := by kernel_rfl
  g18 := by kernel_rfl
  g19 := by kernel_rfl
  i0 := by kernel_rfl
  i2 := by kernel_rfl
  i3 := by kernel_rfl
  i4 := by kernel_rfl
  i5 := by kernel_rfl
  i9 := by kernel_rfl
  i20 := by kernel_rfl
  i37 := by kernel_rfl
  i46 := by kernel_rfl
  i51 := by kernel_rfl
  i53 := by kernel_rfl
  i171 := by kernel_rfl
  i173 := by kernel_rfl
  i212 := by kernel_rfl
  i232 := by kernel_rfl
  i233 := by kernel_rfl
  m17 := by kernel_rfl
  m18 := by kernel_rfl
  m19 := by kernel_rfl }
def Tryd.lays105_ren : Go.Shelf.Ren := ⟨fun | 105 => 130 | 212 => 147 | 99 => 148 | 165 => 124 | 166 => 125 | 170 => 149 | 169 => 126 | 263 => 159 | 264 => 160 | 206 => 161 | 240 => 144 | 241 => 145 | 276 => 156 | 277 => 157 | n => n, fun | 9 => 9 | 3 => 3 | 4 => 4 | 20 => 20 | 0 => 0 | 46 => 93 | 109 => 172 | 5 => 5 | 72 => 153 | 76 => 156 | 51 => 133 | 146 => 184 | 53 => 135 | 148 => 186 | 70 => 151 | 37 => 47 | 75 => 155 | 127 => 171 | 164 => 180 | 80 => 122 | n => n, fun | n => n⟩
theorem Tryd.lays105 : Go.Proofs.Lays.n105 Tryd.prog Tryd.lays105_ren := {
  mixed := by kernel_rfl
  f99 := Tryd.func148.trans (congrArg some (by kernel_rfl))
  f105 := Tryd.func130.trans (congrArg some (by kernel_rfl))
  f165 := Tryd.func124.trans (congrArg some (by kernel_rfl))
  f166 := Tryd.func125.trans (congrArg some (by kernel_rfl))
  f169 := Tryd.func126.trans (congrArg some (by kernel_rfl))
  f170 := Tryd.func149.trans (congrArg some (by kernel_rfl))
  f206 := Tryd.func161.trans (congrArg some (by kernel_rfl))
  f212 := Tryd.func147.trans (congrArg some (by kernel_rfl))
  f240 := Tryd.func144.trans (congrArg some (by kernel_rfl))
  f241 := Tryd.func145.trans (congrArg some (by kernel_rfl))
  f263 := Tryd.func159.trans (congrArg some (by kernel_rfl))
  f264 := Tryd.func160.trans (congrArg some (by kernel_rfl))
  f276 := Tryd.func156.trans (congrArg some (by kernel_rfl))
  f277 := Tryd.func157.trans (congrArg some (by kernel_rfl))
  t0 := Tryd.underlying0
  a0 := Tryd.isAgg0
  z0 := Tryd.sizeOf0
  v0 := Tryd.zeroValue0
  t3 := Tryd.underlying3
  a3 := Tryd.isAgg3
  z3 := Tryd.sizeOf3
  v3 := Tryd.zeroValue3
  t4 := Tryd.underlying4
  a4 := Tryd.isAgg4
  z4 := Tryd.sizeOf4
  v4 := Tryd.zeroValue4
  t5 := Tryd.underlying5
  a5 := Tryd.isAgg5
  z5 := Tryd.sizeOf5
  v5 := Tryd.zeroValue5
  t9 := Tryd.underlying9
  a9 := Tryd.isAgg9
  z9 := Tryd.sizeOf9
  v9 := Tryd.zeroValue9
  t20 := Tryd.underlying20
  a20 := Tryd.isAgg20
  z20 := Tryd.sizeOf20
  v20 := Tryd.zeroValue20
  t37 := Tryd.underlying47
  a37 := Tryd.isAgg47
  z37 := Tryd.sizeOf47
  v37 := Tryd.zeroValue47
  t46 := Tryd.underlying93
  a46 := Tryd.isAgg93
  z46 := Tryd.sizeOf93
  v46 := Tryd.zeroValue93
  t51 := Tryd.underlying133
  a51 := Tryd.isAgg133
  z51 := Tryd.sizeOf133
  v51 := Tryd.zeroValue133
  t53 := Tryd.underlying135
  a53 := Tryd.isAgg135
  z53 := Tryd.sizeOf135
  v53 := Tryd.zeroValue135
  t70 := Tryd.underlying151
  a70 := Tryd.isAgg151
  z70 := Tryd.sizeOf151
  v70 := Tryd.zeroValue151
  t72 := Tryd.underlying153
  a72 := Tryd.isAgg153
  z72 := Tryd.sizeOf153
  v72 := Tryd.zeroValue153
  t75 := Tryd.underlying155
  a75 := Tryd.isAgg155
  z75 := Tryd.sizeOf155
  v75 := Tryd.zeroValue155
  t76 := Tryd.underlying156
  a76 := Tryd.isAgg156
  z76 := Tryd.sizeOf156
  v76 := Tryd.zeroValue156
  t109 := Tryd.underlying172
  a109 := Tryd.isAgg172
  z109 := Tryd.sizeOf172
  v109 := Tryd.zeroValue172
  t127 := Tryd.underlying171
  a127 := Tryd.isAgg171
  z127 := Tryd.sizeOf171
  v127 := Tryd.zeroValue171
  t146 := Tryd.underlying184
  a146 := Tryd.isAgg184
  z146 := Tryd.sizeOf184
  v146 := Tryd.zeroValue184
  t148 := Tryd.underlying186
  a148 := Tryd.isAgg186
  z148 := Tryd.sizeOf186
  v148 := Tryd.zeroValue186
  t164 := Tryd.underlying180
  a164 := Tryd.isAgg180
  z164 := Tryd.sizeOf180
  v164 := Tryd.zeroValue180 }
end Go.Proofs
namespace Go.Proofs.YtoeibcdnhglobaaDoor.P
set_option linter.unusedVariables false
set_option linter.unusedSimpArgs false
open Go.RowKit Go.Shelf Go.Proofs.YtoeibcdnhglobaaDoorW.PrintWords Go.Proofs.YtoeibcdnhglobaaDoorW.PrintLast Go.Proofs.YtoeibcdnhglobaaDoorW.PrintMore
open Go.Proofs.YtoeibcdnhglobaaDoor.Pure

theorem builderX105 : Builder.Extra Tryd.prog Tryd.lays105_ren where
  sizeBuilder := by kernel_rfl
  liesBuilder := by kernel_rfl
  t5 := Tryd.underlying5
  a5 := Tryd.isAgg5
  z5 := Tryd.sizeOf5
  v5 := Tryd.zeroValue5
  infoByte := by kernel_rfl
  cellsByte := by kernel_rfl
  sizeByte := by kernel_rfl
  neB5 := by decide
/-- The table of powers of ten lies in memory. -/
def PowTab (w : World) : Prop := Lib.TabBelow Tryd.prog w.heap.size w "internal/strconv.uint64pow10" .u64 Lib.pow10Tab
theorem PowTab.below {w w' : World} (h : PowTab w) (hb : Below w.heap.size w w') : PowTab w' := Lib.tabBelow_of_tabIs (h.on hb).here
theorem Itoa_calls (n : Int) (h0 : -9223372036854775808 ≤ n) (h1 : n ≤ 9223372036854775807) (w : World) (hp : PowTab w) :
    Calls Tryd.prog 129 #[.int .i64 n] w fun e w' => e = .returned (.string ⟨(Lib.itoa n).toArray⟩) ∧ Below w.heap.size w w' :=
  (Any.strconv_Itoa Tryd.lays171 n h0 h1 w hp.here).mono fun e w' ⟨he, k, os, hw⟩ => ⟨he, hw ▸ Lib.below_grow w.heap.size w (Nat.le_refl _) k os⟩
theorem Repeat_calls (s : ByteArray) (c : Nat) (w : World) (hc : c ≤ 9223372036854775807) (hlen : s.size * c ≤ 140737488355328) :
    Calls Tryd.prog 130 #[.string s, .int .i64 c] w fun e w' => e = .returned (.string ⟨(Lib.repeatL s.data.toList c).toArray⟩) ∧ Below w.heap.size w w' :=
  Any.strings_Repeat Tryd.lays105 builderX105 s c w hc hlen
/-- The decimal digits of a number that is not below zero. -/
def decS (n : Nat) : ByteArray := ⟨(Lib.decDigits n).toArray⟩
theorem decS_size (n : Nat) : (decS n).size = Lib.nDigits n := by
  show (Lib.decDigits n).toArray.size = _
  rw [List.size_toArray, Lib.decDigits_length]
theorem nDigits_le : ∀ (k n : Nat), n < 10 ^ (k + 1) → Lib.nDigits n ≤ k + 1
  | 0, n, h => by rw [Lib.nDigits_small (by simpa using h)]; exact Nat.le_refl _
  | k + 1, n, h => by
    by_cases h10 : n < 10
    · rw [Lib.nDigits_small h10]; omega
    · rw [Lib.nDigits_big h10]
      have := nDigits_le k (n / 10) (by rw [Nat.pow_succ] at h; omega)
      omega
theorem decS_le (n : Nat) (h : n ≤ 9223372036854775807) : (decS n).size ≤ 19 := by
  rw [decS_size]; exact nDigits_le 18 n (by omega)
/-- A number, with zeros ahead up to k digits. -/
def padS (n : Nat) (k : Nat) : ByteArray := ⟨(List.replicate (k - (decS n).size) 48).toArray⟩ ++ decS n
theorem dec_step (n : Nat) (h : ¬ n < 10) : decS (n / 10) ++ ⟨#[UInt8.ofNat (48 + n % 10)]⟩ = decS n := by
  unfold decS
  rw [Lib.decDigits.eq_1 n, dif_neg h]
  apply ByteArray.ext
  simp
theorem dec_small (n : Nat) (h : n < 10) : decS n = ⟨#[UInt8.ofNat (48 + n)]⟩ := by
  unfold decS
  rw [Lib.decDigits_one h]
set_option maxRecDepth 100000 in
set_option maxHeartbeats 4000000 in
theorem padded_calls (n : Int) (k : Nat) (hk : k ≤ 100) (h0 : -9223372036854775808 ≤ n) (h1 : n ≤ 9223372036854775807) (w : World) (hp : PowTab w) :
    Calls Tryd.prog 104 #[.int .i64 n, .int .i64 k] w fun e w' => e = .returned (.string (padS n.toNat k)) ∧ Below w.heap.size w w' := by
  have hm : max n 0 = (n.toNat : Int) := by omega
  have kI := Itoa_calls (n.toNat : Int) (by omega) (by omega) w hp
  rw [Lib.itoa_nonneg] at kI
  have hs := decS_le n.toNat (by omega)
  have kR := fun (W : World) => Repeat_calls ⟨#[48]⟩ (k - (decS n.toNat).size) W (by omega) (by
    have : (⟨#[48]⟩ : ByteArray).size = 1 := rfl
    rw [this]; omega)
  have hrep : Lib.repeatL (⟨#[48]⟩ : ByteArray).data.toList (k - (decS n.toNat).size) = List.replicate (k - (decS n.toNat).size) 48 := by
    have := Lib.repeatL_replicate 48 1 (k - (decS n.toNat).size)
    simpa using this
  rw [hrep] at kR
  have hfin : (⟨(List.replicate (k - (decS n.toNat).size) 48).toArray⟩ : ByteArray) ++ decS n.toNat = padS n.toNat k := rfl
  have kI' : Calls Tryd.prog 129 #[.int .i64 (n.toNat : Int)] w fun e w' => e = .returned (.string (decS n.toNat)) ∧ Below w.heap.size w w' := kI
  rw [← hfin]
  have hmx : max 0 ((k : Int) - ((decS n.toNat).size : Int)) = ((k - (decS n.toNat).size : Nat) : Int) := by omega
  generalize decS n.toNat = D at *
  have hzs : ¬ 9223372036854775807 < (⟨(List.replicate (k - D.size) 48).toArray⟩ : ByteArray).size + D.size := by
    have e : (⟨(List.replicate (k - D.size) 48).toArray⟩ : ByteArray).size = k - D.size := by
      show (List.replicate (k - D.size) (48 : UInt8)).toArray.size = _
      simp
    rw [e]; omega
  generalize hZ : (⟨(List.replicate (k - D.size) 48).toArray⟩ : ByteArray) = Z at *
  obtain ⟨m, hmm⟩ : ∃ m : Nat, m = n.toNat := ⟨_, rfl⟩
  rw [← hmm] at hm kI'
  generalize k - D.size = c at *
  have hkI : (k : Int) ≤ 100 := by omega
  have hsI : (D.size : Int) ≤ 19 := by omega
  clear hZ hrep hmm kI hfin hp
  go_enter Tryd.func104, Tryd.ntmps104
  go_wp2_with (first
    | (go_at_call 129; go_loud (with_reducible refine kI'.mono ?_; rintro e w1 ⟨rfl, hb1⟩))
    | (go_at_call 130; go_loud (with_reducible refine (kR _).mono ?_; rintro e w2 ⟨rfl, hb2⟩)))
  go_ret
  exact ⟨rfl, hb1.trans (hb2.mono hb1.size)⟩
set_option maxRecDepth 100000 in
set_option maxHeartbeats 4000000 in
theorem Decimal_calls (d : Nat) : ∀ (n : Nat), n < d → n ≤ 9223372036854775807 → ∀ (w : World),
    Calls Tryd.prog 131 #[.int .i64 n] w fun e w' => e = .returned (.string (decS n)) ∧ Below w.heap.size w w' := by
  induction d with
  | zero => intro n h; omega
  | succ d ih =>
    intro n hd hle w
    have hstr := fun (W : World) (A : Option Addr) (n c : Nat) (xs : List Int) (h : ReadsInt W .u8 A n xs) => string_of_reads (P := Tryd.prog) (src := 47) (dst := 9) (c := c) Tryd.underlying47 Tryd.underlying5 Tryd.underlying9 h
    obtain ⟨r, hr⟩ : ∃ r : Nat, r = n % 10 := ⟨_, rfl⟩
    have hone : ∀ W : World, ReadsInt (W.alloc (.cells #[.int .u8 (48 + (r : Int))] 5)) .u8 (some ⟨W.heap.size, 0, none⟩) 1 [48 + (r : Int)] := fun W => by
      have hn := heap_alloc_new W (.cells #[.int .u8 (48 + (r : Int))] 5)
      refine ⟨rfl, by simp, fun _ => ⟨_, rfl, fun j hj => ?_⟩⟩
      have hj0 : j = 0 := by omega
      subst hj0
      rw [add_plain]
      unfold World.cell?
      simp only []
      rw [hn]
      rfl
    have kS := fun (W : World) => hstr _ _ 1 1 _ (hone W)
    have hS : strOfNums [48 + (r : Int)] = ⟨#[UInt8.ofNat (48 + r)]⟩ := by
      unfold strOfNums
      have : (48 + (r : Int)).toNat = 48 + r := by omega
      simp [this]
    rw [hS] at kS
    have hbel : Below w.heap.size w (w.alloc (.cells #[.int .u8 (48 + (r : Int))] 5)) := (Below.refl _ w).alloc (Nat.le_refl _) _
    have hmod : ((n : Int)) % 10 = (r : Int) := by omega
    have hr10 : (r : Int) < 10 := by omega
    have hw8 : IntKind.u8.wrap (48 + (r : Int)) = 48 + (r : Int) := by rw [IntKind.wrap_u8]; omega
    have e0 : decide ((n : Int) < 0) = false := decide_eq_false (by omega)
    have hnI : (n : Int) ≤ 9223372036854775807 := by omega
    have HBEL := Lib.hid hbel
    by_cases h10 : n < 10
    · have hre : r = n := by omega
      have e1 : decide (9 < (n : Int)) = false := decide_eq_false (by omega)
      have hf := dec_small n h10
      rw [← hre] at hf
      rw [← hre, hf]
      rw [← hre] at e0 e1 hmod hnI
      generalize (⟨#[UInt8.ofNat (48 + r)]⟩ : ByteArray) = Z at *
      clear hstr hone hS ih hf hbel hr hre hd hle h10
      go_enter Tryd.func131, Tryd.ntmps131
      go_wp2
      go_ret
      exact ⟨rfl, HBEL.out⟩
    · have e1 : decide (9 < (n : Int)) = true := decide_eq_true (by omega)
      obtain ⟨q, hq⟩ : ∃ q : Nat, q = n / 10 := ⟨_, rfl⟩
      have hdiv : (n : Int) / 10 = (q : Int) := by omega
      have k1 := fun W => ih q (by omega) (by omega) W
      have hf := dec_step n h10
      rw [← hq, ← hr] at hf
      rw [← hf]
      have hqs := decS_le q (by omega)
      generalize decS q = D at *
      have hzs : ¬ 9223372036854775807 < D.size + (⟨#[UInt8.ofNat (48 + r)]⟩ : ByteArray).size := by
        have : (⟨#[UInt8.ofNat (48 + r)]⟩ : ByteArray).size = 1 := rfl
        omega
      generalize (⟨#[UInt8.ofNat (48 + r)]⟩ : ByteArray) = Z at *
      clear hstr hone hS ih hf hbel hr hq hd hle h10
      go_enter Tryd.func131, Tryd.ntmps131
      go_wp2_with (go_at_call 131; go_loud (refine (k1 _).mono ?_; rintro e w1 ⟨rfl, hb1⟩))
      go_ret
      exact ⟨rfl, HBEL.out.trans (hb1.mono HBEL.out.size)⟩
theorem pad_push (D : ByteArray) (j : Nat) : (⟨#[48]⟩ : ByteArray) ++ (⟨(List.replicate j 48).toArray⟩ ++ D) = ⟨(List.replicate (j + 1) 48).toArray⟩ ++ D := by
  apply ByteArray.ext
  apply Array.toList_inj.1
  simp [List.replicate_succ]
set_option maxRecDepth 100000 in
set_option maxHeartbeats 4000000 in
theorem pad_calls (n : Int) (k : Nat) (hk : k ≤ 100) (h1 : n ≤ 9223372036854775807) (w : World) :
    Calls Tryd.prog 105 #[.int .i64 n, .int .i64 k] w fun e w' => e = .returned (.string (padS n.toNat k)) ∧ Below w.heap.size w w' := by
  have hs := decS_le n.toNat (by omega)
  have hfin : (⟨(List.replicate (k - (decS n.toNat).size) 48).toArray⟩ : ByteArray) ++ decS n.toNat = padS n.toNat k := rfl
  rw [← hfin]
  clear hfin
  have hkI : (k : Int) ≤ 100 := by omega
  have loop : ∀ (v0 : Value) (m : Nat) (w1 : World), Below w.heap.size w w1 → True := fun _ _ _ _ => trivial
  by_cases hn : n < 0
  · have kD : ∀ W : World, Calls Tryd.prog 131 #[.int .i64 0] W fun e w' => e = .returned (.string (decS 0)) ∧ Below W.heap.size W w' := fun W => Decimal_calls 1 0 (by omega) (by omega) W
    have hz : n.toNat = 0 := by omega
    rw [hz] at hs ⊢
    have d1 : decide (n < 0) = true := decide_eq_true hn
    generalize decS 0 = D at *
    clear hn hz
    go_enter Tryd.func105, Tryd.ntmps105
    go_wp2_with (go_at_call 131; go_loud (refine (kD _).mono ?_; rintro e w1 ⟨rfl, hb1⟩))
    go_loopw [5] (fun v5 wr => ∃ j : Nat, v5 = .string (⟨(List.replicate j 48).toArray⟩ ++ D) ∧ j ≤ k - D.size ∧ wr = w1) (fun v5 _ => match v5 with | .string s => k - s.size | _ => 0)
    case atStart => exact ⟨0, by congr 1, by omega, rfl⟩
    case round =>
      obtain ⟨j, rfl, hj, rfl⟩ := hrel
      have hp := pad_push D j
      have hsz : ((⟨(List.replicate j 48).toArray⟩ : ByteArray) ++ D).size = j + D.size := by
        rw [ByteArray.size_append]
        have : (⟨(List.replicate j 48).toArray⟩ : ByteArray).size = j := by
          show (List.replicate j (48 : UInt8)).toArray.size = _
          simp
        omega
      have hsz2 : ((⟨(List.replicate (j + 1) 48).toArray⟩ : ByteArray) ++ D).size = j + 1 + D.size := by
        rw [ByteArray.size_append]
        have : (⟨(List.replicate (j + 1) 48).toArray⟩ : ByteArray).size = j + 1 := by
          show (List.replicate (j + 1) (48 : UInt8)).toArray.size = _
          simp
        omega
      have hbig : ¬ 9223372036854775807 < (⟨#[48]⟩ : ByteArray).size + ((⟨(List.replicate j 48).toArray⟩ : ByteArray) ++ D).size := by
        rw [hsz]
        have : (⟨#[48]⟩ : ByteArray).size = 1 := rfl
        omega
      by_cases hlt : j + D.size < k
      · have hd : decide (((⟨(List.replicate j 48).toArray⟩ : ByteArray) ++ D).size < k) = true := decide_eq_true (by rw [hsz]; exact hlt)
        have HP := Lib.hid hp
        have H1 := Lib.hid hsz
        have H2 := Lib.hid hsz2
        clear hp hsz hsz2
        generalize hX : (⟨(List.replicate j 48).toArray⟩ : ByteArray) ++ D = X at *
        generalize hO : (⟨#[48]⟩ : ByteArray) = O at *
        have HO := Lib.hid hO
        clear hO hX
        go_wp2
        exact ⟨⟨j + 1, by rw [← HP.out], by omega, trivial⟩, by have e1 := H1.out; have e2 := H2.out; have e3 := HP.out; simp only []; rw [e3, e1, e2]; omega⟩
      · have hd : decide (((⟨(List.replicate j 48).toArray⟩ : ByteArray) ++ D).size < k) = false := decide_eq_false (by rw [hsz]; exact hlt)
        have hje : j = k - D.size := by omega
        have HX := Lib.hid (show (⟨(List.replicate j 48).toArray⟩ : ByteArray) ++ D = ⟨(List.replicate (k - D.size) 48).toArray⟩ ++ D by rw [hje])
        clear hp hsz hsz2 hje
        generalize (⟨(List.replicate j 48).toArray⟩ : ByteArray) ++ D = X at *
        go_wp2
        go_ret
        exact ⟨by rw [← HX.out]; rfl, hb1⟩
  · obtain ⟨m, rfl⟩ : ∃ m : Nat, n = m := ⟨n.toNat, by omega⟩
    have kD := fun W : World => Decimal_calls (m + 1) m (by omega) (by omega) W
    rw [Int.toNat_natCast] at hs ⊢
    have d1 : decide ((m : Int) < 0) = false := decide_eq_false hn
    generalize decS m = D at *
    clear hn
    go_enter Tryd.func105, Tryd.ntmps105
    go_wp2_with (go_at_call 131; go_loud (refine (kD _).mono ?_; rintro e w1 ⟨rfl, hb1⟩))
    go_loopw [5] (fun v5 wr => ∃ j : Nat, v5 = .string (⟨(List.replicate j 48).toArray⟩ ++ D) ∧ j ≤ k - D.size ∧ wr = w1) (fun v5 _ => match v5 with | .string s => k - s.size | _ => 0)
    case atStart => exact ⟨0, by congr 1, by omega, rfl⟩
    case round =>
      obtain ⟨j, rfl, hj, rfl⟩ := hrel
      have hp := pad_push D j
      have hsz : ((⟨(List.replicate j 48).toArray⟩ : ByteArray) ++ D).size = j + D.size := by
        rw [ByteArray.size_append]
        have : (⟨(List.replicate j 48).toArray⟩ : ByteArray).size = j := by
          show (List.replicate j (48 : UInt8)).toArray.size = _
          simp
        omega
      have hsz2 : ((⟨(List.replicate (j + 1) 48).toArray⟩ : ByteArray) ++ D).size = j + 1 + D.size := by
        rw [ByteArray.size_append]
        have : (⟨(List.replicate (j + 1) 48).toArray⟩ : ByteArray).size = j + 1 := by
          show (List.replicate (j + 1) (48 : UInt8)).toArray.size = _
          simp
        omega
      have hbig : ¬ 9223372036854775807 < (⟨#[48]⟩ : ByteArray).size + ((⟨(List.replicate j 48).toArray⟩ : ByteArray) ++ D).size := by
        rw [hsz]
        have : (⟨#[48]⟩ : ByteArray).size = 1 := rfl
        omega
      by_cases hlt : j + D.size < k
      · have hd : decide (((⟨(List.replicate j 48).toArray⟩ : ByteArray) ++ D).size < k) = true := decide_eq_true (by rw [hsz]; exact hlt)
        have HP := Lib.hid hp
        have H1 := Lib.hid hsz
        have H2 := Lib.hid hsz2
        clear hp hsz hsz2
        generalize hX : (⟨(List.replicate j 48).toArray⟩ : ByteArray) ++ D = X at *
        generalize hO : (⟨#[48]⟩ : ByteArray) = O at *
        have HO := Lib.hid hO
        clear hO hX
        go_wp2
        exact ⟨⟨j + 1, by rw [← HP.out], by omega, trivial⟩, by have e1 := H1.out; have e2 := H2.out; have e3 := HP.out; simp only []; rw [e3, e1, e2]; omega⟩
      · have hd : decide (((⟨(List.replicate j 48).toArray⟩ : ByteArray) ++ D).size < k) = false := decide_eq_false (by rw [hsz]; exact hlt)
        have hje : j = k - D.size := by omega
        have HX := Lib.hid (show (⟨(List.replicate j 48).toArray⟩ : ByteArray) ++ D = ⟨(List.replicate (k - D.size) 48).toArray⟩ ++ D by rw [hje])
        clear hp hsz hsz2 hje
        generalize (⟨(List.replicate j 48).toArray⟩ : ByteArray) ++ D = X at *
        go_wp2
        go_ret
        exact ⟨by rw [← HX.out]; rfl, hb1⟩
end Go.Proofs.YtoeibcdnhglobaaDoor.P
