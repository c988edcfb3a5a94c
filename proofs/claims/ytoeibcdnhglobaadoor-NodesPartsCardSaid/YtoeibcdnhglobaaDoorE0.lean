/- Texts of the seat, joined: PureBits, PureSha, PureMsg, PureStack. -/
import Derived.Lib.TrailingZeros
/- The bit identities between the two forms of SHA-256's words. No program in sight. -/
namespace Go.Proofs.YtoeibcdnhglobaaDoor.Pure
set_option linter.unusedVariables false
set_option linter.unusedSimpArgs false
/-- A word of 32 bits turned right by n: the document's form. -/
def rotr (n x : Nat) : Nat := x / 2 ^ n + x % 2 ^ n * 2 ^ (32 - n)
/-- .. as a left turn by 32 - n in bits. -/
theorem rotr_or (n x : Nat) (hn : n ≤ 32) (hx : x < 4294967296) : x * 2 ^ (32 - n) % 4294967296 ||| x / 2 ^ n = rotr n x := by
  have e32 : (4294967296 : Nat) = 2 ^ n * 2 ^ (32 - n) := by rw [← Nat.pow_add, show n + (32 - n) = 32 by omega]
  have h1 : x * 2 ^ (32 - n) % 4294967296 = 2 ^ (32 - n) * (x % 2 ^ n) := by
    rw [e32, Nat.mul_mod_mul_right, Nat.mul_comm]
  have h2 : x / 2 ^ n < 2 ^ (32 - n) := by
    rw [Nat.div_lt_iff_lt_mul (Nat.two_pow_pos n), Nat.mul_comm, ← e32]; exact hx
  rw [h1, ← Nat.two_pow_add_eq_or_of_lt h2]
  unfold rotr
  rw [Nat.mul_comm, Nat.add_comm]
theorem rotr_lt (n x : Nat) (hn : n ≤ 32) (hx : x < 4294967296) : rotr n x < 4294967296 := by
  rw [← rotr_or n x hn hx]
  refine Nat.or_lt_two_pow (n := 32) (Nat.mod_lt _ (by decide)) ?_
  exact Nat.lt_of_le_of_lt (Nat.div_le_self _ _) hx
/-- The choice. -/
def chN (e f g : Nat) : Nat := (e &&& f) ||| ((4294967295 ^^^ e) &&& g)
theorem ch_eq (e f g : Nat) (he : e < 4294967296) (hf : f < 4294967296) (hg : g < 4294967296) : g ^^^ (e &&& (f ^^^ g)) = chN e f g := by
  unfold chN
  apply Nat.eq_of_testBit_eq
  intro i
  simp only [Nat.testBit_xor, Nat.testBit_and, Nat.testBit_or]
  rw [show (4294967295 : Nat) = 2 ^ 32 - 1 from rfl, Nat.testBit_two_pow_sub_one]
  by_cases hi : i < 32
  · simp only [hi, decide_true]
    cases e.testBit i <;> cases f.testBit i <;> cases g.testBit i <;> rfl
  · have z : ∀ x : Nat, x < 4294967296 → x.testBit i = false := fun x hx => Nat.testBit_lt_two_pow (Nat.lt_of_lt_of_le hx (Nat.pow_le_pow_right (n := 2) (by decide) (show 32 ≤ i by omega)))
    rw [z e he, z f hf, z g hg]
    simp
/-- The most. -/
def majN (a b c : Nat) : Nat := (a &&& b) ||| (a &&& c) ||| (b &&& c)
theorem maj_eq (a b c : Nat) : (a &&& b) ||| (c &&& (a ||| b)) = majN a b c := by
  unfold majN
  apply Nat.eq_of_testBit_eq
  intro i
  simp only [Nat.testBit_and, Nat.testBit_or]
  cases a.testBit i <;> cases b.testBit i <;> cases c.testBit i <;> rfl
theorem chN_lt (e f g : Nat) (he : e < 4294967296) (hf : f < 4294967296) (hg : g < 4294967296) : chN e f g < 4294967296 := by
  rw [← ch_eq e f g he hf hg]
  exact Nat.xor_lt_two_pow (n := 32) hg (Nat.and_lt_two_pow _ (Nat.xor_lt_two_pow (n := 32) hf hg))
theorem majN_lt (a b c : Nat) (ha : a < 4294967296) (hb : b < 4294967296) (hc : c < 4294967296) : majN a b c < 4294967296 := by
  unfold majN
  exact Nat.or_lt_two_pow (n := 32) (Nat.or_lt_two_pow (n := 32) (Nat.and_lt_two_pow _ hb) (Nat.and_lt_two_pow _ hc)) (Nat.and_lt_two_pow _ hc)
/-- A shift right is a division. -/
theorem shr_eq (x n : Nat) : x >>> n = x / 2 ^ n := Nat.shiftRight_eq_div_pow x n
/-- Three turns. -/
def sig (a b c x : Nat) : Nat := rotr a x ^^^ rotr b x ^^^ rotr c x
/-- Two turns and a shift. -/
def sigS (a b c x : Nat) : Nat := rotr a x ^^^ rotr b x ^^^ (x / 2 ^ c)
theorem sig_lt (a b c x : Nat) (ha : a ≤ 32) (hb : b ≤ 32) (hc : c ≤ 32) (hx : x < 4294967296) : sig a b c x < 4294967296 :=
  Nat.xor_lt_two_pow (n := 32) (Nat.xor_lt_two_pow (n := 32) (rotr_lt a x ha hx) (rotr_lt b x hb hx)) (rotr_lt c x hc hx)
theorem sigS_lt (a b c x : Nat) (ha : a ≤ 32) (hb : b ≤ 32) (hx : x < 4294967296) : sigS a b c x < 4294967296 :=
  Nat.xor_lt_two_pow (n := 32) (Nat.xor_lt_two_pow (n := 32) (rotr_lt a x ha hx) (rotr_lt b x hb hx)) (Nat.lt_of_le_of_lt (Nat.div_le_self _ _) hx)
end Go.Proofs.YtoeibcdnhglobaaDoor.Pure

/- SHA-256 over plain numbers: what both texts are to compute. No program in sight. -/
namespace Go.Proofs.YtoeibcdnhglobaaDoor.Pure
set_option linter.unusedVariables false
set_option linter.unusedSimpArgs false
/-- The steps' words: the upper halves of the 64-bit ones. -/
def K64 : List Nat := [4794697086780616226, 8158064640168781261, 13096744586834688815, 16840607885511220156, 4131703408338449720, 6480981068601479193, 10538285296894168987, 12329834152419229976, 15566598209576043074, 1334009975649890238, 2608012711638119052, 6128411473006802146, 8268148722764581231, 9286055187155687089, 11230858885718282805, 13951009754708518548, 16472876342353939154, 17275323862435702243, 1135362057144423861, 2597628984639134821, 3308224258029322869, 5365058923640841347, 6679025012923562964, 8573033837759648693, 10970295158949994411, 12119686244451234320, 12683024718118986047, 13788192230050041572, 14330467153632333762, 15395433587784984357, 489312712824947311, 1452737877330783856, 2861767655752347644, 3322285676063803686, 5560940570517711597, 5996557281743188959, 7280758554555802590, 8532644243296465576, 9350256976987008742, 10552545826968843579, 11727347734174303076, 12113106623233404929, 14000437183269869457, 14369950271660146224, 15101387698204529176, 15463397548674623760, 17586052441742319658, 1182934255886127544, 1847814050463011016, 2177327727835720531, 2830643537854262169, 3796741975233480872, 4115178125766777443, 5681478168544905931, 6601373596472566643, 7507060721942968483, 8399075790359081724, 8693463985226723168, 9568029438360202098, 10144078919501101548, 10430055236837252648, 11840083180663258601, 13761210420658862357, 14299343276471374635, 14566680578165727644, 15097957966210449927, 16922976911328602910, 17689382322260857208, 500013540394364858, 748580250866718886, 1242879168328830382, 1977374033974150939, 2944078676154940804, 3659926193048069267, 4368137639120453308, 4836135668995329356, 5532061633213252278, 6448918945643986474, 6902733635092675308, 7801388544844847127]
def K32 : List Nat := (K64.take 64).map (· / 4294967296)
/-- The state at first. -/
def H64 : List Nat := [7640891576956012808, 13503953896175478587, 4354685564936845355, 11912009170470909681, 5840696475078001361, 11170449401992604703, 2270897969802886507, 6620516959819538809]
def H32 : List Nat := H64.map (· / 4294967296)
/-- The next word of a schedule. -/
def nextW (v : List Nat) : Nat := (sigS 17 19 10 (v.getD (v.length - 2) 0) + v.getD (v.length - 7) 0 + sigS 7 18 3 (v.getD (v.length - 15) 0) + v.getD (v.length - 16) 0) % 4294967296
/-- n words more. -/
def sch (w : List Nat) : Nat → List Nat
  | 0 => w
  | n + 1 => sch w n ++ [nextW (sch w n)]
theorem sch_length (w : List Nat) (n : Nat) : (sch w n).length = w.length + n := by
  induction n with
  | zero => rfl
  | succ n ih => simp only [sch, List.length_append, ih, List.length_cons, List.length_nil]; omega
theorem nextW_lt (v : List Nat) : nextW v < 4294967296 := Nat.mod_lt _ (by decide)
theorem sch_lt (w : List Nat) (h : ∀ x ∈ w, x < 4294967296) (n : Nat) : ∀ x ∈ sch w n, x < 4294967296 := by
  induction n with
  | zero => exact h
  | succ n ih =>
    intro x hx
    rcases List.mem_append.1 hx with hx | hx
    · exact ih x hx
    · rw [List.mem_singleton.1 hx]; exact nextW_lt _
/-- One step: of a state of eight words. -/
def stepN (s : List Nat) (k w : Nat) : List Nat :=
  let x := (s.getD 7 0 + sig 6 11 25 (s.getD 4 0) + chN (s.getD 4 0) (s.getD 5 0) (s.getD 6 0) + k + w) % 4294967296
  let y := (sig 2 13 22 (s.getD 0 0) + majN (s.getD 0 0) (s.getD 1 0) (s.getD 2 0)) % 4294967296
  [(x + y) % 4294967296, s.getD 0 0, s.getD 1 0, s.getD 2 0, (s.getD 3 0 + x) % 4294967296, s.getD 4 0, s.getD 5 0, s.getD 6 0]
/-- n steps with the words ws. -/
def stepsN (s ws : List Nat) : Nat → List Nat
  | 0 => s
  | n + 1 => stepN (stepsN s ws n) (K32.getD n 0) (ws.getD n 0)
/-- A state behind a block of sixteen words. -/
def blockN (s w : List Nat) : List Nat := ((stepsN s (sch w 48) 64).zip s).map fun p => (p.1 + p.2) % 4294967296
theorem stepN_ok (s : List Nat) (k w : Nat) (hs : ∀ i, s.getD i 0 < 4294967296) : (stepN s k w).length = 8 ∧ ∀ x ∈ stepN s k w, x < 4294967296 := by
  refine ⟨rfl, fun x hx => ?_⟩
  simp only [stepN, List.mem_cons, List.not_mem_nil, or_false] at hx
  rcases hx with rfl | rfl | rfl | rfl | rfl | rfl | rfl | rfl
  · exact Nat.mod_lt _ (by decide)
  · exact hs _
  · exact hs _
  · exact hs _
  · exact Nat.mod_lt _ (by decide)
  · exact hs _
  · exact hs _
  · exact hs _
/-- The first known answer holds of the definition: a block of 'abc'. -/
theorem block_abc : blockN H32 [0x61626380, 0, 0, 0, 0, 0, 0, 0, 0, 0, 0, 0, 0, 0, 0, 24] = [0xba7816bf, 0x8f01cfea, 0x414140de, 0x5dae2223, 0xb00361a3, 0x96177a9c, 0xb410ff61, 0xf20015ad] := by decide +kernel
end Go.Proofs.YtoeibcdnhglobaaDoor.Pure

/- SHA-256 of a list of bytes over plain numbers: words of bytes, padding, blocks, the digest. No program in sight. -/
namespace Go.Proofs.YtoeibcdnhglobaaDoor.Pure
set_option linter.unusedVariables false
set_option linter.unusedSimpArgs false
/-- Bytes as a number, the highest first. -/
def be (l : List Int) : Int := l.foldl (fun n c => n * 256 + c) 0
theorem be_snoc (l : List Int) (c : Int) : be (l ++ [c]) = be l * 256 + c := by simp [be, List.foldl_append]
theorem be_bd (l : List Int) (hb : ∀ x ∈ l, 0 ≤ x ∧ x < 256) : 0 ≤ be l ∧ be l < 256 ^ l.length := by
  have key : ∀ n, n ≤ l.length → 0 ≤ be (l.take n) ∧ be (l.take n) < 256 ^ n := by
    intro n
    induction n with
    | zero => intro _; simp [be]
    | succ n ih =>
      intro hn
      have := ih (by omega)
      have hx := hb l[n] (List.getElem_mem _)
      rw [List.take_succ_eq_append_getElem (by omega), be_snoc, Int.pow_succ]
      omega
  simpa using key l.length (Nat.le_refl _)
/-- A block's sixteen words. -/
def words (l : List Int) : List Nat := (List.range 16).map fun i => (be ((l.drop (4 * i)).take 4)).toNat
theorem words_lt (l : List Int) (hb : ∀ x ∈ l, 0 ≤ x ∧ x < 256) : ∀ x ∈ words l, x < 4294967296 := by
  intro x hx
  obtain ⟨i, _, rfl⟩ := List.mem_map.1 hx
  have hb4 : ∀ x ∈ (l.drop (4 * i)).take 4, 0 ≤ x ∧ x < 256 := fun x hx => hb x (List.mem_of_mem_drop (List.mem_of_mem_take hx))
  have h1 := be_bd _ hb4
  have h2 : ((l.drop (4 * i)).take 4).length ≤ 4 := by rw [List.length_take]; omega
  have h3 : be ((l.drop (4 * i)).take 4) < 4294967296 := by
    have h5 := h1.2
    have h4 : ((l.drop (4 * i)).take 4).length = 0 ∨ ((l.drop (4 * i)).take 4).length = 1 ∨ ((l.drop (4 * i)).take 4).length = 2 ∨ ((l.drop (4 * i)).take 4).length = 3 ∨ ((l.drop (4 * i)).take 4).length = 4 := by omega
    rcases h4 with h4 | h4 | h4 | h4 | h4 <;> rw [h4] at h5 <;> omega
  omega
/-- A state behind n blocks. -/
def runB (s : List Nat) (l : List Int) : Nat → List Nat
  | 0 => s
  | n + 1 => blockN (runB s l n) (words ((l.drop (64 * n)).take 64))
theorem runB_left (s : List Nat) (a b : List Int) (n : Nat) (h : 64 * n ≤ a.length) : runB s (a ++ b) n = runB s a n := by
  induction n with
  | zero => rfl
  | succ n ih =>
    simp only [runB]
    rw [ih (by omega), List.drop_append_of_le_length (by omega), List.take_append_of_le_length (by rw [List.length_drop]; omega)]
theorem runB_append (s : List Nat) (a b : List Int) (q n : Nat) (ha : a.length = 64 * q) : runB s (a ++ b) (q + n) = runB (runB s a q) b n := by
  induction n with
  | zero => exact runB_left s a b q (by omega)
  | succ n ih =>
    rw [← Nat.add_assoc]
    simp only [runB]
    rw [ih, List.drop_append, List.drop_eq_nil_of_le (by omega), List.nil_append, show 64 * (q + n) - a.length = 64 * n by omega]
theorem runB_split (s : List Nat) (l : List Int) (q n : Nat) (h : 64 * q ≤ l.length) : runB s l (q + n) = runB (runB s l q) (l.drop (64 * q)) n := by
  have h1 : (l.take (64 * q)).length = 64 * q := by rw [List.length_take]; omega
  have h2 := runB_append s (l.take (64 * q)) (l.drop (64 * q)) q n h1
  rw [List.take_append_drop] at h2
  rw [h2]
  congr 1
  have := runB_left s (l.take (64 * q)) (l.drop (64 * q)) q (by omega)
  rw [List.take_append_drop] at this
  exact this.symm
theorem stepsN_ok (s ws : List Nat) (hs : s.length = 8 ∧ ∀ x ∈ s, x < 4294967296) (n : Nat) : (stepsN s ws n).length = 8 ∧ ∀ x ∈ stepsN s ws n, x < 4294967296 := by
  induction n with
  | zero => exact hs
  | succ n ih =>
    refine stepN_ok _ _ _ fun i => ?_
    rw [List.getD_eq_getElem?_getD]
    cases h : (stepsN s ws n)[i]? with
    | none => simp
    | some y => exact ih.2 y (List.mem_of_getElem? h)
theorem blockN_ok (s w : List Nat) (hs : s.length = 8 ∧ ∀ x ∈ s, x < 4294967296) : (blockN s w).length = 8 ∧ ∀ x ∈ blockN s w, x < 4294967296 := by
  refine ⟨?_, fun x hx => ?_⟩
  · unfold blockN
    rw [List.length_map, List.length_zip, (stepsN_ok s _ hs 64).1, hs.1]
    rfl
  · unfold blockN at hx
    obtain ⟨p, _, rfl⟩ := List.mem_map.1 hx
    exact Nat.mod_lt _ (by decide)
theorem runB_ok (s : List Nat) (l : List Int) (hs : s.length = 8 ∧ ∀ x ∈ s, x < 4294967296) (n : Nat) : (runB s l n).length = 8 ∧ ∀ x ∈ runB s l n, x < 4294967296 := by
  induction n with
  | zero => exact hs
  | succ n ih => exact blockN_ok _ _ ih
theorem H32_ok : H32.length = 8 ∧ ∀ x ∈ H32, x < 4294967296 := by decide
/-- How many zeros stand behind. -/
def zc (n : Nat) : Nat := (119 - n % 64) % 64
/-- A number's eight bytes, the highest first. -/
def len8 (n : Nat) : List Int := [((n / 72057594037927936 % 256 : Nat) : Int), ((n / 281474976710656 % 256 : Nat) : Int), ((n / 1099511627776 % 256 : Nat) : Int), ((n / 4294967296 % 256 : Nat) : Int), ((n / 16777216 % 256 : Nat) : Int), ((n / 65536 % 256 : Nat) : Int), ((n / 256 % 256 : Nat) : Int), ((n % 256 : Nat) : Int)]
/-- What is left, and what stands behind it, of so many in all. -/
def tailN (r : List Int) (many : Nat) : List Int := r ++ 128 :: (List.replicate (zc r.length) 0 ++ len8 (8 * many))
theorem tailN_length (r : List Int) (many : Nat) : (tailN r many).length = r.length + zc r.length + 9 := by
  simp only [tailN, List.length_append, List.length_cons, List.length_replicate, len8, List.length_nil]; omega
theorem tailN_mod (r : List Int) (many : Nat) : (tailN r many).length % 64 = 0 := by
  rw [tailN_length]; unfold zc; omega
theorem len8_ok (n : Nat) : ∀ x ∈ len8 n, 0 ≤ x ∧ x < 256 := by
  intro x hx
  simp only [len8, List.mem_cons, List.not_mem_nil, or_false] at hx
  rcases hx with rfl | rfl | rfl | rfl | rfl | rfl | rfl | rfl <;> omega
theorem tailN_ok (r : List Int) (many : Nat) (hr : ∀ x ∈ r, 0 ≤ x ∧ x < 256) : ∀ x ∈ tailN r many, 0 ≤ x ∧ x < 256 := by
  intro x hx
  simp only [tailN, List.mem_append, List.mem_cons, List.mem_replicate] at hx
  rcases hx with hx | rfl | ⟨_, rfl⟩ | hx
  · exact hr x hx
  · omega
  · omega
  · exact len8_ok _ x hx
/-- A word's four bytes. -/
def b4 (w : Nat) : List Int := [((w / 16777216 % 256 : Nat) : Int), ((w / 65536 % 256 : Nat) : Int), ((w / 256 % 256 : Nat) : Int), ((w % 256 : Nat) : Int)]
/-- The digest. -/
def shaN (l : List Int) : List Int := ((runB H32 (tailN l l.length) ((tailN l l.length).length / 64)).map b4).flatten
theorem b4_ok (w : Nat) : (b4 w).length = 4 ∧ ∀ x ∈ b4 w, 0 ≤ x ∧ x < 256 := by
  refine ⟨rfl, fun x hx => ?_⟩
  simp only [b4, List.mem_cons, List.not_mem_nil, or_false] at hx
  rcases hx with rfl | rfl | rfl | rfl <;> omega
theorem flat4 (s : List Nat) : ((s.map b4).flatten).length = 4 * s.length := by
  induction s with
  | nil => rfl
  | cons a s ih =>
    rw [List.map_cons, List.flatten_cons, List.length_append, ih, (b4_ok a).1, List.length_cons]
    omega
theorem shaN_ok (l : List Int) : (shaN l).length = 32 ∧ ∀ x ∈ shaN l, 0 ≤ x ∧ x < 256 := by
  refine ⟨?_, fun x hx => ?_⟩
  · unfold shaN; rw [flat4, (runB_ok _ _ H32_ok _).1]
  · unfold shaN at hx
    obtain ⟨y, hy, hx⟩ := List.mem_flatten.1 hx
    obtain ⟨w, _, rfl⟩ := List.mem_map.1 hy
    exact (b4_ok w).2 x hx
/-- What a digest under way has taken in, and what is left, make the digest. -/
theorem shaN_way (l : List Int) (q : Nat) (hq : q = l.length / 64) :
    shaN l = ((runB (runB H32 l q) (tailN (l.drop (64 * q)) l.length) ((tailN (l.drop (64 * q)) l.length).length / 64)).map b4).flatten := by
  unfold shaN
  congr 2
  have hl : 64 * q ≤ l.length := by omega
  have e0 : (l.drop (64 * q)).length = l.length - 64 * q := List.length_drop
  have e1 : zc (l.drop (64 * q)).length = zc l.length := by rw [e0]; unfold zc; omega
  have e2 : tailN l l.length = l.take (64 * q) ++ tailN (l.drop (64 * q)) l.length := by
    unfold tailN
    rw [e1, ← List.append_assoc, List.take_append_drop]
  have h1 : (l.take (64 * q)).length = 64 * q := by rw [List.length_take]; omega
  have e3 : (tailN l l.length).length / 64 = q + (tailN (l.drop (64 * q)) l.length).length / 64 := by
    rw [tailN_length, tailN_length, e1, e0]; omega
  rw [e3, e2, runB_append _ _ _ _ _ h1]
  congr 1
  have := runB_left H32 (l.take (64 * q)) (l.drop (64 * q)) q (by omega)
  rw [List.take_append_drop] at this
  exact this.symm
/-- The empty text's digest begins as everybody knows; so does that of 'abc'. -/
theorem sha_abc : shaN [97, 98, 99] = [0xba, 0x78, 0x16, 0xbf, 0x8f, 0x01, 0xcf, 0xea, 0x41, 0x41, 0x40, 0xde, 0x5d, 0xae, 0x22, 0x23, 0xb0, 0x03, 0x61, 0xa3, 0x96, 0x17, 0x7a, 0x9c, 0xb4, 0x10, 0xff, 0x61, 0xf2, 0x00, 0x15, 0xad] := by decide +kernel
end Go.Proofs.YtoeibcdnhglobaaDoor.Pure

/- A binary counter of trees: what a range of peaks holds, by plain lists. No program in sight. -/
namespace Go.Proofs.YtoeibcdnhglobaaDoor.Pure
set_option linter.unusedVariables false
set_option linter.unusedSimpArgs false
open Go.Lib

/-- The trailing ones of n, among f bits. -/
def tn : Nat → Nat → Nat
  | 0, _ => 0
  | f + 1, n => if n % 2 = 1 then 1 + tn f (n / 2) else 0
theorem ctzFrom_tn : ∀ (f n : Nat), n < 2 ^ f - 1 → ctzFrom f (2 ^ f - 1 - n) = tn f n
  | 0, n, h => by simp at h
  | f + 1, n, h => by
    have hp : 0 < 2 ^ f := Nat.two_pow_pos f
    rw [Nat.pow_succ] at h ⊢
    unfold ctzFrom tn
    by_cases c : n % 2 = 1
    · rw [if_neg (by omega), if_pos c, show (2 ^ f * 2 - 1 - n) / 2 = 2 ^ f - 1 - n / 2 by omega, ctzFrom_tn f (n / 2) (by omega)]
    · rw [if_pos (by omega), if_neg c]
theorem ctz_tn (n : Nat) (h : n < 9223372036854775808) : ctz 64 (18446744073709551615 - n) = tn 64 n := by
  unfold ctz
  rw [if_neg (by omega)]
  exact ctzFrom_tn 64 n (by omega)
theorem tn_le : ∀ f n, tn f n ≤ f
  | 0, _ => Nat.le_refl _
  | f + 1, n => by
    unfold tn
    split
    · have := tn_le f (n / 2); omega
    · omega
theorem tn_zero : ∀ f, tn f 0 = 0
  | 0 => rfl
  | f + 1 => by simp [tn]

section
variable {α : Type} (J : α → α → α)
/-- One tree more, t times joined with the one before. -/
def merge : Nat → α → List α → List α
  | 0, h, st => h :: st
  | _ + 1, h, [] => [h]
  | t + 1, h, p :: st => merge t (J p h) st
/-- The peaks, the last first, of what was added, the last first. -/
def stkR : List α → List α
  | [] => []
  | h :: r => merge J (tn 64 r.length) h (stkR r)
/-- The peaks, the last first. -/
def stk (xs : List α) : List α := stkR J xs.reverse
theorem stk_nil : stk J [] = [] := rfl
theorem stk_snoc (xs : List α) (h : α) : stk J (xs ++ [h]) = merge J (tn 64 xs.length) h (stk J xs) := by
  unfold stk
  rw [List.reverse_append]
  show merge J (tn 64 xs.reverse.length) h (stkR J xs.reverse) = _
  rw [List.length_reverse]

/-- The half of a tree of n: the greatest power of two below n. -/
def half (n : Nat) : Nat := 2 ^ Nat.log2 (n - 1)
theorem half_at {j m : Nat} (h0 : 0 < m) (h1 : m ≤ 2 ^ j) : half (2 ^ j + m) = 2 ^ j := by
  unfold half
  congr 1
  have hp : 0 < 2 ^ j := Nat.two_pow_pos j
  rw [Nat.log2_eq_iff (by omega)]
  rw [Nat.pow_succ]
  omega
theorem half_lt {n : Nat} (h : 2 ≤ n) : 0 < half n ∧ half n < n := by
  unfold half
  refine ⟨Nat.two_pow_pos _, ?_⟩
  have := (Nat.log2_eq_iff (n := n - 1) (k := Nat.log2 (n - 1)) (by omega)).1 rfl
  omega
/-- The tree of a list, by its definition. -/
def tree (e : α) : Nat → List α → α
  | 0, _ => e
  | _ + 1, [] => e
  | _ + 1, [x] => x
  | f + 1, x :: y :: r => J (tree e f ((x :: y :: r).take (half (r.length + 2)))) (tree e f ((x :: y :: r).drop (half (r.length + 2))))
theorem tree_more (e : α) : ∀ (f g : Nat) (l : List α), l.length ≤ f → f ≤ g → tree J e g l = tree J e f l
  | f, g, [], _, _ => by cases f <;> cases g <;> rfl
  | 0, _, _ :: _, h, _ => by simp at h
  | f + 1, 0, _, _, h => by omega
  | f + 1, g + 1, [x], _, _ => rfl
  | f + 1, g + 1, x :: y :: r, h, hg => by
    have hh := half_lt (n := r.length + 2) (by omega)
    simp only [List.length_cons] at h
    unfold tree
    rw [tree_more e f g _ (by simp only [List.length_take, List.length_cons]; omega) (by omega), tree_more e f g _ (by simp only [List.length_drop, List.length_cons]; omega) (by omega)]
/-- The tree of a list. -/
def Tree (e : α) (l : List α) : α := tree J e l.length l
theorem Tree_one (e x : α) : Tree J e [x] = x := rfl
theorem Tree_two (e : α) (l : List α) (h : 2 ≤ l.length) : Tree J e l = J (Tree J e (l.take (half l.length))) (Tree J e (l.drop (half l.length))) := by
  match l, h with
  | x :: y :: r, _ =>
    have hh := half_lt (n := r.length + 2) (by omega)
    show tree J e (r.length + 1 + 1) _ = _
    unfold tree
    unfold Tree
    simp only [List.length_cons, Nat.add_assoc, Nat.reduceAdd]
    rw [tree_more J e _ (r.length + 1) _ (Nat.le_refl _) (by simp only [List.length_take, List.length_cons]; omega), tree_more J e _ (r.length + 1) _ (Nat.le_refl _) (by simp only [List.length_drop, List.length_cons]; omega)]
theorem Tree_join (e : α) {j : Nat} (xs ys : List α) (hx : xs.length = 2 ^ j) (h0 : 0 < ys.length) (h1 : ys.length ≤ 2 ^ j) : Tree J e (xs ++ ys) = J (Tree J e xs) (Tree J e ys) := by
  have hp : 0 < 2 ^ j := Nat.two_pow_pos j
  rw [Tree_two J e (xs ++ ys) (by rw [List.length_append]; omega), List.length_append, hx, half_at h0 h1, ← hx, List.take_left, List.drop_left]

/-- What the peaks are: trees of 2^k leaves, k growing downward; the last first. -/
inductive Stk (e : α) : Nat → List α → List α → Prop
  | nil (k : Nat) : Stk e k [] []
  | cons (j k : Nat) (xs ys st : List α) (h : Stk e (k + 1) xs st) (hy : ys.length = 2 ^ k) (hj : j ≤ k) : Stk e j (xs ++ ys) (Tree J e ys :: st)
variable {J}
theorem Stk.le {e : α} {j i : Nat} {xs st : List α} (h : Stk J e j xs st) (hi : i ≤ j) : Stk J e i xs st := by
  cases h with
  | nil => exact .nil _
  | cons _ k xs ys st h hy hj => exact .cons _ k xs ys st h hy (by omega)
theorem Stk.dvd {e : α} {j : Nat} {xs st : List α} (h : Stk J e j xs st) : 2 ^ j ∣ xs.length := by
  induction h with
  | nil => exact ⟨0, rfl⟩
  | cons j k xs ys st h hy hj ih =>
    rw [List.length_append, hy]
    exact Nat.dvd_trans (Nat.pow_dvd_pow 2 hj) (Nat.dvd_add (Nat.dvd_trans (Nat.pow_dvd_pow 2 (Nat.le_succ k)) ih) ⟨1, by omega⟩)
theorem Stk.merged {e : α} : ∀ (f j : Nat) (xs st ys : List α), Stk J e j xs st → ys.length = 2 ^ j → xs.length / 2 ^ j < 2 ^ f → Stk J e j (xs ++ ys) (merge J (tn f (xs.length / 2 ^ j)) (Tree J e ys) st)
  | f, j, xs, st, ys, h, hy, hf => by
    have hp : 0 < 2 ^ j := Nat.two_pow_pos j
    cases h with
    | nil =>
      have z : tn f (([] : List α).length / 2 ^ j) = 0 := by simp [tn_zero]
      rw [z]
      exact .cons _ j [] ys [] (.nil _) hy (Nat.le_refl _)
    | cons _ k xs zs st h hz hj =>
      obtain ⟨q, hq⟩ := h.dvd
      by_cases hkj : k = j
      · subst hkj
        have e1 : (xs ++ zs).length / 2 ^ k = 2 * q + 1 := by
          rw [List.length_append, hq, hz, Nat.pow_succ]
          have e3 : 2 ^ k * 2 * q + 2 ^ k = 2 ^ k * (2 * q + 1) := by rw [Nat.mul_add, Nat.mul_assoc, Nat.mul_one]
          rw [e3, Nat.mul_div_cancel_left _ hp]
        have e2 : xs.length / 2 ^ (k + 1) = q := by rw [hq, Nat.mul_div_cancel_left _ (Nat.two_pow_pos _)]
        rw [e1] at hf ⊢
        cases f with
        | zero => simp at hf
        | succ f =>
          rw [Nat.pow_succ] at hf
          have ih := Stk.merged f (k + 1) xs st (zs ++ ys) h (by rw [List.length_append, hz, hy, Nat.pow_succ]; omega) (by rw [e2]; omega)
          rw [e2] at ih
          have e4 : tn (f + 1) (2 * q + 1) = tn f q + 1 := by
            show (if (2 * q + 1) % 2 = 1 then 1 + tn f ((2 * q + 1) / 2) else 0) = _
            rw [if_pos (by omega), show (2 * q + 1) / 2 = q by omega, Nat.add_comm]
          rw [e4, List.append_assoc]
          show Stk J e k _ (merge J (tn f q) (J (Tree J e zs) (Tree J e ys)) st)
          rw [← Tree_join J e zs ys hz (by omega) (by omega)]
          exact ih.le (by omega)
      · have e1 : ∃ r, (xs ++ zs).length / 2 ^ j = 2 * r := by
          have hh : Stk J e (j + 1) (xs ++ zs) (Tree J e zs :: st) := .cons _ k xs zs st h hz (by omega)
          obtain ⟨r, hr⟩ := hh.dvd
          refine ⟨r, ?_⟩
          rw [hr, Nat.pow_succ, Nat.mul_assoc, Nat.mul_div_cancel_left _ hp]
        obtain ⟨r, hr⟩ := e1
        rw [hr]
        have e4 : tn f (2 * r) = 0 := by
          cases f with
          | zero => rfl
          | succ f => unfold tn; rw [if_neg (by omega)]
        rw [e4]
        exact .cons _ j (xs ++ zs) ys _ (.cons _ k xs zs st h hz (by omega)) hy (Nat.le_refl _)
theorem stk_Stk (e : α) (xs : List α) (h : xs.length < 2 ^ 64) : Stk J e 0 xs (stk J xs) := by
  have key : ∀ n, n ≤ xs.length → Stk J e 0 (xs.take n) (stk J (xs.take n)) := by
    intro n
    induction n with
    | zero => intro _; exact .nil _
    | succ n ih =>
      intro hn
      rw [List.take_succ_eq_append_getElem (by omega), stk_snoc]
      have := Stk.merged 64 0 _ _ [xs[n]] (ih (by omega)) rfl (by rw [List.length_take]; simp; omega)
      simpa [Tree_one] using this
  simpa using key xs.length (Nat.le_refl _)
/-- How often the next one joins: there are so many peaks. -/
theorem Stk.enough {e : α} : ∀ (f j : Nat) (xs st : List α), Stk J e j xs st → tn f (xs.length / 2 ^ j) ≤ st.length
  | 0, _, _, _, _ => Nat.zero_le _
  | f + 1, j, xs, st, h => by
    have hp : 0 < 2 ^ j := Nat.two_pow_pos j
    unfold tn
    split
    · rename_i ho
      cases h with
      | nil => simp at ho
      | cons _ k xs zs st h hz hj =>
        obtain ⟨q, hq⟩ := h.dvd
        by_cases hkj : k = j
        · subst hkj
          have e1 : (xs ++ zs).length / 2 ^ k = 2 * q + 1 := by
            rw [List.length_append, hq, hz, Nat.pow_succ]
            have e3 : 2 ^ k * 2 * q + 2 ^ k = 2 ^ k * (2 * q + 1) := by rw [Nat.mul_add, Nat.mul_assoc, Nat.mul_one]
            rw [e3, Nat.mul_div_cancel_left _ hp]
          have e2 : xs.length / 2 ^ (k + 1) = q := by rw [hq, Nat.mul_div_cancel_left _ (Nat.two_pow_pos _)]
          have ih := Stk.enough f (k + 1) xs st h
          rw [e2] at ih
          rw [e1, show (2 * q + 1) / 2 = q by omega, List.length_cons]
          omega
        · have hh : Stk J e (j + 1) (xs ++ zs) (Tree J e zs :: st) := .cons _ k xs zs st h hz (by omega)
          obtain ⟨r, hr⟩ := hh.dvd
          rw [hr, Nat.pow_succ, Nat.mul_assoc, Nat.mul_div_cancel_left _ hp] at ho
          omega
    · omega
theorem stk_enough (xs : List α) (h : xs.length < 2 ^ 64) : tn 64 xs.length ≤ (stk J xs).length := by
  cases xs with
  | nil => simp [tn_zero]
  | cons x r => have := (stk_Stk (J := J) x (x :: r) h).enough 64; simpa using this
theorem merge_length (J : α → α → α) : ∀ (t : Nat) (h : α) (st : List α), (merge J t h st).length ≤ st.length + 1
  | 0, _, _ => by simp [merge]
  | _ + 1, _, [] => by simp [merge]
  | t + 1, h, p :: st => by have := merge_length J t (J p h) st; simp only [merge, List.length_cons]; omega
theorem stk_length (J : α → α → α) (xs : List α) : (stk J xs).length ≤ xs.length := by
  have key : ∀ n, n ≤ xs.length → (stk J (xs.take n)).length ≤ n := by
    intro n
    induction n with
    | zero => intro _; simp [stk_nil]
    | succ n ih =>
      intro hn
      rw [List.take_succ_eq_append_getElem (by omega), stk_snoc]
      have := merge_length J (tn 64 (xs.take n).length) xs[n] (stk J (xs.take n))
      have := ih (by omega)
      omega
  simpa using key xs.length (Nat.le_refl _)
/-- The tree's one, of the peaks. -/
def topOf (e : α) (J : α → α → α) : List α → α
  | [] => e
  | p :: st => st.foldl (fun t q => J q t) p
theorem Stk.fold {e : α} : ∀ (j : Nat) (xs st ys : List α), Stk J e j xs st → 0 < ys.length → ys.length ≤ 2 ^ j → st.foldl (fun t q => J q t) (Tree J e ys) = Tree J e (xs ++ ys) := by
  intro j xs st ys h
  induction h generalizing ys with
  | nil => intro _ _; rfl
  | cons j k xs zs st h hz hj ih =>
    intro h0 h1
    have hle : ys.length ≤ 2 ^ k := Nat.le_trans h1 (Nat.pow_le_pow_right (by decide) hj)
    rw [List.foldl_cons, ← Tree_join J e zs ys hz h0 hle, List.append_assoc]
    refine ih (zs ++ ys) (by rw [List.length_append]; omega) ?_
    rw [List.length_append, hz, Nat.pow_succ]
    omega
theorem top_tree (e : α) (xs : List α) (h : xs.length < 2 ^ 64) : topOf e J (stk J xs) = Tree J e xs := by
  have hs := stk_Stk (J := J) e xs h
  generalize stk J xs = st at hs
  cases hs with
  | nil => rfl
  | cons _ k xs ys st h' hy hj => exact h'.fold _ _ _ _ (by rw [hy]; exact Nat.two_pow_pos _) (by rw [hy, Nat.pow_succ]; omega)
end
end Go.Proofs.YtoeibcdnhglobaaDoor.Pure
