/- SHA-256 over plain numbers: what both texts are to compute. No program in sight. -/
import Derived.Test.YtoeibcdnhglobaaDoorPureBits
namespace Go.Proofs.YtoeibcdnhglobaaDoor.Pure
set_option linter.unusedVariables false
set_option linter.unusedSimpArgs false
/-- The steps' words: the upper halves of the 64-bit ones. -/
def K64 : List Nat := [4794697086780616226, 8158064640168781261, 13096744586834688815, 16840607885511220156, 4131703408338449720, 6480981068601479193, 10538285296894168987, 12329834152419229976, 15566598209576043074, 1334009975649890238, 2608012711638119052, 6128411473006802146, 8268148722764581231, 9286055187155687089, 11230858885718282805, 13951009754708518548, 16472876342353939154, 17275323862435702243, 1135362057144423861, 2597628984639134821, 3308224258029322869, 5365058923640841347, 6679025012923562964, 8573033837759648693, 10970295158949994411, 12119686244451234320, 12683024718118986047, 13788192230050041572, 14330467153632333762, 15395433587784984357, 489312712824947311, 1452737877330783856, 2861767655752347644, 3322285676063803686, 5560940570517711597, 5996557281743188959, 7280758554555802590, 8532644243296465576, 9350256976987008742, 10552545826968843579, 11727347734174303076, 12113106623233404929, 14000437183269869457, 14369950271660146224, 15101387698204529176, 15463397548674623760, 17586052441742319658, 1182934255886127544, 1847814050463011016, 2177327727835720531, 2830643537854262169, 3796741975233480872, 4115178125766777443, 5681478168544905931, 6601373596472566643, 7507060721942968483, 8399075790359081724, 8693463985226723168, 9568029438360202098, 10144078919501101548, 10430055236837252648, 11840083180663258601, 13761210420658862357, 14299343276471374635, 14566680578165727644, 15097957966210449927, 16922976911328602910, 17689382322260857208, 500013540394364858, 748580250866718886, 1242879168328830382, 1977374033974150939, 2944078676154940804, 3659926193048069267, 4368137639120453308, 4836135668995329356, 5532061633213252278, 6448918945643986474, 6902733635092675308, 7801388544844847127]
def K32 : List Nat := (K64.take 64).map (· / 4294967296)
/-- The state at first. -/
def H64 : List Nat := [7640891576956012808, 13503953896175478587, 4354685564936845355, 11912009170470909681, 5840696475078001361, 11170449401992604703, 2270897969802886507, 6620516959819538809]
def H32 : List Nat := H64.map (· / 4294967296)
/-- The next word of a schedule. -/
def nextW (v : List Nat) : Nat := (sigS 17 19 10 (v.getD (v.length - 2) 0) + v.getD (v.length - 7) 0 + sigS 7 18 3 (v.getD (v.length - 15) 0) + v.getD (v.length - 16) 0) % 4294967296
/-- n words more. -/
def sch (w : List Nat) : Nat → List Nat
  | 0 => w
  | n + 1 => sch w n ++ [nextW (sch w n)]
theorem sch_length (w : List Nat) (n : Nat) : (sch w n).length = w.length + n := by
  induction n with
  | zero => rfl
  | succ n ih => simp only [sch, List.length_append, ih, List.length_cons, List.length_nil]; omega
theorem nextW_lt (v : List Nat) : nextW v < 4294967296 := Nat.mod_lt _ (by decide)
theorem sch_lt (w : List Nat) (h : ∀ x ∈ w, x < 4294967296) (n : Nat) : ∀ x ∈ sch w n, x < 4294967296 := by
  induction n with
  | zero => exact h
  | succ n ih =>
    intro x hx
    rcases List.mem_append.1 hx with hx | hx
    · exact ih x hx
    · rw [List.mem_singleton.1 hx]; exact nextW_lt _
/-- One step: of a state of eight words. -/
def stepN (s : List Nat) (k w : Nat) : List Nat :=
  let x := (s.getD 7 0 + sig 6 11 25 (s.getD 4 0) + chN (s.getD 4 0) (s.getD 5 0) (s.getD 6 0) + k + w) % 4294967296
  let y := (sig 2 13 22 (s.getD 0 0) + majN (s.getD 0 0) (s.getD 1 0) (s.getD 2 0)) % 4294967296
  [(x + y) % 4294967296, s.getD 0 0, s.getD 1 0, s.getD 2 0, (s.getD 3 0 + x) % 4294967296, s.getD 4 0, s.getD 5 0, s.getD 6 0]
/-- n steps with the words ws. -/
def stepsN (s ws : List Nat) : Nat → List Nat
  | 0 => s
  | n + 1 => stepN (stepsN s ws n) (K32.getD n 0) (ws.getD n 0)
/-- A state behind a block of sixteen words. -/
def blockN (s w : List Nat) : List Nat := ((stepsN s (sch w 48) 64).zip s).map fun p => (p.1 + p.2) % 4294967296
theorem stepN_ok (s : List Nat) (k w : Nat) (hs : ∀ i, s.getD i 0 < 4294967296) : (stepN s k w).length = 8 ∧ ∀ x ∈ stepN s k w, x < 4294967296 := by
  refine ⟨rfl, fun x hx => ?_⟩
  simp only [stepN, List.mem_cons, List.not_mem_nil, or_false] at hx
  rcases hx with rfl | rfl | rfl | rfl | rfl | rfl | rfl | rfl
  · exact Nat.mod_lt _ (by decide)
  · exact hs _
  · exact hs _
  · exact hs _
  · exact Nat.mod_lt _ (by decide)
  · exact hs _
  · exact hs _
  · exact hs _
/-- The first known answer holds of the definition: a block of 'abc'. -/
theorem block_abc : blockN H32 [0x61626380, 0, 0, 0, 0, 0, 0, 0, 0, 0, 0, 0, 0, 0, 0, 24] = [0xba7816bf, 0x8f01cfea, 0x414140de, 0x5dae2223, 0xb00361a3, 0x96177a9c, 0xb410ff61, 0xf20015ad] := by decide +kernel
end Go.Proofs.YtoeibcdnhglobaaDoor.Pure
