/- Texts of the seat, joined: GCard, GCardH, GCardL. -/
import Derived.Test.YtoeibcdnhglobaaDoorCards
import Derived.Test.YtoeibcdnhglobaaDoorTie
import Derived.Test.YtoeibcdnhglobaaDoorE1
import Derived.Test.YtoeibcdnhglobaaDoorWWords
import Derived.WalkKit
import Derived.ProofKit
import Derived.OpenShut
import Derived.ShutString
import Derived.Below
import Derived.Carry
import Derived.SizedLaws
import Derived.SliceStrings
import Derived.Deep.Strs
import Derived.Deep.DeepHandedRow
import Derived.Lib.LaidTab
import Derived.LaidSub
import Derived.Test.YtoeibcdnhglobaaDoorF1
import Derived.Test.YtoeibcdnhglobaaDoorF4
/- What all the door's cards share: the tables, the witness's world, the reading of an argument of texts. -/
namespace Go.Proofs.YtoeibcdnhglobaaDoor.P
set_option linter.unusedVariables false
set_option linter.unusedSimpArgs false
open Go.ChangeShapes Go.WideShapes Go.ChangeAt Go.RowKit
open Go.Proofs.YtoeibcdnhglobaaDoorW.PrintWords
theorem own_ : ownKnob Tryd.prog.godebug = none := by kernel_rfl
theorem laidOut_ : laidOutB Tryd.prog = true := by kernel_rfl
def tab_0 : Array Value := #[.int .u8 0, .int .u8 1, .int .u8 28, .int .u8 2, .int .u8 29, .int .u8 14, .int .u8 24, .int .u8 3, .int .u8 30, .int .u8 22, .int .u8 20, .int .u8 15, .int .u8 25, .int .u8 17, .int .u8 4, .int .u8 8, .int .u8 31, .int .u8 27, .int .u8 13, .int .u8 23, .int .u8 21, .int .u8 19, .int .u8 16, .int .u8 7, .int .u8 26, .int .u8 12, .int .u8 18, .int .u8 6, .int .u8 11, .int .u8 5, .int .u8 10, .int .u8 9]
def tab_1 : Array Value := #[.int .u8 0, .int .u8 1, .int .u8 56, .int .u8 2, .int .u8 57, .int .u8 49, .int .u8 28, .int .u8 3, .int .u8 61, .int .u8 58, .int .u8 42, .int .u8 50, .int .u8 38, .int .u8 29, .int .u8 17, .int .u8 4, .int .u8 62, .int .u8 47, .int .u8 59, .int .u8 36, .int .u8 45, .int .u8 43, .int .u8 51, .int .u8 22, .int .u8 53, .int .u8 39, .int .u8 33, .int .u8 30, .int .u8 24, .int .u8 18, .int .u8 12, .int .u8 5, .int .u8 63, .int .u8 55, .int .u8 48, .int .u8 27, .int .u8 60, .int .u8 41, .int .u8 37, .int .u8 16, .int .u8 46, .int .u8 35, .int .u8 44, .int .u8 21, .int .u8 52, .int .u8 32, .int .u8 23, .int .u8 11, .int .u8 54, .int .u8 26, .int .u8 40, .int .u8 15, .int .u8 34, .int .u8 20, .int .u8 31, .int .u8 10, .int .u8 25, .int .u8 14, .int .u8 19, .int .u8 9, .int .u8 13, .int .u8 8, .int .u8 7, .int .u8 6]
def tab_2 : Array Value := #[.int .u64 7640891576956012808, .int .u64 13503953896175478587, .int .u64 4354685564936845355, .int .u64 11912009170470909681, .int .u64 5840696475078001361, .int .u64 11170449401992604703, .int .u64 2270897969802886507, .int .u64 6620516959819538809]
def tab_3 : Array Value := #[.int .u64 4794697086780616226, .int .u64 8158064640168781261, .int .u64 13096744586834688815, .int .u64 16840607885511220156, .int .u64 4131703408338449720, .int .u64 6480981068601479193, .int .u64 10538285296894168987, .int .u64 12329834152419229976, .int .u64 15566598209576043074, .int .u64 1334009975649890238, .int .u64 2608012711638119052, .int .u64 6128411473006802146, .int .u64 8268148722764581231, .int .u64 9286055187155687089, .int .u64 11230858885718282805, .int .u64 13951009754708518548, .int .u64 16472876342353939154, .int .u64 17275323862435702243, .int .u64 1135362057144423861, .int .u64 2597628984639134821, .int .u64 3308224258029322869, .int .u64 5365058923640841347, .int .u64 6679025012923562964, .int .u64 8573033837759648693, .int .u64 10970295158949994411, .int .u64 12119686244451234320, .int .u64 12683024718118986047, .int .u64 13788192230050041572, .int .u64 14330467153632333762, .int .u64 15395433587784984357, .int .u64 489312712824947311, .int .u64 1452737877330783856, .int .u64 2861767655752347644, .int .u64 3322285676063803686, .int .u64 5560940570517711597, .int .u64 5996557281743188959, .int .u64 7280758554555802590, .int .u64 8532644243296465576, .int .u64 9350256976987008742, .int .u64 10552545826968843579, .int .u64 11727347734174303076, .int .u64 12113106623233404929, .int .u64 14000437183269869457, .int .u64 14369950271660146224, .int .u64 15101387698204529176, .int .u64 15463397548674623760, .int .u64 17586052441742319658, .int .u64 1182934255886127544, .int .u64 1847814050463011016, .int .u64 2177327727835720531, .int .u64 2830643537854262169, .int .u64 3796741975233480872, .int .u64 4115178125766777443, .int .u64 5681478168544905931, .int .u64 6601373596472566643, .int .u64 7507060721942968483, .int .u64 8399075790359081724, .int .u64 8693463985226723168, .int .u64 9568029438360202098, .int .u64 10144078919501101548, .int .u64 10430055236837252648, .int .u64 11840083180663258601, .int .u64 13761210420658862357, .int .u64 14299343276471374635, .int .u64 14566680578165727644, .int .u64 15097957966210449927, .int .u64 16922976911328602910, .int .u64 17689382322260857208, .int .u64 500013540394364858, .int .u64 748580250866718886, .int .u64 1242879168328830382, .int .u64 1977374033974150939, .int .u64 2944078676154940804, .int .u64 3659926193048069267, .int .u64 4368137639120453308, .int .u64 4836135668995329356, .int .u64 5532061633213252278, .int .u64 6448918945643986474, .int .u64 6902733635092675308, .int .u64 7801388544844847127]
def tab_5 : Array Value := #[.int .u64 1, .int .u64 10, .int .u64 100, .int .u64 1000, .int .u64 10000, .int .u64 100000, .int .u64 1000000, .int .u64 10000000, .int .u64 100000000, .int .u64 1000000000, .int .u64 10000000000, .int .u64 100000000000, .int .u64 1000000000000, .int .u64 10000000000000, .int .u64 100000000000000, .int .u64 1000000000000000, .int .u64 10000000000000000, .int .u64 100000000000000000, .int .u64 1000000000000000000, .int .u64 10000000000000000000]
/-- A world for the witnesses: the settled one, the tables holding what their initialisers lay. -/
noncomputable def laidWorld (os : Os) : World :=
  { World.holding Tryd.prog os ⟨#[], #[], []⟩ with heap := ((((((World.holding Tryd.prog os ⟨#[], #[], []⟩).heap.modify 0 fun | .cells _ t frozen => .cells tab_0 t frozen | o => o).modify 1 fun | .cells _ t frozen => .cells tab_1 t frozen | o => o).modify 2 fun | .cells _ t frozen => .cells tab_2 t frozen | o => o).modify 3 fun | .cells _ t frozen => .cells tab_3 t frozen | o => o).modify 5 fun | .cells _ t frozen => .cells tab_5 t frozen | o => o) }
theorem gT1 : Tryd.prog.globalNamed "math/bits.deBruijn64tab" = some 1 := by kernel_rfl
theorem gT1Type : (Tryd.prog.globals[1]?).map (·.type) = some 160 := by kernel_rfl
theorem tz_of_laid {W : World} {l : List (String × DataW Unit)} (h : laidMetH Tryd.prog l W) (hl : l.filter (fun x => x.1 == "math/bits.deBruijn64tab") = [("math/bits.deBruijn64tab", Rows.laid_math_bits_deBruijn64tab)]) : TzTab W := by
  have h1 := laidMetH.filter (fun x => x.1 == "math/bits.deBruijn64tab") h
  rw [hl] at h1
  have h2 : Lib.TabIs Tryd.prog W "math/bits.deBruijn64tab" .u8 (Lib.deBruijn64tab.map fun n : Nat => (n : Int)) :=
    Lib.tabIs_of_head (rest := []) gT1 gT1Type Tryd.underlying160 Tryd.underlying5 (by kernel_rfl) (by kernel_rfl) h1
  intro j hj
  have := h2.cell gT1 j (by simpa using hj)
  rw [this]
  simp [List.getD_eq_getElem?_getD, hj]

/-- A row's texts, each no longer than the row's weights allow. -/
def IsStrs (w : World) (a : Option Addr) (len cap : Nat) (ss : List ByteArray) : Prop :=
  (a = none ∧ len = 0 ∧ cap = 0 ∧ ss = []) ∨
  ∃ x, a = some x ∧ len ≤ cap ∧ cap ≤ maxLen ∧ ss.length = cap ∧ (∀ i, i < ss.length → w.cell? (x.add i) = some (.string (ss.getD i ByteArray.empty))) ∧ ∀ s ∈ ss, s.size ≤ 140737488351232
theorem weightsAll_mem {H : Type} {P : Program} {e : TypeId} {d : DataW H} {n : Nat} : ∀ {l : List (DataW H)}, d ∈ l → n ∈ d.weights P e → n ∈ DataW.weightsAll P e l
  | x :: l, hd, hn => by
    simp only [DataW.weightsAll, List.mem_append]
    rcases List.mem_cons.1 hd with rfl | hd
    · exact .inl hn
    · exact .inr (weightsAll_mem hd hn)
theorem open_isStrs {H : Type} {enc : TypeId × Value → H} {W : World} {base : Nat} {held : Bool} {a : Option Addr} {len cap : Nat} {d : DataW H} {ps : List MemPlace} {ts : List TypeId} {ds : List (DataW H)} {j : Nat}
    (hsz : (DataW.weightsEach Tryd.prog ts ds).all (· ≤ reachBytes) = true) (ht : ts[j]? = some 22) (hd : ds[j]? = some d)
    (h : DataW.Trod enc Tryd.prog W base (fun _ => true) held 22 (.slice a len cap) d ps) : ∃ ss, IsStrs W a len cap ss ∧ len * 16 ≤ 140737488351232 := by
  obtain ⟨fuel, hf⟩ := h
  rcases open_strings Tryd.underlying22 Tryd.underlying9 (by kernel_rfl) hf with ⟨hcs, _⟩ | ⟨x, l, c, ss, hcs, _, hl, hm, hz, hx, hcell, _⟩
  · simp [Value.cells] at hcs
    obtain ⟨rfl, rfl, rfl⟩ := hcs
    exact ⟨[], .inl ⟨rfl, rfl, rfl, rfl⟩, by omega⟩
  · simp [Value.cells] at hcs
    obtain ⟨rfl, rfl, rfl⟩ := hcs
    obtain ⟨hx, _⟩ := Prod.mk.inj hx
    subst hx
    have hz' : ss.length = cap := by simpa using hz
    have z := sized_slice hsz ht hd Tryd.underlying22
    have hb : Tryd.prog.bytesOf 9 = 16 := by kernel_rfl
    rw [hb] at z
    have hlen : (strs (H := H) (ss.take len)).length + (strs (H := H) (ss.drop len)).length = ss.length := by simp [strs]; omega
    rw [hlen] at z
    refine ⟨ss, .inr ⟨_, rfl, hl, hm, hz', hcell, fun s hs => ?_⟩, Nat.le_trans (Nat.mul_le_mul_right _ (by omega)) z⟩
    have hmem : s.data.toList.length ∈ DataW.weights Tryd.prog 22 (.slice (strs (H := H) (ss.take len)) (strs (ss.drop len))) := by
      simp only [DataW.weights, Tryd.underlying22]
      refine List.mem_cons_of_mem _ ?_
      rw [List.mem_append]
      have hs' : s ∈ ss.take len ++ ss.drop len := by rw [List.take_append_drop]; exact hs
      rcases List.mem_append.1 hs' with h1 | h1
      · exact .inl (weightsAll_mem (d := .lit (.string s.data.toList)) (List.mem_map.2 ⟨s, h1, rfl⟩) (by simp [DataW.weights]))
      · exact .inr (weightsAll_mem (d := .lit (.string s.data.toList)) (List.mem_map.2 ⟨s, h1, rfl⟩) (by simp [DataW.weights]))
    have := List.all_eq_true.1 hsz _ (DataW.weights_mem_each ht hd _ hmem)
    have h2 : s.data.toList.length ≤ reachBytes := by simpa using this
    rw [Array.length_toList] at h2
    exact h2
theorem isStrs_reads {w : World} {a : Option Addr} {len cap : Nat} {ss : List ByteArray} (h : IsStrs w a len cap ss) (hl : len * 16 ≤ 140737488351232) :
    ∃ l : List ByteArray, l.length = len ∧ ReadsOf Value.string ByteArray.empty w a l.length l ∧ l.length ≤ cap ∧ ∀ s ∈ l, s.size ≤ 140737488355328 := by
  rcases h with ⟨rfl, rfl, rfl, rfl⟩ | ⟨x, rfl, h1, h2, h3, h4, h5⟩
  · exact ⟨[], rfl, ⟨rfl, by simp, fun h => absurd h (Nat.lt_irrefl 0)⟩, Nat.le_refl _, fun s hs => by cases hs⟩
  · have e : (ss.take len).length = len := by rw [List.length_take]; omega
    refine ⟨ss.take len, e, ⟨rfl, by omega, fun _ => ⟨x, rfl, fun j hj => ?_⟩⟩, by omega, fun s hs => Nat.le_trans (h5 s (List.mem_of_mem_take hs)) (by decide)⟩
    rw [e] at hj
    rw [h4 j (by omega)]
    simp [List.getD_eq_getElem?_getD, hj]
end Go.Proofs.YtoeibcdnhglobaaDoor.P

/- What the cards of hashes share: the digest's tables, and the reading of an argument of bytes. -/
namespace Go.Proofs.YtoeibcdnhglobaaDoor.P
set_option linter.unusedVariables false
set_option linter.unusedSimpArgs false
open Go.ChangeShapes Go.WideShapes Go.ChangeAt Go.RowKit
open Go.Proofs.YtoeibcdnhglobaaDoorW.PrintWords
open Go.Proofs.YtoeibcdnhglobaaDoor.Pure
theorem gK : Tryd.prog.globalNamed "pantile/digest.k" = some 3 := by kernel_rfl
theorem gKType : (Tryd.prog.globals[3]?).map (·.type) = some 178 := by kernel_rfl
theorem gB : Tryd.prog.globalNamed "pantile/digest.begins" = some 2 := by kernel_rfl
theorem gBType : (Tryd.prog.globals[2]?).map (·.type) = some 164 := by kernel_rfl
theorem k_of_laid {W : World} {l : List (String × DataW Unit)} (h : laidMetH Tryd.prog l W) (hl : l.filter (fun x => x.1 == "pantile/digest.k") = [("pantile/digest.k", Rows.laid_pantile_digest_k)]) : KTab W := by
  have h1 := laidMetH.filter (fun x => x.1 == "pantile/digest.k") h
  rw [hl] at h1
  have h2 : Lib.TabIs Tryd.prog W "pantile/digest.k" .u64 (K64.map fun n : Nat => (n : Int)) :=
    Lib.tabIs_of_head (rest := []) gK gKType Tryd.underlying178 Tryd.underlying135 (by kernel_rfl) (by kernel_rfl) h1
  intro j hj
  have := h2.cell gK j (by show j < 80; omega)
  rw [this]
  have h80 : j < K64.length := by show j < 80; omega
  simp [List.getD_eq_getElem?_getD, h80]
theorem b_of_laid {W : World} {l : List (String × DataW Unit)} (h : laidMetH Tryd.prog l W) (hl : l.filter (fun x => x.1 == "pantile/digest.begins") = [("pantile/digest.begins", Rows.laid_pantile_digest_begins)]) : BTab W := by
  have h1 := laidMetH.filter (fun x => x.1 == "pantile/digest.begins") h
  rw [hl] at h1
  have h2 : Lib.TabIs Tryd.prog W "pantile/digest.begins" .u64 (H64.map fun n : Nat => (n : Int)) :=
    Lib.tabIs_of_head (rest := []) gB gBType Tryd.underlying164 Tryd.underlying135 (by kernel_rfl) (by kernel_rfl) h1
  intro j hj
  have := h2.cell gB j (by show j < 8; omega)
  rw [this]
  have h8 : j < H64.length := by show j < 8; omega
  simp [List.getD_eq_getElem?_getD, h8]
theorem open_bytes {H : Type} {enc : TypeId × Value → H} {W : World} {held : Bool} {a : Option Addr} {len cap : Nat} {d : DataW H} {ps : List MemPlace}
    (h : DataW.Trod enc Tryd.prog W 0 (fun _ => true) held 47 (.slice a len cap) d ps) :
    ∃ l : List Int, l.length = len ∧ ReadsInt W .u8 a l.length l ∧ l.length ≤ cap ∧ ∀ x ∈ l, 0 ≤ x ∧ x < 256 := by
  obtain ⟨fuel, hf⟩ := h
  rcases open_ints Tryd.underlying47 Tryd.underlying5 (by kernel_rfl) hf with ⟨hcs, _⟩ | ⟨x, l, c, zs, hcs, _, hl, hm, hz, _, hcell, hwz⟩
  · simp [Value.cells] at hcs
    obtain ⟨rfl, rfl, rfl⟩ := hcs
    exact ⟨[], rfl, ⟨rfl, by simp, fun h => absurd h (Nat.lt_irrefl 0)⟩, Nat.le_refl _, fun s hs => by cases hs⟩
  · simp [Value.cells] at hcs
    obtain ⟨rfl, rfl, rfl⟩ := hcs
    have hz' : zs.length = cap := by simpa using hz
    have e : (zs.take len).length = len := by rw [List.length_take]; omega
    have hmm : maxLen = 9223372036854775807 := rfl
    refine ⟨zs.take len, e, ⟨rfl, by omega, fun _ => ⟨x, rfl, fun j hj => ?_⟩⟩, by omega, fun s hs => ?_⟩
    · rw [e] at hj
      rw [hcell j (by omega)]
      simp [List.getD_eq_getElem?_getD, hj]
    · have hw := hwz s (List.mem_of_mem_take hs)
      have hb := bounds_u8 hw
      omega
end Go.Proofs.YtoeibcdnhglobaaDoor.P

/- The reading of an argument of leaves. -/
namespace Go.Proofs.YtoeibcdnhglobaaDoor.P
set_option linter.unusedVariables false
set_option linter.unusedSimpArgs false
open Go.ChangeShapes Go.WideShapes Go.ChangeAt Go.RowKit
open Go.Proofs.YtoeibcdnhglobaaDoorW.PrintWords
open Go.Proofs.YtoeibcdnhglobaaDoor.Pure
theorem elem_bytes {H : Type} {enc : TypeId × Value → H} {W : World} {held : Bool} {n : Nat} {cs : List Value} {y : DataW H × List MemPlace}
    (hf : DataW.trod enc Tryd.prog W 0 (fun _ => true) held n 47 cs = some y) :
    ∃ p : Part, cs = [.slice p.A p.d.length p.c] ∧ ReadsInt W .u8 p.A p.d.length p.d ∧ p.d.length ≤ p.c ∧ ∀ x ∈ p.d, 0 ≤ x ∧ x < 256 := by
  rcases open_ints Tryd.underlying47 Tryd.underlying5 (by kernel_rfl) hf with ⟨hcs, _⟩ | ⟨x, l, c, zs, hcs, _, hl, hm, hz, _, hcell, hwz⟩
  · exact ⟨⟨none, 0, []⟩, hcs, ⟨rfl, by simp, fun h => absurd h (Nat.lt_irrefl 0)⟩, Nat.le_refl _, fun s hs => (by cases hs)⟩
  · have hz' : zs.length = c := by simpa using hz
    have e : (zs.take l).length = l := by rw [List.length_take]; omega
    have hmm : maxLen = 9223372036854775807 := rfl
    refine ⟨⟨some x, c, zs.take l⟩, by rw [hcs, e], ⟨rfl, by show (zs.take l).length ≤ _; omega, fun _ => ⟨x, rfl, fun j hj => ?_⟩⟩, by show (zs.take l).length ≤ c; omega, fun s hs => ?_⟩
    · have hj' : j < (zs.take l).length := hj
      rw [e] at hj'
      rw [hcell j (by omega)]
      simp [List.getD_eq_getElem?_getD, hj']
    · have hb := bounds_u8 (hwz s (List.mem_of_mem_take hs))
      omega
theorem open_leaves {H : Type} {enc : TypeId × Value → H} {W : World} {held : Bool} {a : Option Addr} {len cap : Nat} {d : DataW H} {qs : List MemPlace}
    (h : DataW.Trod enc Tryd.prog W 0 (fun _ => true) held 45 (.slice a len cap) d qs) :
    ∃ ps : List Part, ps.length = len ∧ Leaves W a ps ∧ len ≤ 9223372036854775807 := by
  obtain ⟨fuel, hf⟩ := h
  rcases DataW.trod_slice Tryd.underlying45 hf with ⟨hcs, _⟩ | ⟨x, l, c, elems, rest, n, _, hcs, _, _, hl, hm, hlen, hel, _, _⟩
  · simp [Value.cells] at hcs
    obtain ⟨rfl, rfl, rfl⟩ := hcs
    exact ⟨[], rfl, ⟨fun j h => absurd h (Nat.not_lt_zero _), fun p hp => (by cases hp), fun p hp => (by cases hp), fun p hp => (by cases hp)⟩, by omega⟩
  · simp [Value.cells] at hcs
    obtain ⟨rfl, rfl, rfl⟩ := hcs
    have hmm : maxLen = 9223372036854775807 := rfl
    have hce : Tryd.prog.cellsOf 47 = 1 := by kernel_rfl
    have each : ∀ i : Fin len, ∃ p : Part, W.cell? (x.add i.val) = some (.slice p.A p.d.length p.c) ∧ ReadsInt W .u8 p.A p.d.length p.d ∧ p.d.length ≤ p.c ∧ ∀ x ∈ p.d, 0 ≤ x ∧ x < 256 := by
      intro i
      have h1 := hel i.val i.isLt
      rw [List.getElem?_eq_getElem (by omega), hce, Nat.mul_one, Option.bind_eq_some_iff] at h1
      obtain ⟨cs', hcs', hy⟩ := h1
      obtain ⟨p, rfl, h2, h3, h4⟩ := elem_bytes hy
      exact ⟨p, cell_of_cells?_one hcs', h2, h3, h4⟩
    refine ⟨List.ofFn fun i => (each i).choose, by simp, ⟨fun j hj => ⟨x, rfl, ?_⟩, fun p hp => ?_, fun p hp => ?_, fun p hp => ?_⟩, by omega⟩
    · rw [List.getElem_ofFn]
      exact (each ⟨j, by simpa using hj⟩).choose_spec.1
    · obtain ⟨i, rfl⟩ := List.mem_ofFn.1 hp
      exact (each i).choose_spec.2.1
    · obtain ⟨i, rfl⟩ := List.mem_ofFn.1 hp
      exact (each i).choose_spec.2.2.1
    · obtain ⟨i, rfl⟩ := List.mem_ofFn.1 hp
      exact (each i).choose_spec.2.2.2
end Go.Proofs.YtoeibcdnhglobaaDoor.P
