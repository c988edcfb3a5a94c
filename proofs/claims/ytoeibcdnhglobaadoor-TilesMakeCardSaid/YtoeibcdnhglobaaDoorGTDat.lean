/- tiles.Data, pantilelaw12.TilesMake: the walks. -/
import Derived.Shelf.Strings.OnBuilder
import Derived.Test.YtoeibcdnhglobaaDoorF5
import Derived.Test.YtoeibcdnhglobaaDoorGTNode
import Derived.Test.YtoeibcdnhglobaaDoorGTiles
import Derived.Test.YtoeibcdnhglobaaDoorGHs10
namespace Go.Proofs
open Go.Shelf
def Tryd.lays156_ren : Go.Shelf.Ren := ⟨fun | 156 => 97 | 165 => 124 | 166 => 125 | 169 => 126 | 240 => 144 | 241 => 145 | 276 => 156 | 277 => 157 | n => n, fun | 31 => 22 | 9 => 9 | 3 => 3 | 4 => 4 | 0 => 0 | 20 => 20 | 72 => 153 | 76 => 156 | 70 => 151 | 37 => 47 | 75 => 155 | 127 => 171 | 164 => 180 | 5 => 5 | 80 => 122 | n => n, fun | n => n⟩
theorem Tryd.lays156 : Go.Proofs.Lays.n156 Tryd.prog Tryd.lays156_ren := {
  mixed := by kernel_rfl
  f156 := Tryd.func97.trans (congrArg some (by kernel_rfl))
  f165 := Tryd.func124.trans (congrArg some (by kernel_rfl))
  f166 := Tryd.func125.trans (congrArg some (by kernel_rfl))
  f169 := Tryd.func126.trans (congrArg some (by kernel_rfl))
  f240 := Tryd.func144.trans (congrArg some (by kernel_rfl))
  f241 := Tryd.func145.trans (congrArg some (by kernel_rfl))
  f276 := Tryd.func156.trans (congrArg some (by kernel_rfl))
  f277 := Tryd.func157.trans (congrArg some (by kernel_rfl))
  t0 := Tryd.underlying0
  a0 := Tryd.isAgg0
  z0 := Tryd.sizeOf0
  v0 := Tryd.zeroValue0
  t3 := Tryd.underlying3
  a3 := Tryd.isAgg3
  z3 := Tryd.sizeOf3
  v3 := Tryd.zeroValue3
  t4 := Tryd.underlying4
  a4 := Tryd.isAgg4
  z4 := Tryd.sizeOf4
  v4 := Tryd.zeroValue4
  t9 := Tryd.underlying9
  a9 := Tryd.isAgg9
  z9 := Tryd.sizeOf9
  v9 := Tryd.zeroValue9
  t20 := Tryd.underlying20
  a20 := Tryd.isAgg20
  z20 := Tryd.sizeOf20
  v20 := Tryd.zeroValue20
  t31 := Tryd.underlying22
  a31 := Tryd.isAgg22
  z31 := Tryd.sizeOf22
  v31 := Tryd.zeroValue22
  t37 := Tryd.underlying47
  a37 := Tryd.isAgg47
  z37 := Tryd.sizeOf47
  v37 := Tryd.zeroValue47
  t70 := Tryd.underlying151
  a70 := Tryd.isAgg151
  z70 := Tryd.sizeOf151
  v70 := Tryd.zeroValue151
  t72 := Tryd.underlying153
  a72 := Tryd.isAgg153
  z72 := Tryd.sizeOf153
  v72 := Tryd.zeroValue153
  t75 := Tryd.underlying155
  a75 := Tryd.isAgg155
  z75 := Tryd.sizeOf155
  v75 := Tryd.zeroValue155
  t76 := Tryd.underlying156
  a76 := Tryd.isAgg156
  z76 := Tryd.sizeOf156
  v76 := Tryd.zeroValue156
  t127 := Tryd.underlying171
  a127 := Tryd.isAgg171
  z127 := Tryd.sizeOf171
  v127 := Tryd.zeroValue171
  t164 := Tryd.underlying180
  a164 := Tryd.isAgg180
  z164 := Tryd.sizeOf180
  v164 := Tryd.zeroValue180 }
end Go.Proofs
namespace Go.Proofs.YtoeibcdnhglobaaDoor.P
set_option linter.unusedVariables false
set_option linter.unusedSimpArgs false
open Go.RowKit Go.Shelf Go.Proofs.YtoeibcdnhglobaaDoorW.PrintWords Go.Proofs.YtoeibcdnhglobaaDoorW.PrintLast Go.Proofs.YtoeibcdnhglobaaDoorW.PrintMore
open Go.Proofs.YtoeibcdnhglobaaDoor.Pure

/-- The bytes of a row of texts, one behind the other. -/
def catR (l : List ByteArray) : List Int := l.flatMap bytesOf
theorem catR_len (l : List ByteArray) (hs : ∀ s ∈ l, s.size = 32) : (catR l).length = 32 * l.length := by
  induction l with
  | nil => rfl
  | cons x r ih =>
    have h1 := ih (fun s hm => hs s (List.mem_cons_of_mem _ hm))
    have h2 : (bytesOf x).length = 32 := by rw [bytesOf_length]; exact hs x (List.mem_cons_self ..)
    show (bytesOf x ++ catR r).length = _
    rw [List.length_append, h1, h2, List.length_cons]; omega
theorem str_bytes (s : ByteArray) : strOfNums (bytesOf s) = s := by
  unfold strOfNums bytesOf
  apply ByteArray.ext
  have e : ((fun n : Int => UInt8.ofNat n.toNat) ∘ fun b : UInt8 => ((b.toNat : Nat) : Int)) = id := by funext b; simp
  simp [e]
theorem hs32_cat (l : List ByteArray) (hs : ∀ s ∈ l, s.size = 32) : hs32 (catR l) = l := by
  have hl := catR_len l hs
  apply List.ext_getElem
  · simp [hs32, hl]
  · intro q h1 h2
    have key : ∀ (l : List ByteArray) (hs : ∀ s ∈ l, s.size = 32) (q : Nat) (h : q < l.length), ((catR l).drop (32 * q)).take 32 = bytesOf l[q] := fun l => by
      induction l with
      | nil => intro hs q h; exact absurd h (Nat.not_lt_zero _)
      | cons x r ih =>
        intro hs q h
        have h2 : (bytesOf x).length = 32 := by rw [bytesOf_length]; exact hs x (List.mem_cons_self ..)
        cases q with
        | zero =>
          show ((bytesOf x ++ catR r).drop 0).take 32 = _
          rw [List.drop_zero, List.take_left' h2]; rfl
        | succ q =>
          have e : 32 * (q + 1) = (bytesOf x).length + 32 * q := by rw [h2]; omega
          show ((bytesOf x ++ catR r).drop (32 * (q + 1))).take 32 = _
          rw [e, List.drop_length_add_append]
          exact ih (fun s hm => hs s (List.mem_cons_of_mem _ hm)) q (by simpa using h)
    simp only [hs32, List.getElem_map, List.getElem_range]
    rw [key l hs q h2, str_bytes]
theorem join_flat : ∀ (l : List (List UInt8)), Lib.join l [] = l.flatten
  | [] => rfl
  | x :: r => by rw [Lib.join_cons]; simp [Lib.joinTail]
theorem join_cat (l : List ByteArray) : (Lib.join (l.map (·.data.toList)) []).map (fun b => (b.toNat : Int)) = catR l := by
  rw [join_flat]
  unfold catR
  induction l with
  | nil => rfl
  | cons x r ih =>
    simp only [List.map_cons, List.flatten_cons, List.map_append, List.flatMap_cons]
    rw [ih]
    rfl
/-- A row of texts that begins a block. -/
def SRow (w : World) (A : Option Addr) (h : List ByteArray) : Prop := (A = none ∧ h = []) ∨ ∃ g, A = some ⟨g, 0, none⟩ ∧ ∀ j (hj : j < h.length), w.cell? ⟨g, j, none⟩ = some (.string h[j])
theorem SRow.of_own {w : World} {base n c : Nat} {A : Option Addr} {h : List ByteArray} (ho : w.ownsRow base 9 1 (.slice A n c) h.length (encs Value.string h)) : SRow w A h := by
  rcases ho.2 with ⟨e, h0⟩ | ⟨g, cap, cur, e, _, hg, _⟩
  · cases e; exact .inl ⟨rfl, List.length_eq_zero_iff.1 h0⟩
  · cases e
    refine .inr ⟨g, rfl, fun j hj => ?_⟩
    rw [ho.cellAt j (by omega)]
    simp [encs, hj]
theorem SRow.below {w w' : World} {A : Option Addr} {h : List ByteArray} (s : SRow w A h) (hb : Below w.heap.size w w') : SRow w' A h := by
  rcases s with s | ⟨g, e, s⟩
  · exact .inl s
  · exact .inr ⟨g, e, fun j hj => pw_cell_below hb (s j hj)⟩
theorem builderX : Builder.Extra Tryd.prog Tryd.lays156_ren where
  sizeBuilder := by kernel_rfl
  liesBuilder := by kernel_rfl
  t5 := Tryd.underlying5
  a5 := Tryd.isAgg5
  z5 := Tryd.sizeOf5
  v5 := Tryd.zeroValue5
  infoByte := by kernel_rfl
  cellsByte := by kernel_rfl
  sizeByte := by kernel_rfl
  neB5 := by decide
set_option maxRecDepth 100000 in
set_option maxHeartbeats 4000000 in
theorem Data_calls (A : Option Addr) (c : Nat) (l : List ByteArray) (w : World) (hs : ∀ s ∈ l, s.size = 32) (hl : l.length ≤ 1000) (hr : SRow w A l) (hc : l.length ≤ c) :
    Calls Tryd.prog 56 #[.slice A l.length c] w fun e w' => ∃ A' c', e = .returned (.slice A' (catR l).length c') ∧ (catR l).length ≤ c' ∧ ReadsInt w' .u8 A' (catR l).length (catR l) ∧ Below w.heap.size w w' := by
  have hlen := catR_len l hs
  have hj := join_cat l
  have kJ : Calls Tryd.prog 97 #[.slice A l.length c, .string ⟨#[]⟩] w fun e w' => e = .returned (.string ⟨(Lib.join (l.map (·.data.toList)) []).toArray⟩) ∧ Below w.heap.size w w' := by
    have X := builderX
    rcases hr with ⟨rfl, rfl⟩ | ⟨g, rfl, hcell⟩
    · exact (Any.strings_Join_none Tryd.lays156 X none c ⟨#[]⟩ w).mono fun e w' ⟨he, hw⟩ => ⟨he, hw ▸ Below.refl _ _⟩
    · by_cases h0 : l.length = 0
      · obtain rfl := List.length_eq_zero_iff.1 h0
        exact (Any.strings_Join_none Tryd.lays156 X _ c ⟨#[]⟩ w).mono fun e w' ⟨he, hw⟩ => ⟨he, hw ▸ Below.refl _ _⟩
      · have hg : g < w.heap.size := World.block_lt_of_cell? _ _ (hcell 0 (by omega))
        refine Any.strings_Join Tryd.lays156 X g 0 c l ⟨#[]⟩ w (fun j x hx => ?_) hg (by omega) hc ?_
        · obtain ⟨h1, h2⟩ := List.getElem?_eq_some_iff.1 hx
          rw [Nat.zero_add, hcell j h1, h2]
        · have := congrArg List.length hj
          rw [List.length_map] at this
          show (Lib.join (l.map (·.data.toList)) []).length ≤ _
          omega
  obtain ⟨S, hS⟩ : ∃ S : ByteArray, S = ⟨(Lib.join (l.map (·.data.toList)) []).toArray⟩ := ⟨_, rfl⟩
  have hb : bytesOf S = catR l := by rw [← hj, hS]; simp [bytesOf]
  have hsz : S.size = (catR l).length := by rw [← hb, bytesOf_length]
  rw [← hS] at kJ
  have kb := fun (W : World) => print_bytes (P := Tryd.prog) 9 47 5 Tryd.underlying9 Tryd.underlying47 Tryd.underlying5 S W
  have kr := fun (W : World) => bytes_reads W 5 S (by omega)
  have kbel := fun (W : World) (h : Below w.heap.size w W) => bytes_below h h.size 5 S
  have kcap := fun (W : World) => (show S.size ≤ grownCap W S.size 0 5 from grownCap_ge W S.size 0 5)
  rw [hb, hsz] at kr
  have KR := Lib.hid kr
  have KC := Lib.hid kcap
  have KB := Lib.hid kbel
  rw [hsz] at kb
  rw [hsz] at KC
  clear kr kcap kbel hj hS hb hs hlen hsz hr
  generalize (catR l).length = N at *
  go_enter Tryd.func56, Tryd.ntmps56
  go_wp2_with (go_at_call 97; with_reducible refine kJ.mono ?_; rintro e w1 ⟨rfl, hb1⟩)
  go_ret
  exact ⟨_, _, rfl, KC.out _, KR.out _, KB.out _ hb1⟩
end Go.Proofs.YtoeibcdnhglobaaDoor.P
