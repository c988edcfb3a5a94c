/- peaks.NodeHash, peaks.LeafHash: the walks. -/
import Derived.Test.YtoeibcdnhglobaaDoorGSum256
namespace Go.Proofs.YtoeibcdnhglobaaDoor.P
set_option linter.unusedVariables false
set_option linter.unusedSimpArgs false
open Go.RowKit Go.Shelf Go.Proofs.YtoeibcdnhglobaaDoorW.PrintWords Go.Proofs.YtoeibcdnhglobaaDoorW.PrintLast Go.Proofs.YtoeibcdnhglobaaDoorW.PrintMore
open Go.Proofs.YtoeibcdnhglobaaDoor.Pure

/-- The tables of the digest lie whole. -/
structure DTab (w : World) : Prop where
  k : KTab w
  b : BTab w
theorem DTab.below {w w' : World} (h : DTab w) {B : Nat} (hb : Below B w w') (hB : 3 < B) : DTab w' := ⟨h.k.below hb hB, h.b.below hb (by omega)⟩
/-- The hash of two. -/
def nodeH (a b : ByteArray) : ByteArray := strOfNums (shaN (1 :: (bytesOf a ++ bytesOf b)))
/-- The hash of a leaf. -/
def leafH (l : List Int) : ByteArray := strOfNums (shaN (0 :: l))
theorem bytesOf_ok (s : ByteArray) : ∀ x ∈ bytesOf s, 0 ≤ x ∧ x < 256 := by
  intro x hx
  obtain ⟨b, _, rfl⟩ := List.mem_map.1 hx
  have := b.toNat_lt
  omega
theorem bytes_below' (W : World) (s : ByteArray) : Below W.heap.size W (Lib.bytesWorld W 5 s) := bytes_below (Below.refl _ W) (Nat.le_refl _) 5 s
/-- A row of slices, just laid. -/
theorem parts_of (W : World) (ps : List Part) (hr : ∀ p ∈ ps, ReadsInt W .u8 p.A p.d.length p.d) (hok : ∀ x ∈ allB ps, 0 ≤ x ∧ x < 256) (hlt : (allB ps).length < 1099511627776) :
    Parts (W.alloc (.cells (ps.map fun p => Value.slice p.A p.d.length p.c).toArray 47)) (some ⟨W.heap.size, 0, none⟩) ps := by
  refine ⟨fun j h => ⟨_, rfl, ?_⟩, fun p hp => (hr p hp).allocS _, hok, hlt⟩
  rw [add_plain]
  have hn := heap_alloc_new W (.cells (ps.map fun p => Value.slice p.A p.d.length p.c).toArray 47)
  unfold World.cell?
  simp only []
  rw [hn]
  simp [h]
set_option maxRecDepth 100000 in
set_option maxHeartbeats 4000000 in
theorem NodeHash_calls (a b : ByteArray) (hs : a.size + b.size < 549755813888) (w : World) (hT : DTab w) :
    Calls Tryd.prog 41 #[.string a, .string b] w fun e w' => e = .returned (.string (nodeH a b)) ∧ Below w.heap.size w w' := by
  have kb := fun (s : ByteArray) (W : World) => print_bytes (P := Tryd.prog) 9 47 5 Tryd.underlying9 Tryd.underlying47 Tryd.underlying5 s W
  have hzb := fun (W : World) (s : ByteArray) => Lib.bytesWorld_size W 5 s
  obtain ⟨W1, hW1⟩ : ∃ W1, W1 = w.alloc (.cells #[.int .u8 1] 5) := ⟨_, rfl⟩
  obtain ⟨W2, hW2⟩ : ∃ W2, W2 = Lib.bytesWorld W1 5 a := ⟨_, rfl⟩
  obtain ⟨W3, hW3⟩ : ∃ W3, W3 = Lib.bytesWorld W2 5 b := ⟨_, rfl⟩
  have h1 : Below w.heap.size w W1 := hW1 ▸ (Below.refl _ w).alloc (Nat.le_refl _) _
  have z1 : W1.heap.size = w.heap.size + 1 := by rw [hW1]; simp
  have h2 : Below W1.heap.size W1 W2 := hW2 ▸ bytes_below' W1 a
  have z2 : W2.heap.size = w.heap.size + 1 + 1 := by rw [hW2, hzb, z1]
  have h3 : Below W2.heap.size W2 W3 := hW3 ▸ bytes_below' W2 b
  have z3 : W3.heap.size = w.heap.size + 1 + 1 + 1 := by rw [hW3, hzb, z2]
  have r1 : ReadsInt W1 .u8 (some ⟨w.heap.size, 0, none⟩) 1 [1] := hW1 ▸ reads_lit w [1] (by decide)
  have r2 : ReadsInt W2 .u8 (some ⟨w.heap.size + 1, 0, none⟩) a.size (bytesOf a) := by
    have := bytes_reads W1 5 a (by omega)
    rwa [← hW2, z1] at this
  have r3 : ReadsInt W3 .u8 (some ⟨w.heap.size + 1 + 1, 0, none⟩) b.size (bytesOf b) := by
    have := bytes_reads W2 5 b (by omega)
    rwa [← hW3, z2] at this
  have la := bytesOf_length a
  have lb := bytesOf_length b
  have hP := parts_of W3 [⟨some ⟨w.heap.size, 0, none⟩, 1, [1]⟩, ⟨some ⟨w.heap.size + 1, 0, none⟩, grownCap W1 a.size 0 5, bytesOf a⟩, ⟨some ⟨w.heap.size + 1 + 1, 0, none⟩, grownCap W2 b.size 0 5, bytesOf b⟩]
    (by
      intro p hp
      simp only [List.mem_cons, List.not_mem_nil, or_false] at hp
      rcases hp with rfl | rfl | rfl
      · exact (r1.below h2).below h3
      · show ReadsInt W3 .u8 _ (bytesOf a).length _
        rw [la]; exact r2.below h3
      · show ReadsInt W3 .u8 _ (bytesOf b).length _
        rw [lb]; exact r3)
    (by
      intro x hx
      simp only [allB, List.map_cons, List.map_nil, List.flatten_cons, List.flatten_nil, List.mem_append, List.mem_singleton, List.append_nil] at hx
      rcases hx with rfl | hx | hx
      · omega
      · exact bytesOf_ok a x hx
      · exact bytesOf_ok b x hx)
    (by simp [allB, la, lb]; omega)
  have hT3 : DTab W3 := ((hT.below h1 hT.k.lt).below h2 (by have := hT.k.lt; omega)).below h3 (by have := hT.k.lt; omega)
  have hB3 : Below w.heap.size w W3 := (h1.trans (h2.mono (by omega))).trans (h3.mono (by omega))
  rw [z3] at hP
  simp only [List.map_cons, List.map_nil, la, lb, List.length_cons, List.length_nil] at hP
  have hT4 := hT3.below ((Below.refl _ W3).alloc (Nat.le_refl _) (.cells #[.slice (some ⟨w.heap.size, 0, none⟩) 1 1, .slice (some ⟨w.heap.size + 1, 0, none⟩) a.size (grownCap W1 a.size 0 5), .slice (some ⟨w.heap.size + 1 + 1, 0, none⟩) b.size (grownCap W2 b.size 0 5)] 47)) hT3.k.lt
  have kS := Sum256_calls _ _ 3 _ hP (by simp) hT4.k hT4.b
  have hB4 := hB3.alloc (by omega) (.cells #[.slice (some ⟨w.heap.size, 0, none⟩) 1 1, .slice (some ⟨w.heap.size + 1, 0, none⟩) a.size (grownCap W1 a.size 0 5), .slice (some ⟨w.heap.size + 1 + 1, 0, none⟩) b.size (grownCap W2 b.size 0 5)] 47)
  have HB4 := Lib.hid hB4
  have hall : ∀ (A1 A2 A3 : Option Addr) (c1 c2 c3 : Nat), allB [⟨A1, c1, [1]⟩, ⟨A2, c2, bytesOf a⟩, ⟨A3, c3, bytesOf b⟩] = 1 :: (bytesOf a ++ bytesOf b) := by intros; simp [allB]
  simp only [hall] at kS
  have hstr := fun (W : World) (A : Option Addr) (n c : Nat) (xs : List Int) (h : ReadsInt W .u8 A n xs) => string_of_reads (P := Tryd.prog) (src := 47) (dst := 9) (c := c) Tryd.underlying47 Tryd.underlying5 Tryd.underlying9 h
  have HSTR := Lib.hid hstr
  subst hW3
  subst hW2
  subst hW1
  clear hP hT3 hB3 hT4 hB4 h1 h2 h3 r1 r2 r3 la lb hT hs z1 z2 z3 hall hstr
  go_enter Tryd.func41, Tryd.ntmps41
  go_wp2_with (go_at_call 86; refine kS.mono ?_; rintro e w5 ⟨v5, rfl, ho5, hb5⟩; obtain ⟨A5, c5, rfl, _⟩ := own_form ho5; have hcv := HSTR.out w5 A5 _ c5 _ (own_reads' ho5); have HB5 := Lib.hid hb5; clear ho5 hb5)
  go_ret
  exact ⟨rfl, HB4.out.trans (HB5.out.mono HB4.out.size)⟩
set_option maxRecDepth 100000 in
set_option maxHeartbeats 4000000 in
theorem LeafHash_calls (A : Option Addr) (c : Nat) (l : List Int) (hl : l.length < 549755813888) (w : World) (hr : ReadsInt w .u8 A l.length l) (hb : ∀ x ∈ l, 0 ≤ x ∧ x < 256) (hT : DTab w) :
    Calls Tryd.prog 37 #[.slice A l.length c] w fun e w' => e = .returned (.string (leafH l)) ∧ Below w.heap.size w w' := by
  obtain ⟨W1, hW1⟩ : ∃ W1, W1 = w.alloc (.cells #[.int .u8 0] 5) := ⟨_, rfl⟩
  have h1 : Below w.heap.size w W1 := hW1 ▸ (Below.refl _ w).alloc (Nat.le_refl _) _
  have z1 : W1.heap.size = w.heap.size + 1 := by rw [hW1]; simp
  have r1 : ReadsInt W1 .u8 (some ⟨w.heap.size, 0, none⟩) 1 [0] := hW1 ▸ reads_lit w [0] (by decide)
  have hP := parts_of W1 [⟨some ⟨w.heap.size, 0, none⟩, 1, [0]⟩, ⟨A, c, l⟩]
    (by
      intro p hp
      simp only [List.mem_cons, List.not_mem_nil, or_false] at hp
      rcases hp with rfl | rfl
      · exact r1
      · exact hr.below h1)
    (by
      intro x hx
      simp only [allB, List.map_cons, List.map_nil, List.flatten_cons, List.flatten_nil, List.mem_append, List.mem_singleton, List.append_nil] at hx
      rcases hx with rfl | hx
      · omega
      · exact hb x hx)
    (by simp [allB]; omega)
  have hT1 : DTab W1 := hT.below h1 hT.k.lt
  rw [z1] at hP
  simp only [List.map_cons, List.map_nil, List.length_cons, List.length_nil] at hP
  have hT4 := hT1.below ((Below.refl _ W1).alloc (Nat.le_refl _) (.cells #[.slice (some ⟨w.heap.size, 0, none⟩) (0 + 1) 1, .slice A l.length c] 47)) hT1.k.lt
  have kS := Sum256_calls _ _ 2 _ hP (by simp) hT4.k hT4.b
  have hB4 := h1.alloc (by omega) (.cells #[.slice (some ⟨w.heap.size, 0, none⟩) (0 + 1) 1, .slice A l.length c] 47)
  have HB4 := Lib.hid hB4
  have hall : ∀ (A1 A2 : Option Addr) (c1 c2 : Nat), allB [⟨A1, c1, [0]⟩, ⟨A2, c2, l⟩] = 0 :: l := by intros; simp [allB]
  simp only [hall] at kS
  have hstr := fun (W : World) (A : Option Addr) (n c : Nat) (xs : List Int) (h : ReadsInt W .u8 A n xs) => string_of_reads (P := Tryd.prog) (src := 47) (dst := 9) (c := c) Tryd.underlying47 Tryd.underlying5 Tryd.underlying9 h
  have HSTR := Lib.hid hstr
  subst hW1
  clear hP hT1 hT4 hB4 h1 r1 hT hl z1 hall hstr hr hb
  go_enter Tryd.func37, Tryd.ntmps37
  go_wp2_with (go_at_call 86; refine kS.mono ?_; rintro e w5 ⟨v5, rfl, ho5, hb5⟩; obtain ⟨A5, c5, rfl, _⟩ := own_form ho5; have hcv := HSTR.out w5 A5 _ c5 _ (own_reads' ho5); have HB5 := Lib.hid hb5; clear ho5 hb5)
  go_ret
  exact ⟨rfl, HB4.out.trans (HB5.out.mono HB4.out.size)⟩
end Go.Proofs.YtoeibcdnhglobaaDoor.P
