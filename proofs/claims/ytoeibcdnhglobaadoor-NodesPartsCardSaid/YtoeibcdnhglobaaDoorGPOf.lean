/- proof.Of: the walk. Printed by wip/tools (genprof.py). -/
import Derived.Sort.LoopGhostIn
import Derived.Test.YtoeibcdnhglobaaDoorH0
import Derived.Test.YtoeibcdnhglobaaDoorGChunk
namespace Go.Proofs.YtoeibcdnhglobaaDoor.P
set_option linter.unusedVariables false
set_option linter.unusedSimpArgs false
open Go.RowKit Go.Shelf Go.Proofs.YtoeibcdnhglobaaDoorW.PrintWords Go.Proofs.YtoeibcdnhglobaaDoorW.PrintLast Go.Proofs.YtoeibcdnhglobaaDoorW.PrintMore
open Go.Proofs.YtoeibcdnhglobaaDoor.Pure
attribute [local go_sem] Oper.semAt_some

theorem inf22 : (Tryd.prog.info? 22).map (fun i => (i.zero, i.size, i.bytes)) = some (some (.slice none 0 0), 1, 24) := by kernel_rfl
/-- Texts in a row, from its block's first cell on. -/
def StrRow (w : World) (A : Option Addr) (h : List ByteArray) : Prop := (A = none ∧ h = []) ∨ ∃ g, A = some ⟨g, 0, none⟩ ∧ ∀ j (hj : j < h.length), w.cell? ⟨g, j, none⟩ = some (.string h[j])
theorem StrRow.of_own {w : World} {base n c : Nat} {A : Option Addr} {h : List ByteArray} (ho : w.ownsRow base 9 1 (.slice A n c) h.length (encs Value.string h)) : StrRow w A h := by
  rcases ho.2 with ⟨e, h0⟩ | ⟨g, cap, cur, e, _, hg, _⟩
  · cases e; exact .inl ⟨rfl, List.length_eq_zero_iff.1 h0⟩
  · cases e
    refine .inr ⟨g, rfl, fun j hj => ?_⟩
    rw [ho.cellAt j (by omega)]
    simp [encs, hj]
theorem StrRow.below {w w' : World} {A : Option Addr} {h : List ByteArray} (s : StrRow w A h) (hb : Below w.heap.size w w') : StrRow w' A h := by
  rcases s with s | ⟨g, e, s⟩
  · exact .inl s
  · exact .inr ⟨g, e, fun j hj => pw_cell_below hb (s j hj)⟩
theorem StrRow.take {w : World} {A : Option Addr} {h : List ByteArray} (s : StrRow w A h) (k : Nat) : StrRow w A (h.take k) := by
  rcases s with ⟨rfl, rfl⟩ | ⟨g, e, s⟩
  · exact .inl ⟨rfl, by simp⟩
  · exact .inr ⟨g, e, fun j hj => by rw [s j (by rw [List.length_take] at hj; omega)]; simp⟩
theorem CloneA (w : World) (A : Option Addr) (c : Nat) (h : List ByteArray) (s : StrRow w A h) (hn : h.length < 1099511627776) :
    Calls Tryd.prog 81 #[.slice A h.length c] w fun e w' => ∃ v', e = .returned v' ∧ w'.ownsRow w.heap.size 9 1 v' h.length (encs Value.string h) ∧ Below w.heap.size w w' := by
  rcases s with ⟨rfl, rfl⟩ | ⟨g, rfl, s⟩
  · exact (Any.slices_Clone_string_nil Tryd.lays16 0 c w).mono fun e w' ⟨he, hw⟩ => ⟨_, he, World.ownsRow_nil _ _ _ _, hw ▸ Below.refl _ _⟩
  · refine (Any.slices_Clone_string Tryd.lays16 g 0 h.length c h w (Nat.le_refl _) (by omega) (fun j hj => ?_)).mono fun e w' ⟨v', he, ho, _, hb⟩ => ⟨v', he, by rw [List.take_length] at ho; exact ho, hb⟩
    rw [Nat.zero_add, s j hj]
    simp [List.getD_eq_getElem?_getD, hj]
/-- A mark among the deferred calls: what a loop over an iterator has collected. -/
def mkD (D : Nat) : Deferred := { target := .collected D, args := #[] }
/-- The marks' blocks: each its own, none holding a call. -/
def Marks (n0 : Nat) (Ds : List Nat) (W : World) : Prop := Ds.Nodup ∧ ∀ D ∈ Ds, n0 ≤ D ∧ W.heap[D]? = some (.deferred (some []))
theorem Marks.below {n0 : Nat} {Ds : List Nat} {W W' : World} (h : Marks n0 Ds W) (hb : Below W.heap.size W W') : Marks n0 Ds W' :=
  ⟨h.1, fun D hD => ⟨(h.2 D hD).1, (hb.block D (Array.getElem?_eq_some_iff.1 (h.2 D hD).2).1).trans (h.2 D hD).2⟩⟩
theorem touch_putObj {S : Nat → Prop} (W : World) (D : Nat) (o : Obj) (hD : S D) : Touch S W (W.putObj D o) := by
  have g := grownBy_putObj' W D o
  exact Touch.grown g (fun k e => by cases e; exact hD)
theorem leaves_marks {F : Fence} {n : Nat} {fn : Func} {tmps : Array Value} {R : Ending → World → Prop} : ∀ (Ds : List Nat) (n0 : Nat) (W : World), Marks n0 Ds W →
    (∀ W', Touch (fun k => k ∈ Ds) W W' → LeavesInM F n Tryd.prog fn tmps R [] .returning W') → LeavesInM F n Tryd.prog fn tmps R (Ds.map mkD) .returning W
  | [], n0, W, _, h => h W (Touch.refl _ _)
  | D :: Ds, n0, W, hm, h => by
    obtain ⟨hnd, hall⟩ := hm
    have hK := (hall D (List.mem_cons_self ..)).2
    refine ⟨by simp, .inl ⟨_, _, rfl, run_takeDeferred hK, ?_⟩⟩
    have ht := touch_putObj (S := fun k => k = D) W D (.deferred none) rfl
    refine leaves_marks Ds n0 _ ⟨(List.nodup_cons.1 hnd).2, fun E hE => ⟨(hall E (List.mem_cons_of_mem _ hE)).1, ?_⟩⟩ (fun W' hW' => h W' ?_)
    · have hne : E ≠ D := fun e => (List.nodup_cons.1 hnd).1 (e ▸ hE)
      exact ht.blk (hall E (List.mem_cons_of_mem _ hE)).2 hne
    · exact (ht.mono (S2 := fun k => k ∈ D :: Ds) (fun i e => by rw [e]; exact List.mem_cons_self ..)).trans (hW'.mono (S2 := fun k => k ∈ D :: Ds) (fun i e => List.mem_cons_of_mem _ e)) (fun i e => .inl e)
/-- Between two rounds of Of's loop: the levels so far, in the row v3. -/
structure LvI (w : World) (n0 : Nat) (h : List ByteArray) (vs : List Value) (v3 : Value) (W : World) : Prop where
  row : W.ownsRow n0 22 1 v3 vs.length vs
  pos : 1 ≤ vs.length
  each : ∀ j (hj : j < vs.length), W.ownsRow n0 9 1 vs[j] (lvl joinH h j).length (encs Value.string (lvl joinH h j))
  big : ∀ j, j + 1 < vs.length → 2 ≤ (lvl joinH h j).length
  below : Below n0 w W
theorem lvl_pow (h : List ByteArray) (j : Nat) (hb : 2 ≤ (lvl joinH h j).length) : j < h.length := by
  rw [lvl_length] at hb
  have h1 : 2 * 2 ^ j ≤ h.length := (Nat.le_div_iff_mul_le (Nat.two_pow_pos j)).1 hb
  have h2 : j < 2 ^ j := Nat.lt_two_pow_self
  omega
theorem LvI.few {w : World} {n0 : Nat} {h : List ByteArray} {vs : List Value} {v3 : Value} {W : World} (i : LvI w n0 h vs v3 W) : vs.length ≤ h.length + 1 := by
  have := i.pos
  rcases Nat.lt_or_ge 1 vs.length with c | c
  · have := lvl_pow h (vs.length - 2) (i.big _ (by omega)); omega
  · omega
theorem own_lit_cells (W : World) (base : Nat) (e : TypeId) (u : Value) (hb : base ≤ W.heap.size) :
    (W.alloc (.cells #[u] e)).ownsRow base e 1 (.slice (some ⟨W.heap.size, 0, none⟩) 1 1) 1 [u] := by
  have := own_lit_of (enc := fun v : Value => v) W base e [u] hb (by simp)
  simpa [encs] using this
theorem own_slc {w : World} {base n : Nat} {e : TypeId} {size : Nat} {v : Value} {xs : List Value} (h : w.ownsRow base e size v n xs) : ∃ A c, v = .slice A n c ∧ n ≤ c := by
  rcases h.2 with ⟨rfl, h0⟩ | ⟨g, cap, cur, rfl, _, hg, hcap, _⟩
  · exact ⟨none, 0, by rw [h0], by omega⟩
  · exact ⟨_, _, rfl, hcap⟩
/-- What a pair gives. -/
def chU (L : List ByteArray) (x : Nat) : List ByteArray := if h : 2 * x + 1 < L.length then [joinH (L[2 * x]'(by omega)) L[2 * x + 1]] else []
theorem chU_len (L : List ByteArray) (x : Nat) : (chU L x).length ≤ 1 := by unfold chU; split <;> simp
def chs {N : Nat} (L : List ByteArray) (pre : List (Fin N)) : List ByteArray := pre.flatMap fun x => chU L x.val
theorem chs_len {N : Nat} (L : List ByteArray) : ∀ (pre : List (Fin N)), (chs L pre).length ≤ pre.length
  | [] => by simp [chs]
  | x :: r => by
    have h1 := chU_len L x.val
    have h2 := chs_len L r
    simp only [chs, List.flatMap_cons, List.length_append, List.length_cons] at h2 ⊢
    omega
theorem chs_snoc {N : Nat} (L : List ByteArray) (pre : List (Fin N)) (x : Fin N) : chs L (pre ++ [x]) = chs L pre ++ chU L x.val := by simp [chs]
theorem chs_all (L : List ByteArray) (N : Nat) (hN : L.length ≤ 2 * N) : chs L (List.finRange N) = up joinH L := by
  have key : ∀ k, k ≤ N → chs L ((List.finRange N).take k) = up joinH (L.take (2 * k)) := by
    intro k
    induction k with
    | zero => intro _; simp [chs, Pure.up]
    | succ k ih =>
      intro hk
      rw [List.take_succ_eq_append_getElem (by rw [List.length_finRange]; omega), chs_snoc, ih (by omega)]
      simp only [List.getElem_finRange, Fin.val_cast]
      unfold chU
      split
      · rename_i h; rw [up_snoc joinH L k h]
      · rename_i h
        rw [List.append_nil, List.take_of_length_le (l := L) (i := 2 * (k + 1)) (by omega)]
        exact up_take joinH L (2 * k) (by omega) (by omega)
  have := key N (Nat.le_refl _)
  rwa [List.take_of_length_le (by simp), List.take_of_length_le (by omega)] at this
theorem lvl_sz (h : List ByteArray) (hs : ∀ s ∈ h, s.size ≤ 32) : ∀ j, ∀ s ∈ lvl joinH h j, s.size ≤ 32
  | 0 => hs
  | j + 1 => up_sz _ (lvl_sz h hs j)
where
  up_sz : ∀ (l : List ByteArray), (∀ s ∈ l, s.size ≤ 32) → ∀ s ∈ up joinH l, s.size ≤ 32
  | [], _ => fun s h => by simp [Pure.up] at h
  | [_], _ => fun s h => by simp [Pure.up] at h
  | a :: b :: r, hs => fun s h => by
    simp only [Pure.up, List.mem_cons] at h
    rcases h with rfl | h
    · exact Nat.le_of_eq (nodeH_size a b)
    · exact up_sz r (fun s h => hs s (List.mem_cons_of_mem _ (List.mem_cons_of_mem _ h))) s h
theorem _root_.Go.KeepsFrom.of_touch' {S : Nat → Prop} {B : Nat} {W W' : World} (h : Touch S W W') (hS : ∀ k, S k → ∃ cs t fr, W.heap[k]? = some (.cells cs t fr)) : KeepsFrom B W W' :=
  ⟨h.size, fun k o _ ho hc => by
    refine (h.block k (Array.getElem?_eq_some_iff.1 ho).1 (fun e => ?_)).trans ho
    obtain ⟨cs, t, fr, e2⟩ := hS k e
    rw [e2] at ho; cases ho; cases hc⟩
theorem own_is_cells {w : World} {base n : Nat} {e : TypeId} {size : Nat} {v : Value} {xs : List Value} (h : w.ownsRow base e size v n xs) {g : Nat} (hg : v.ownBlock = some g) : ∃ cs fr, w.heap[g]? = some (.cells cs e fr) := by
  rcases h.2 with ⟨rfl, _⟩ | ⟨g', cap, cur, rfl, _, h2, _⟩
  · cases hg
  · cases hg; exact ⟨_, _, h2⟩
theorem marks_cell {n0 : Nat} {Ds : List Nat} {W W' : World} (hM : Marks n0 Ds W) (ht : Touch (fun k => k ∈ Ds) W W') {p : Addr} {v : Value} (hc : W.cell? p = some v) : W'.cell? p = some v := by
  refine (World.cell?_of_block (ht.block p.block (World.block_lt_of_cell? _ _ hc) (fun e => ?_))).trans hc
  have h2 := (hM.2 _ e).2
  simp [World.cell?, h2] at hc
theorem lvl_none (xs : List ByteArray) (K0 j : Nat) (h : (lvl joinH xs K0).length ≤ 1) (hj : K0 + 1 ≤ j) : (lvl joinH xs j).length = 0 := by
  rw [lvl_length] at h ⊢
  have h1 : xs.length < 2 ^ (K0 + 1) := by
    have := Nat.lt_mul_div_succ xs.length (Nat.two_pow_pos K0)
    have e : 2 ^ K0 * (xs.length / 2 ^ K0 + 1) ≤ 2 ^ K0 * 2 := Nat.mul_le_mul_left _ (by omega)
    rw [Nat.pow_succ]
    omega
  exact Nat.div_eq_of_lt (Nat.lt_of_lt_of_le h1 (Nat.pow_le_pow_right (by decide) hj))
set_option maxRecDepth 100000 in
set_option maxHeartbeats 8000000 in
theorem Of_in (m : Nat) (hm : 10 ≤ m) (A : Option Addr) (c : Nat) (xs : List ByteArray) (w : World) (hs : StrRow w A xs) (hn : xs.length ≤ 1000000) (hsz : ∀ s ∈ xs, s.size ≤ 32) (hG : GlobH w) :
    CallsIn Fence.wide m Tryd.prog 47 #[.slice A xs.length c] w fun e w' => ∃ A' K c', e = .returned (.iface 112 (.slice A' K c')) ∧ SrcAt w' A' K xs ∧ Below w.heap.size w w' := by
  have hm1 : 1 ≤ m := by omega
  have kC := CloneA w A c xs hs (by omega)
  obtain ⟨n0, hn0⟩ : ∃ n0, w.heap.size = n0 := ⟨_, rfl⟩
  have HN0 := Lib.hid hn0
  have HG := Lib.hid hG
  have HSZ := Lib.hid hsz
  rw [hn0] at kC
  clear hn0 hG hsz hs
  refine callsIn_of_wp_marks Tryd.func47 rfl trivial ?_ rfl
  simp only [Tryd.ntmps47, List.size_toArray, List.length_cons, List.length_nil, Nat.reduceAdd, Nat.reduceSub, Array.replicate_succ, Array.replicate_zero, List.push_toArray, List.append_toArray, List.nil_append, List.cons_append]
  gi_wp2_with (refine ⟨trivial, ?_⟩; gi_at_call 81; refine (callsIn_wide.2 kC).mono ?_; rintro e w1 ⟨v1, rfl, ho1, hb1⟩; obtain ⟨A1, c1, rfl, _⟩ := own_slc ho1)
  have hb1' : Below n0 w w1 := hb1
  have hi0 : LvI w n0 xs [.slice A1 xs.length c1] (.slice (some ⟨w1.heap.size, 0, none⟩) 1 1) (w1.alloc (.cells #[.slice A1 xs.length c1] 22)) := by
    have hs1 : n0 ≤ w1.heap.size := HN0.out ▸ hb1.size
    refine ⟨?_, by simp, ?_, fun j hj => by simp at hj, hb1.alloc hs1 _⟩
    · exact own_lit_cells w1 n0 22 _ hs1
    · intro j hj
      obtain rfl : j = 0 := by simpa using hj
      exact pw_own_below ho1 ((Below.refl _ w1).alloc (Nat.le_refl _) _)
  refine wpIn_loop_ghost_k (I := fun k a W => ∃ (vs : List Value) (Ds : List Nat) (v3 u4 u5 u6 u7 u8 u9 u10 u11 u12 u13 u14 u15 u16 u17 u18 u19 u20 u21 u22 u23 u24 u25 u26 u27 u28 u29 u30 u31 u32 u33 u34 u35 u36 u37 u38 u39 u40 u41 u42 u43 : Value), a = { tmps := (List.toArray (.slice A xs.length c :: undef :: Value.nilIface :: v3 :: u4 :: u5 :: u6 :: u7 :: u8 :: u9 :: u10 :: u11 :: u12 :: u13 :: u14 :: u15 :: u16 :: u17 :: u18 :: u19 :: u20 :: u21 :: u22 :: u23 :: u24 :: u25 :: u26 :: u27 :: u28 :: u29 :: u30 :: u31 :: u32 :: u33 :: u34 :: u35 :: u36 :: u37 :: u38 :: u39 :: u40 :: u41 :: u42 :: u43 :: [])), defers := Ds.map mkD } ∧ k = (lvl joinH xs (vs.length - 1)).length ∧ LvI w n0 xs vs v3 W ∧ Marks n0 Ds W) xs.length
    ⟨[.slice A1 xs.length c1], [], _, _, _, _, _, _, _, _, _, _, _, _, _, _, _, _, _, _, _, _, _, _, _, _, _, _, _, _, _, _, _, _, _, _, _, _, _, _, _, _, _, rfl, rfl, hi0, ⟨List.nodup_nil, fun D hD => by cases hD⟩⟩ ?_
  rintro k a W ⟨vs, Ds, v3, u4, u5, u6, u7, u8, u9, u10, u11, u12, u13, u14, u15, u16, u17, u18, u19, u20, u21, u22, u23, u24, u25, u26, u27, u28, u29, u30, u31, u32, u33, u34, u35, u36, u37, u38, u39, u40, u41, u42, u43, rfl, rfl, hI, hM⟩ J K hJ hK
  have hposI := hI.pos
  obtain ⟨K0, hlen⟩ : ∃ K0, vs.length = K0 + 1 := ⟨vs.length - 1, by omega⟩
  have hrow := hI.row
  rw [hlen] at hrow
  obtain ⟨g3, c3, rfl, _, _⟩ := hrow.form (by omega)
  have hlt : K0 < vs.length := by omega
  have hcl := hrow.cellAt K0 (by omega)
  have hev := hI.each K0 hlt
  have hve : vs[K0]? = some (vs[K0]'hlt) := List.getElem?_eq_getElem hlt
  rw [hve] at hcl
  obtain ⟨A4, c4, hv4, hc4⟩ := own_slc hev
  rw [hv4] at hcl hev
  have hlle := lvl_le xs K0
  have hfew := hI.few
  have hL2 : (K0 : Int) < (K0 : Int) + 1 := by omega
  have hL3 : (K0 : Int) ≤ 1000001 := by omega
  have hL5 : (0 : Int) ≤ (K0 : Int) := by omega
  have hK1 : vs.length - 1 = K0 := by omega
  rw [hK1] at hK
  have HLEN := Lib.hid hlen
  have HV4 := Lib.hid hv4
  clear hlen hve hv4 hposI hK1
  by_cases hgo : 1 < (lvl joinH xs K0).length
  · have hd : decide ((1 : Int) < ((lvl joinH xs K0).length : Int)) = true := decide_eq_true (by omega)
    generalize hnl : (lvl joinH xs K0).length = NL at *
    have HNL := Lib.hid hnl
    clear hnl
    gi_wp2_with (refine ⟨trivial, ?_⟩; gi_at_call 90; refine (Chunk_in_S _ _ _ 2 (by decide) _).mono ?_; rintro e w' ⟨rfl, hw'⟩; rw [hw']; clear hw' w')
    obtain ⟨g4, cc4, hA4, hg4n, _⟩ := hev.form (by omega)
    cases hA4
    obtain ⟨L, hLq⟩ : ∃ L, L = lvl joinH xs K0 := ⟨_, rfl⟩
    have hNLL : L.length = NL := by rw [hLq]; exact HNL.out
    have hcells : ∀ j (hj : j < L.length), W.cell? ⟨g4, j, none⟩ = some (.string L[j]) := by
      intro j hj
      rw [hev.cellAt j (by omega)]
      rw [← hLq]
      simp [encs, hj]
    have hszL : ∀ s ∈ L, s.size ≤ 32 := by rw [hLq]; exact lvl_sz xs HSZ.out K0
    have hg4W : g4 < W.heap.size := World.block_lt_of_cell? _ _ (hcells 0 (by omega))
    obtain ⟨N, hN⟩ : ∃ N, N = (NL + 1) / 2 := ⟨_, rfl⟩
    have hNq : ∀ q, q * 2 < NL ↔ q < N := fun q => by omega
    have hGW : GlobH W := by
      have hb := hI.below
      have h0 := HN0.out
      exact HG.out.below (by rw [h0]; exact hb)
    obtain ⟨n1, hn1⟩ : ∃ n1, W.heap.size = n1 := ⟨_, rfl⟩
    have HN1 := Lib.hid hn1
    rw [hn1] at hg4W
    have hb3 : Below n1 W (((W.alloc (.cells #[.slice none 0 0] 22)).alloc (.cells #[.slice (some ⟨g4, 0, none⟩) NL c4] 22)).alloc (.cells #[.int .i64 2] 3)) :=
      hn1 ▸ (((Below.refl _ W).alloc (Nat.le_refl _) _).alloc (by simp) _).alloc (by simp; omega) _
    have x0 := ((Boxed.new W 22 (.slice none 0 0)).alloc (.cells #[.slice (some ⟨g4, 0, none⟩) NL c4] 22)).alloc (.cells #[.int .i64 2] 3)
    have x1 := (Boxed.new (W.alloc (.cells #[.slice none 0 0] 22)) 22 (.slice (some ⟨g4, 0, none⟩) NL c4)).alloc (.cells #[.int .i64 2] 3)
    have x2 := Boxed.new ((W.alloc (.cells #[.slice none 0 0] 22)).alloc (.cells #[.slice (some ⟨g4, 0, none⟩) NL c4] 22)) 3 (.int .i64 2)
    have hsz3 : (((W.alloc (.cells #[.slice none 0 0] 22)).alloc (.cells #[.slice (some ⟨g4, 0, none⟩) NL c4] 22)).alloc (.cells #[.int .i64 2] 3)).heap.size = n1 + 1 + 1 + 1 := by simp [hn1]
    simp only [World.size_alloc] at x1 x2
    rw [hn1] at x0 x1 x2 ⊢
    generalize (((W.alloc (.cells #[.slice none 0 0] 22)).alloc (.cells #[.slice (some ⟨g4, 0, none⟩) NL c4] 22)).alloc (.cells #[.int .i64 2] 3)) = W3 at *
    have hown0 : W3.ownsRow (n1 + 1 + 1 + 1) 9 1 (.slice none 0 0) (chs (N := N) L []).length (encs Value.string (chs (N := N) L [])) := by simpa [chs, encs] using own_nil W3 (n1 + 1 + 1 + 1) 9 1
    have HLQ := Lib.hid hLq
    have HNLL := Lib.hid hNLL
    have HNE := Lib.hid hN
    clear hLq hNLL hN hn1
    refine wpIn_rangeFunc_ownH (Kp := KpS (fun b => b = n1 + 1 ∨ b = n1 + 1 + 1)) (w0 := W3) (N := N) (S := fun ys => ys = List.finRange N) (Sp := fun _ => True) (encs := fun q : Fin N => #[partV ⟨g4, 0, none⟩ NL 2 q.val]) rfl hm1 (gf := 120) (lb := #[.pointer (some ⟨n1 + 1, 0, none⟩), .pointer (some ⟨n1 + 1 + 1, 0, none⟩)]) rfl trivial (enters_of Tryd.func120 (by kernel_rfl) rfl)
      (fun l J Jx W hW hJ hJx hY h0 => chunk1_S (m - 1) (by omega) l (n1 + 1) (n1 + 1 + 1) ⟨g4, 0, none⟩ NL c4 2 N (by decide) (by decide) (by omega) (by omega) hNq J Jx W
        (fun s A B hs hb => hJ s A B none hs (grown_of_below hb none) (fun r e => by cases e))
        ((hW.cell (p := ⟨n1 + 1, 0, none⟩) x1.lt).trans x1.cell) ((hW.cell (p := ⟨n1 + 1 + 1, 0, none⟩) x2.lt).trans x2.cell) hY h0)
      KpS.t KpS.b (Below.refl _ _) (fun _ => rfl)
      (fun pre V => (∃ v, Boxed V n1 22 v ∧ V.ownsRow (n1 + 1 + 1 + 1) 9 1 v (chs L pre).length (encs Value.string (chs L pre)) ∧ True) ∧ Below n1 W V)
      (fun _ _ _ => False)
      (OwnFrom.and (Own.from (holdsRow_own (n1 + 1 + 1 + 1) n1 22 9 1 (fun (pre : List (Fin N)) => (chs L pre).length) (fun (pre : List (Fin N)) => encs Value.string (chs L pre)) (fun _ _ => True)) _) (ownFrom_below (by rw [HN1.out]; exact Nat.le_refl _) (by omega)))
      (fun _ _ _ _ _ hs _ _ => hs)
      ⟨⟨_, x0, hown0, trivial⟩, hb3⟩
      (fun x a' V => a' = { tmps := (List.toArray (.slice A xs.length c :: undef :: Value.nilIface :: .slice (some ⟨g3, 0, none⟩) (K0 + 1) c3 :: .pointer (some ⟨n1, 0, none⟩) :: partV ⟨g4, 0, none⟩ NL 2 x.val :: u6 :: u7 :: u8 :: .slice (some ⟨g3, 0, none⟩) (K0 + 1) c3 :: .slice (some ⟨g3, 0, none⟩) (K0 + 1) c3 :: .int .i64 (↑K0 + 1) :: .int .i64 ↑K0 :: .pointer (some ⟨g3, K0, none⟩) :: .slice (some ⟨g4, 0, none⟩) NL c4 :: .int .i64 ↑NL :: .bool true :: .slice (some ⟨g3, 0, none⟩) (K0 + 1) c3 :: .slice (some ⟨g3, 0, none⟩) (K0 + 1) c3 :: .int .i64 (↑K0 + 1) :: .int .i64 ↑K0 :: .pointer (some ⟨g3, K0, none⟩) :: .slice (some ⟨g4, 0, none⟩) NL c4 :: .func (.func 120) #[] #[.pointer (some ⟨n1 + 1, 0, none⟩), .pointer (some ⟨n1 + 1 + 1, 0, none⟩)] :: partV ⟨g4, 0, none⟩ NL 2 x.val :: u25 :: u26 :: u27 :: u28 :: u29 :: u30 :: u31 :: u32 :: u33 :: u34 :: u35 :: u36 :: u37 :: u38 :: u39 :: u40 :: u41 :: u42 :: u43 :: [])), defers := [] })
      (fun x a' => by rintro _ X Y row ha hg hrow; exact ha) ?assign ?body ?done ?stop
    case assign =>
      rintro l pre x W K hI hK
      gi_wp2
      exact hK _ _ ((KeepsOthers.refl' W).from _) (fun _ _ _ h => h) hI rfl
    case body =>
      rintro l pre x a' V hl ⟨r, hrr⟩ ⟨⟨vu, hbu, hownu, _⟩, hB⟩ rfl hlt
      obtain ⟨Au, cu, rfl, _⟩ := own_slc hownu
      have hcu := hbu.cell
      have hfu := hbu.frozen
      have hsn := chs_snoc L pre x
      have hcl2 := chs_len L pre
      have hVz : n1 + 1 + 1 + 1 ≤ V.heap.size := by have := (Array.getElem?_eq_some_iff.1 hrr).1; omega
      have hg4V : g4 < V.heap.size := by omega
      have hX : x.val < N := x.isLt
      generalize x.val = X at *
      by_cases hful : 2 * X + 1 < NL
      · have hmin : min 2 (NL - 2 * X) = 2 := by omega
        have hX2 : X * 2 = 2 * X := Nat.mul_comm _ _
        simp only [partV, hmin, add_plain, hX2]
        have hLb : 2 * X + 1 < L.length := by rw [HNLL.out]; exact hful
        have hc0 : V.cell? ⟨g4, 2 * X, none⟩ = some (.string (L[2 * X]'(by omega))) := (hB.cell (p := ⟨g4, 2 * X, none⟩) hg4W).trans (hcells _ (by omega))
        have hc1 : V.cell? ⟨g4, 2 * X + 1, none⟩ = some (.string L[2 * X + 1]) := (hB.cell (p := ⟨g4, 2 * X + 1, none⟩) hg4W).trans (hcells _ hLb)
        have hs0 : (L[2 * X]'(by omega)).size ≤ 32 := hszL _ (List.getElem_mem _)
        have hs1 : L[2 * X + 1].size ≤ 32 := hszL _ (List.getElem_mem _)
        have hch : chU L X = [joinH (L[2 * X]'(by omega)) L[2 * X + 1]] := by unfold chU; rw [dif_pos hLb]
        have HB0 : Below W.heap.size W V := by rw [HN1.out]; exact hB
        have hGV : GlobH V := hGW.below HB0
        generalize L[2 * X]'(by omega) = x0 at *
        generalize L[2 * X + 1] = x1 at *
        obtain ⟨Y, hY⟩ : ∃ Y, Y = joinH x0 x1 := ⟨_, rfl⟩
        rw [← hY] at hch
        have kJ : ∀ V2, Below V.heap.size V V2 → Calls Tryd.prog 41 #[.string x0, .string x1] V2 fun e w' => e = .returned (.string Y) ∧ Below V2.heap.size V2 w' := fun V2 h2 => by
          rw [hY]; exact Jc_H x0 x1 ⟨hs0, hs1⟩ V2 (hGV.below h2)
        rw [hch] at hsn
        generalize chs L pre = U at *
        have HSN := Lib.hid hsn
        have HOWN := Lib.hid hownu
        have HCAP : Hid ((U.length + 1) * 16 ≤ 140737488355328) := Lib.hid (by have := HNE.out; omega)
        have HLB := Lib.hid hLb
        have hd3 : ((2 : Int) == 2) = true := rfl
        clear hsn hownu hLb hch hY hlt hs0 hs1 hful hmin hX2
        generalize hnu : U.length = nu at *
        have hnuH := Lib.hid hnu
        clear hnu
        gi_wp2
        refine startIn_ (m := 11) (S := fun w' => Below V.heap.size V w') (ds := [9, 10]) #[false, false, false, false, false, false, false, false, false, false, false] rfl (by rintro ⟨a, w, h⟩; exact h) (by kernel_rfl) rfl rfl ((Below.refl _ V).drew) (fun hHeld => ?_)
        refine pure_ (i := 1) (N := some 29) (v := ?_) (a' := ?_) #[false, true, false, false, false, false, false, false, false, false, false] rfl rfl (by kernel_rfl) (fun _ _ _ h => h) (Or.inl ⟨by rfl, ?_⟩) ?_ ?_
        rotate_left
        · intro w'
          go_simp
          with_reducible rfl
        rotate_left
        · simp only [Act.put, List.setIfInBounds_toArray, List.set_cons_zero, List.set_cons_succ, i64_w, i32_w]
          rfl
        refine pure_ (i := 2) (N := some 30) (v := ?_) (a' := ?_) #[false, true, true, false, false, false, false, false, false, false, false] rfl rfl (by kernel_rfl) (fun _ _ _ h => h) (Or.inl ⟨by rfl, ?_⟩) ?_ ?_
        rotate_left
        · intro w'
          go_simp
          with_reducible rfl
        rotate_left
        · simp only [Act.put, List.setIfInBounds_toArray, List.set_cons_zero, List.set_cons_succ, i64_w, i32_w]
          rfl
        refine pure_ (i := 4) (N := some 32) (v := ?_) (a' := ?_) #[false, true, true, false, true, false, false, false, false, false, false] rfl rfl (by kernel_rfl) (fun _ _ _ h => h) (Or.inl ⟨by rfl, ?_⟩) ?_ ?_
        rotate_left
        · intro w'
          go_simp
          with_reducible rfl
        rotate_left
        · simp only [Act.put, List.setIfInBounds_toArray, List.set_cons_zero, List.set_cons_succ, i64_w, i32_w]
          rfl
        refine pure_ (i := 5) (N := some 33) (v := ?_) (a' := ?_) #[false, true, true, false, true, true, false, false, false, false, false] rfl rfl (by kernel_rfl) (fun _ _ _ h => h) (Or.inl ⟨by rfl, ?_⟩) ?_ ?_
        rotate_left
        · intro w'
          go_simp
          with_reducible rfl
        rotate_left
        · simp only [Act.put, List.setIfInBounds_toArray, List.set_cons_zero, List.set_cons_succ, i64_w, i32_w]
          rfl
        refine take_ (i := 0) (N := some 28) (v := ?_) (a' := ?_) #[true, true, true, false, true, true, false, false, false, false, false] rfl rfl (by kernel_rfl) (fun _ _ _ h => h) (Or.inl ⟨by rfl, ?_⟩) hHeld ?_ ?_
        rotate_left
        · intro w' s0
          have q0 := (s0.cell (p := ⟨g4, 2 * X, none⟩) hg4V).trans hc0
          have q1 := (s0.cell (p := ⟨g4, 2 * X + 1, none⟩) hg4V).trans hc1
          have q2 := (s0.cell (p := ⟨n1, 0, none⟩) hbu.lt).trans hcu
          go_simp
          with_reducible rfl
        rotate_left
        · simp only [Act.put, List.setIfInBounds_toArray, List.set_cons_zero, List.set_cons_succ, i64_w, i32_w]
          rfl
        refine take_ (i := 3) (N := some 31) (v := ?_) (a' := ?_) #[true, true, true, true, true, true, false, false, false, false, false] rfl rfl (by kernel_rfl) (fun _ _ _ h => h) (Or.inl ⟨by rfl, ?_⟩) hHeld ?_ ?_
        rotate_left
        · intro w' s0
          have q0 := (s0.cell (p := ⟨g4, 2 * X, none⟩) hg4V).trans hc0
          have q1 := (s0.cell (p := ⟨g4, 2 * X + 1, none⟩) hg4V).trans hc1
          have q2 := (s0.cell (p := ⟨n1, 0, none⟩) hbu.lt).trans hcu
          go_simp
          with_reducible rfl
        rotate_left
        · simp only [Act.put, List.setIfInBounds_toArray, List.set_cons_zero, List.set_cons_succ, i64_w, i32_w]
          rfl
        refine take_ (i := 6) (N := some 34) (v := ?_) (a' := ?_) #[true, true, true, true, true, true, true, false, false, false, false] rfl rfl (by kernel_rfl) (fun _ _ _ h => h) (Or.inl ⟨by rfl, ?_⟩) hHeld ?_ ?_
        rotate_left
        · intro w' s0
          have q0 := (s0.cell (p := ⟨g4, 2 * X, none⟩) hg4V).trans hc0
          have q1 := (s0.cell (p := ⟨g4, 2 * X + 1, none⟩) hg4V).trans hc1
          have q2 := (s0.cell (p := ⟨n1, 0, none⟩) hbu.lt).trans hcu
          go_simp
          with_reducible rfl
        rotate_left
        · simp only [Act.put, List.setIfInBounds_toArray, List.set_cons_zero, List.set_cons_succ, i64_w, i32_w]
          rfl
        refine one_ (i := 7) (N := some 35) #[true, true, true, true, true, true, true, true, false, false, false] rfl rfl (by kernel_rfl) (by decide) (fun K hK => ?_)
        refine goes_ Tryd.func41 (by kernel_rfl) rfl #[.string x0, .string x1] (by rfl) rfl rfl (by simp only [List.map_toArray, List.map_cons, List.map_nil]; rfl) ?_
        refine (kJ _ hHeld).mono ?_
        rintro e y1 ⟨rfl, hb_y1⟩
        refine ⟨_, rfl, ?_⟩
        have hq_y1 := hHeld.trans (hb_y1.mono hHeld.size)
        refine hK.out _ _ (hq_y1) (fun hHeld => ?_)
        clear hK K
        refine norm_ (a' := ?_) ?_ ?_
        rotate_left
        · show Act.put _ (some 35) _ = _
          simp only [Act.put, List.setIfInBounds_toArray, List.set_cons_zero, List.set_cons_succ, i64_w, i32_w]
          rfl
        refine one_ (i := 8) (N := some 36) #[true, true, true, true, true, true, true, true, true, false, false] rfl rfl (by kernel_rfl) (by decide) (fun K hK => ?_)
        refine value_ (w1 := ?_) (v := ?_) (by rfl) rfl ?_ ?_
        rotate_left 2
        · go_simp
          constructor
          · rfl
          · rfl
        refine hK.out _ _ ((hHeld.alloc hHeld.size _)) (fun hHeld => ?_)
        clear hK K
        refine norm_ (a' := ?_) ?_ ?_
        rotate_left
        · show Act.put _ (some 36) _ = _
          simp only [Act.put, List.setIfInBounds_toArray, List.set_cons_zero, List.set_cons_succ, i64_w, i32_w]
          rfl
        refine last_ (i := 9) (N := some 37) #[true, true, true, true, true, true, true, true, true, true, false] rfl rfl (by kernel_rfl) (by decide) (fun K hK => ?_)
        refine step_append_cells (W := y1) (w0 := y1) (n1 + 1 + 1 + 1) (by rfl) (.tmp 28) (.tmp 36) 22 9 (.string ⟨#[]⟩) 1 16 rfl Tryd.underlying22 inf9 rfl (by decide) (by decide) (.slice Au nu cu) nu (encs Value.string U) [.string Y] (by rfl) (by rfl) rfl (by simp [Value.oneCell']) (pw_own_below HOWN.out hq_y1) (Below.refl _ _) (by have := hq_y1.size; omega) HCAP.out ?_
        intro v6 w6 hown6 hB6 hg6 hat6
        obtain ⟨A9, c9, rfl, _⟩ := own_slc hown6
        have hbx1 : Boxed y1 n1 22 (.slice Au nu cu) := hbu.below hq_y1
        have hrow1 := pw_own_below HOWN.out hq_y1
        have hne1 : (Value.slice Au nu cu).ownBlock ≠ some n1 := own_ne hrow1 hbx1 (by decide)
        have hbx6 : Boxed w6 n1 22 (.slice Au nu cu) := hbx1.kept hg6 (fun e => hne1 e.symm)
        have hne6 : (Value.slice A9 (nu + 1) c9).ownBlock ≠ some n1 := own_ne hown6 hbx6 (by decide)
        have hc6 := hbx6.cell
        have hf6 := hbx6.frozen
        have ht6 : Touch (fun k => some k = (Value.slice Au nu cu).ownBlock ∨ k = n1) V (w6.setCell ⟨n1, 0, none⟩ (.slice A9 (nu + 1) c9)) :=
          ((Touch.of_below hq_y1).trans (Touch.grown (S := fun k => some k = (Value.slice Au nu cu).ownBlock ∨ k = n1) hg6 (fun k e => .inl e.symm)) (fun i e => .inl e)).trans (Touch.set w6 ⟨n1, 0, none⟩ _ (.inr rfl)) (fun i e => .inl e)
        have hfin1 : Boxed (w6.setCell ⟨n1, 0, none⟩ (.slice A9 (nu + 1) c9)) n1 22 (.slice A9 (nu + 1) c9) := hbx6.set _
        have hfin2 : (w6.setCell ⟨n1, 0, none⟩ (.slice A9 (nu + 1) c9)).ownsRow (n1 + 1 + 1 + 1) 9 1 (.slice A9 (nu + 1) c9) (nu + 1) (encs Value.string U ++ [Value.string Y]) :=
          own_blk hown6 fun g hg => Below.heap_setCell _ _ _ _ (fun e => hne6 (by have e2 : g = n1 := e; rw [← e2]; exact hg))
        have HF1 := Lib.hid hfin1
        have HF2 := Lib.hid hfin2
        have HT6 := Lib.hid ht6
        clear hown6 hB6 hg6 hat6 hbx1 hrow1 hbx6 hfin1 hfin2 ht6 hq_y1
        refine hK.out _ _ ?_
        clear hK K
        refine norm_ (a' := ?_) ?_ ?_
        rotate_left
        · show Act.put _ (some 37) _ = _
          simp only [Act.put, List.setIfInBounds_toArray, List.set_cons_zero, List.set_cons_succ, i64_w, i32_w]
          rfl
        refine last_ (i := 10) (N := none) #[true, true, true, true, true, true, true, true, true, true, true] rfl rfl (by kernel_rfl) (by decide) (fun K hK => ?_)
        refine skip_ (w1 := ?_) (by rfl) rfl ?_ ?_
        rotate_left
        · go_simp
          rfl
        refine hK.out _ _ ?_
        clear hK K
        refine done_ (by kernel_rfl) ?_
        have hown0' := HOWN.out
        refine ⟨KeepsFrom.of_touch' HT6.out ?_, ?_, ⟨⟨_, HF1.out, ?_, trivial⟩, ?_⟩⟩
        · rintro k (e | rfl)
          · rcases hown0'.2 with ⟨e1, _⟩ | ⟨g', cap, cur, e1, _, e2, _⟩
            · cases e1; cases e
            · cases e1; cases e; exact ⟨_, _, _, e2⟩
          · exact ⟨_, _, _, hbu⟩
        · intro p u hp hu
          refine (World.cell?_of_block (HT6.out.block p.block (World.block_lt_of_cell? _ _ hu) ?_)).trans hu
          rintro (e | e)
          · have := own_base hown0' _ e.symm; rcases hp with h | h <;> omega
          · rcases hp with h | h <;> omega
        · rw [HSN.out, List.length_append, hnuH.out]
          have := HF2.out
          simpa [encs] using this
        · refine hB.trans (HT6.out.to_below (by have := hB.size; omega) ?_)
          rintro k (e | rfl)
          · have := own_base hown0' _ e.symm; omega
          · exact Nat.le_refl _
      · have hmin : min 2 (NL - X * 2) = 1 := by have := HNE.out; omega
        have hch : chU L X = [] := by unfold chU; rw [dif_neg (by rw [HNLL.out]; exact hful)]
        rw [hch, List.append_nil] at hsn
        simp only [partV, hmin, add_plain]
        gi_wp2
        exact ⟨(KeepsOthers.refl' V).from _, (fun _ _ _ h => h), ⟨⟨_, hbu, by rw [hsn]; exact hownu, trivial⟩, hB⟩⟩
    case done =>
      rintro D ys V hD rfl ⟨⟨vu, hbu, hownu, _⟩, hB⟩ hKD
      rw [chs_all L N (by rw [HNLL.out]; have := HNE.out; omega)] at hownu
      obtain ⟨Au, cu, rfl, _⟩ := own_slc hownu
      have hcu := hbu.cell
      have hDlt : D < V.heap.size := (Array.getElem?_eq_some_iff.1 hKD).1
      have hBW : Below W.heap.size W V := by rw [HN1.out]; exact hB
      have hrowV := pw_own_below hrow hBW
      have hn1V : n1 ≤ V.heap.size := by have := hB.size; have := HN1.out; omega
      have hn0V : n0 ≤ V.heap.size := by have h1 := hI.below.size; have h2 := HN0.out; have h3 := HN1.out; omega
      obtain ⟨i22, hi22, hz22, hs22, hb22⟩ := info_parts inf22
      have hneD : ∀ E, V.heap[E]? = some (.deferred (some [])) → E ≠ g3 := fun E hE e => by
        obtain ⟨cs, fr, e2⟩ := own_is_cells hrowV rfl
        rw [e, e2] at hE; cases hE
      have hHI := Lib.hid hI
      have HM := Lib.hid hM
      have HHB := Lib.hid hB
      have HHK := Lib.hid hKD
      have HOU := Lib.hid hownu
      have HDD := Lib.hid hD
      clear hI hM hB hKD hownu hD hcells hszL hNq hown0 hcl
      gi_wp2_with (gi_at_builtin; refine wpListIn_append_own _ rfl _ _ 112 rfl n0 22 i22 (.slice none 0 0) 1 24 Tryd.underlying112 hi22 hz22 hs22 hb22 rfl (by decide) _ _ _ rfl (hrowV.alloc _) ⟨V.heap.size, 0, none⟩ 1 1 [.slice Au (Pure.up joinH L).length cu] rfl rfl (cell_one_new _ _ _) (by simp [Value.oneCell']) (by simp only [maxLen]; omega) (by omega) (by simp; omega) ?_; intro v' w5 hown5 hgrow5 _; obtain ⟨g5, cap5, rfl⟩ := ownsRow_succ hown5)
      have hg5 : (V.alloc (.cells #[.slice Au (Pure.up joinH L).length cu] 22)).grownBy w5 (some g3) := hgrow5
      clear hgrow5
      refine ⟨(lvl joinH xs (K0 + 1)).length, ?_, hJ _ _ _ ⟨vs ++ [.slice Au (Pure.up joinH L).length cu], D :: Ds, _, _, _, _, _, _, _, _, _, _, _, _, _, _, _, _, _, _, _, _, _, _, _, _, _, _, _, _, _, _, _, _, _, _, _, _, _, _, _, _, _, rfl, ?_, ?_, ?_⟩⟩
      · have h1 := lvl_length joinH xs (K0 + 1)
        have h2 : (lvl joinH xs (K0 + 1)).length = NL / 2 := by show (Pure.up joinH (lvl joinH xs K0)).length = _; rw [up_length, HNL.out]
        omega
      · rw [List.length_append, HLEN.out]; rfl
      · have hI := hHI.out
        have hB := HHB.out
        have hlA : V.heap.size < (V.alloc (.cells #[.slice Au (Pure.up joinH L).length cu] 22)).heap.size := by simp
        have hbA : Below V.heap.size V (V.alloc (.cells #[.slice Au (Pure.up joinH L).length cu] 22)) := (Below.refl _ V).alloc (Nat.le_refl _) _
        have keep : ∀ (u : Value) (n b : Nat) (ys : List Value), V.ownsRow b 9 1 u n ys → w5.ownsRow b 9 1 u n ys := fun u n b ys ho => by
          refine own_blk (pw_own_below ho hbA) fun g hg => ?_
          refine hg5.block g (by have := (ho.lt g hg).2; omega) (fun e => ?_)
          obtain ⟨cs, fr, e2⟩ := own_is_cells ho hg
          obtain ⟨cs3, fr3, e3⟩ := own_is_cells hrowV (g := g3) rfl
          have : g = g3 := by cases e; rfl
          rw [this, e3] at e2; cases e2
        refine ⟨by rw [List.length_append, HLEN.out]; exact hown5, by rw [List.length_append]; simp, ?_, ?_, ?_⟩
        · intro j hj
          rw [List.length_append, List.length_singleton, HLEN.out] at hj
          by_cases hjk : j < K0 + 1
          · rw [List.getElem_append_left (by rw [HLEN.out]; exact hjk)]
            exact keep _ _ _ _ (pw_own_below (hI.each j (by rw [HLEN.out]; exact hjk)) hBW)
          · obtain rfl : j = K0 + 1 := by omega
            have hge : (vs ++ [Value.slice Au (Pure.up joinH L).length cu])[K0 + 1]? = some (.slice Au (Pure.up joinH L).length cu) := by
              rw [List.getElem?_append_right (by rw [HLEN.out]; exact Nat.le_refl _), HLEN.out]; simp
            obtain ⟨hlt2, hge2⟩ := List.getElem?_eq_some_iff.1 hge
            rw [hge2]
            have hup : Pure.up joinH L = lvl joinH xs (K0 + 1) := by rw [HLQ.out]; rfl
            have ho := keep _ _ _ _ (own_weaken HOU.out (show n0 ≤ n1 + 1 + 1 + 1 by have h1 := hI.below.size; have h2 := HN0.out; have h3 := HN1.out; omega))
            rw [hup] at ho ⊢
            exact ho
        · intro j hj
          rw [List.length_append, List.length_singleton, HLEN.out] at hj
          by_cases hjk : j < K0
          · exact hI.big j (by rw [HLEN.out]; omega)
          · obtain rfl : j = K0 := by omega
            rw [HNL.out]; exact hgo
        · have hb2 : Below n0 w V := hI.below.trans (hB.mono (by have h1 := hI.below.size; have h2 := HN0.out; have h3 := HN1.out; omega))
          have hb5 : Below n0 w (V.alloc (.cells #[.slice Au (Pure.up joinH L).length cu] 22)) := hb2.alloc hn0V _
          exact hb5.grown hg5 (Nat.le_trans (by have h2 := HN0.out; omega) hb5.size) (fun k e => own_base hrowV k e)
      · have hM := (HM.out).below hBW
        have hbA : Below V.heap.size V (V.alloc (.cells #[.slice Au (Pure.up joinH L).length cu] 22)) := (Below.refl _ V).alloc (Nat.le_refl _) _
        have mk5 : ∀ E, E < V.heap.size → V.heap[E]? = some (.deferred (some [])) → w5.heap[E]? = some (.deferred (some [])) := fun E hE hEE => by
          refine (hg5.block E (by simp; omega) (fun e => ?_)).trans ((hbA.block E hE).trans hEE)
          have : E = g3 := by cases e; rfl
          exact hneD E hEE this
        have hDs : n1 ≤ D := by have := HDD.out; omega
        have hn01 : n0 ≤ n1 := by have h1 := hHI.out.below.size; have h2 := HN0.out; have h3 := HN1.out; omega
        refine ⟨List.nodup_cons.2 ⟨fun hmem => ?_, hM.1⟩, fun E hE => ?_⟩
        · have := (Array.getElem?_eq_some_iff.1 (HM.out.2 D hmem).2).1
          have h3 := HN1.out
          omega
        · rcases List.mem_cons.1 hE with rfl | hE
          · exact ⟨by omega, mk5 _ hDlt HHK.out⟩
          · exact ⟨(hM.2 E hE).1, mk5 _ (Array.getElem?_eq_some_iff.1 (hM.2 E hE).2).1 (hM.2 E hE).2⟩
    case stop =>
      rintro D c pre W _ _ h _
      exact h.elim
  · have hd : decide ((1 : Int) < ((lvl joinH xs K0).length : Int)) = false := decide_eq_false (by omega)
    generalize hnl : (lvl joinH xs K0).length = NL at *
    have HNL := Lib.hid hnl
    have HM := Lib.hid hM
    have HI := Lib.hid hI
    have HROW := Lib.hid hrow
    clear hnl hM hI hrow hev
    gi_wp2
    refine leaves_marks Ds n0 _ HM.out (fun W' hW' => ?_)
    have hI := HI.out
    have hb := hI.below
    have h0 := HN0.out
    have hBW' : Below w.heap.size w W' := by
      rw [h0]
      exact hb.trans (hW'.to_below (by have := hb.size; omega) (fun i hi => (HM.out.2 i hi).1))
    refine ⟨_, results_tmp rfl _ _ _, _, K0 + 1, _, rfl, ⟨fun j hj => ?_, fun j hj => lvl_none xs K0 j (by rw [HNL.out]; omega) hj, by omega, hn⟩, hBW'⟩
    have hjv : j < vs.length := by rw [HLEN.out]; exact hj
    have hej := hI.each j hjv
    obtain ⟨Aj, cj, hvj, _⟩ := own_slc hej
    have hcj := HROW.out.cellAt j (by omega)
    rw [List.getElem?_eq_getElem hjv, hvj] at hcj
    rw [hvj] at hej
    have hrj := own_reads_of' (d := ByteArray.empty) hej
    refine ⟨⟨g3, 0, none⟩, Aj, cj, rfl, by rw [add_plain]; exact marks_cell HM.out hW' hcj, hrj.1, hrj.2.1, fun hp => ?_⟩
    obtain ⟨ad, e, hall⟩ := hrj.2.2 hp
    exact ⟨ad, e, fun i hi => marks_cell HM.out hW' (hall i hi)⟩
end Go.Proofs.YtoeibcdnhglobaaDoor.P
