/- (*digest.Hash).Write: the walk. Printed by wip/tools/genwrite.py. -/
import Derived.Test.YtoeibcdnhglobaaDoorE4
import Derived.Test.YtoeibcdnhglobaaDoorE3
namespace Go.Proofs.YtoeibcdnhglobaaDoor.P
set_option linter.unusedVariables false
set_option linter.unusedSimpArgs false
open Go.RowKit Go.Shelf Go.Proofs.YtoeibcdnhglobaaDoorW.PrintWords Go.Proofs.YtoeibcdnhglobaaDoorW.PrintLast Go.Proofs.YtoeibcdnhglobaaDoorW.PrintMore
open Go.Proofs.YtoeibcdnhglobaaDoor.Pure
attribute [local go_sem] Oper.semAt_some

theorem step_append_bytes {ops : Array Oper} {o : Oper} {a : Act} {Q : Exit → Act → World → Prop} {Kc : Act → World → Prop} {W : World} (hw : Region.wanted o (yielded ops a.tmps) = true) (s x : Operand)
    (ho : o.op = .call { callee := .builtin .append, args := #[s, x], argTypes := #[47, 47] })
    (v : Value) (xs ys : List Int) (A : Option Addr) (m c : Nat) (hs : a.eval s = v) (hx : a.eval x = .slice A m c)
    (HO : OwnB W 0 v xs) (HR : ReadsInt W .u8 A m ys) (hl : (xs.length + m) * 1 ≤ 140737488355328)
    (h : ∀ v1 w1, OwnB w1 0 v1 (xs ++ ys) → W.grownBy w1 v.ownBlock → (v1.ownBlock = v.ownBlock ∨ ∃ b, v1.ownBlock = some b ∧ W.heap.size ≤ b) → Kc (a.put o.dst v1) w1) :
    if Region.wanted o (yielded ops a.tmps) = true then Oper.wp Tryd.prog o a W Kc Q else Kc (a.put o.dst undef) W := by
  refine Kd.R_append_rows_step (P := Tryd.prog) (Kd.int .u8) (Rr := fun x cs => cs = [Value.int .u8 x]) (w0 := W) 0 hw s x 47 5 (.int .u8 0) 1 ho Tryd.underlying47 inf5 rfl (by decide) (by decide) v xs ys A m c (fun _ => True) (fun _ => False) hs hx
    (Kd.R_of_own HO (fun _ _ => trivial)) (Kd.C_of_reads (d := (0 : Int)) (h1 := fun _ => rfl) HR) (fun _ _ h => h) (fun _ h => h.elim) (fun _ _ => trivial) (Below.refl 0 W) (Nat.zero_le _) hl ?_
  intro v1 w1 h1 _ hg hat
  exact h v1 w1 (Kd.own_of_R h1) hg hat
/-- A digest under way that has taken in l. -/
structure Dig (w : World) (b : Nat) (l : List Int) (v : Value) : Prop where
  blk : Hsh w b (runB H32 l (l.length / 64)) v l.length
  own : OwnB w 0 v (l.drop (64 * (l.length / 64)))
theorem Dig.kept {w w' : World} {b : Nat} {l : List Int} {v : Value} (h : Dig w b l v) {S : Nat → Prop} (ht : Touch S w w') (hS : ∀ k, S k → k ≠ b ∧ v.ownBlock ≠ some k) : Dig w' b l v :=
  ⟨ht.blk h.blk (fun e => (hS _ e).1 rfl), own_blk h.own fun g hg => ht.block g (h.own.lt g hg).2 (fun e => (hS g e).2 hg)⟩
/-- What holds while a block is taken in. -/
def foldW (s : List Nat) (l : List Int) {nb : Nat} (pre : List (Fin nb)) : List Nat := pre.foldl (fun s q => blockN s (words ((l.drop (64 * q.val)).take 64))) s
theorem foldW_all (s : List Nat) (l : List Int) (nb : Nat) : foldW s l (List.finRange nb) = runB s l nb := by
  have key : ∀ k, k ≤ nb → foldW s l ((List.finRange nb).take k) = runB s l k := by
    intro k
    induction k with
    | zero => intro _; simp [foldW, runB]
    | succ k ih =>
      intro hk
      have hi := ih (by omega)
      rw [List.take_succ_eq_append_getElem (by rw [List.length_finRange]; omega)]
      unfold foldW at hi ⊢
      rw [List.foldl_append, hi]
      simp [runB]
  have := key nb (Nat.le_refl _)
  rwa [List.take_of_length_le (by simp)] at this
theorem foldW_ok (s : List Nat) (l : List Int) {nb : Nat} (pre : List (Fin nb)) (hs : s.length = 8 ∧ ∀ x ∈ s, x < 4294967296) : (foldW s l pre).length = 8 ∧ ∀ x ∈ foldW s l pre, x < 4294967296 := by
  induction pre generalizing s with
  | nil => exact hs
  | cons q r ih => exact ih _ (blockN_ok _ _ hs)
theorem foldW_snoc (s : List Nat) (l : List Int) {nb : Nat} (pre : List (Fin nb)) (q : Fin nb) : foldW s l (pre ++ [q]) = blockN (foldW s l pre) (words ((l.drop (64 * q.val)).take 64)) := by simp [foldW, List.foldl_append]

/-- No panic comes. -/
def calmly (Q : Exit → Act → World → Prop) : Exit → Act → World → Prop
  | .normal, a, w => Q .normal a w
  | _, _, _ => False
theorem calm_ {P : Program} {c : Code} {Q : Exit → Act → World → Prop} {a : Act} {w : World} (h : Code.wp P c (calmly Q) a w) : Code.wp P c Q a w :=
  wp_mono h fun e a w hq => by cases e <;> first | exact hq | exact hq.elim
theorem add_block (ad : Addr) (j : Nat) : (ad.add j).block = ad.block := by unfold Addr.add; split <;> rfl
theorem ReadsInt.touch {w w' : World} {k : IntKind} {A : Option Addr} {n : Nat} {xs : List Int} (h : ReadsInt w k A n xs) {S : Nat → Prop} (ht : Touch S w w') (hS : ∀ ad, A = some ad → 0 < n → ¬ S ad.block) : ReadsInt w' k A n xs := by
  refine ⟨h.1, h.2.1, fun hn => ?_⟩
  obtain ⟨ad, e, hc⟩ := h.2.2 hn
  refine ⟨ad, e, fun j hj => ?_⟩
  have hlt := World.block_lt_of_cell? _ _ (hc j hj)
  rw [add_block] at hlt
  exact (World.cell?_of_block (by rw [add_block]; exact ht.block _ hlt (hS ad e hn))).trans (hc j hj)
theorem Hsh.alloc {w : World} {b : Nat} {s : List Nat} {v : Value} {n : Nat} (h : Hsh w b s v n) (o : Obj) : Hsh (w.alloc o) b s v n := h.far (Below.heap_alloc _ _ _ h.lt)
theorem sixty4 (n nb I : Nat) (hn : n < 1099511627776) (hnb : nb = n / 64) (hI : I = 64 * nb) : wrap64 (Int.tdiv (n : Int) 64) = (nb : Int) ∧ wrap64 ((nb : Int) * 64) = (I : Int) ∧ (n : Int) / 64 = (nb : Int) ∧ wrap64 (nb : Int) = (nb : Int) := by
  have h3 : (n : Int) / 64 = (nb : Int) := by omega
  have h4 : (nb : Int) * 64 = (I : Int) := by omega
  have h5 : wrap64 (nb : Int) = (nb : Int) := wrap64_id (by omega) (by omega)
  refine ⟨?_, ?_, h3, h5⟩
  · rw [Int.tdiv_eq_ediv_of_nonneg (by omega), h3]; exact h5
  · rw [h4]; exact wrap64_id (by omega) (by omega)
theorem boxed_setFar {W : World} {B : Nat} {t : TypeId} {v : Value} (h : Boxed W B t v) (p : Addr) (hne : B ≠ p.block) (u : Value) : Boxed (W.setCell p u) B t v := (Below.heap_setCell W p u B hne).trans h
/-- Ahead of the append. -/
structure In2 (n0 b : Nat) (st : List Nat) (v : Value) (N : Nat) (rest : List Int) (A : Option Addr) (d : List Int) (w W : World) : Prop where
  box : Boxed W n0 138 (.pointer (some ⟨b, 0, none⟩))
  blk : Hsh W b st v N
  own : OwnB W 0 v rest
  rd : ReadsInt W .u8 A d.length d
  tch : Touch (fun k => k = b) w W
  sz : w.heap.size ≤ n0 ∧ b < n0
/-- Behind the append. -/
structure In3 (n0 b : Nat) (st : List Nat) (v v1 : Value) (N : Nat) (rest : List Int) (w W : World) : Prop where
  box : Boxed W n0 138 (.pointer (some ⟨b, 0, none⟩))
  blk : Hsh W b st v N
  own : OwnB W 0 v1 rest
  tch : Touch (fun k => k = b ∨ some k = v.ownBlock) w W
  at_ : v1.ownBlock = v.ownBlock ∨ ∃ g, v1.ownBlock = some g ∧ n0 < g
  sz : w.heap.size ≤ n0 ∧ b < n0
theorem In2.drew {n0 b N : Nat} {st : List Nat} {v : Value} {rest d : List Int} {A : Option Addr} {w W : World} (h : In2 n0 b st v N rest A d w W) : In2 n0 b st v N rest A d w W.drew := ⟨h.box, h.blk, h.own, h.rd, h.tch.drew, h.sz⟩
theorem In2.grow {n0 b N : Nat} {st : List Nat} {v v1 : Value} {rest d : List Int} {A : Option Addr} {w W w1 : World} (h : In2 n0 b st v N rest A d w W) (hvb : v.ownBlock ≠ some b) (hown : OwnB w1 0 v1 (rest ++ d)) (hg : W.grownBy w1 v.ownBlock)
    (hat : v1.ownBlock = v.ownBlock ∨ ∃ g, v1.ownBlock = some g ∧ W.heap.size ≤ g) : In3 n0 b st v v1 N (rest ++ d) w w1 :=
  ⟨h.box.kept hg (h.box.not_row (by decide) h.own), h.blk.far (hg.block b h.blk.lt (fun e => hvb e.symm)), hown, (h.tch.mono (fun _ e => .inl e)).trans (Touch.grown (S := fun k => some k = v.ownBlock) hg (fun k e => e.symm)) (fun _ e => .inl (.inr e)),
   hat.imp id fun ⟨g, e, hl⟩ => ⟨g, e, Nat.lt_of_lt_of_le h.box.lt hl⟩, h.sz⟩
theorem In3.cb {n0 b N : Nat} {st : List Nat} {v v1 : Value} {rest : List Int} {w W : World} (h : In3 n0 b st v v1 N rest w W) : W.cell? ⟨n0, 0, none⟩ = some (.pointer (some ⟨b, 0, none⟩)) := h.box.cell
theorem In3.cv {n0 b N : Nat} {st : List Nat} {v v1 : Value} {rest : List Int} {w W : World} (h : In3 n0 b st v v1 N rest w W) (hs : st.length = 8) : W.cell? ⟨b, 8, none⟩ = some v := h.blk.rest hs
/-- Between two rounds: the boxes of the loop lie from n1 on. -/
structure In4 (n0 b n1 : Nat) (s : List Nat) (v v1 : Value) (N : Nat) (L : List Int) (w W : World) : Prop where
  box : Boxed W n0 138 (.pointer (some ⟨b, 0, none⟩))
  blk : Hsh W b s v1 N
  own : OwnB W 0 v1 L
  tch : Touch (fun k => k = b ∨ some k = v.ownBlock) w W
  lt : n0 < n1 ∧ b < n1 ∧ (∀ g, v1.ownBlock = some g → g < n1) ∧ w.heap.size ≤ n1 ∧ n1 + 2 ≤ W.heap.size
theorem In4.far {n0 b n1 N : Nat} {s : List Nat} {v v1 : Value} {L : List Int} {w W W' : World} (h : In4 n0 b n1 s v v1 N L w W) {S : Nat → Prop} (ht : Touch S W W') (hS : ∀ k, S k → n1 ≤ k) : In4 n0 b n1 s v v1 N L w W' :=
  ⟨ht.blk h.box (fun e => by have := hS _ e; have := h.lt; omega), ht.blk h.blk (fun e => by have := hS _ e; have := h.lt; omega),
   own_blk h.own fun g hg => ht.block g (h.own.lt g hg).2 (fun e => by have := hS _ e; have := h.lt.2.2.1 g hg; omega),
   h.tch.trans ht (fun i e => .inr (by have := hS _ e; have := h.lt; omega)), ⟨h.lt.1, h.lt.2.1, h.lt.2.2.1, h.lt.2.2.2.1, Nat.le_trans h.lt.2.2.2.2 ht.size⟩⟩
theorem In4.setS {n0 b n1 N : Nat} {s : List Nat} {v v1 : Value} {L : List Int} {w W : World} (h : In4 n0 b n1 s v v1 N L w W) (hvb : v1.ownBlock ≠ some b) (hn : n0 ≠ b) (i x : Nat) (hi : i < s.length) : In4 n0 b n1 (s.set i x) v v1 N L w (W.setCell ⟨b, i, none⟩ (.int .u32 x)) :=
  ⟨(Below.heap_setCell _ _ _ _ hn).trans h.box, h.blk.setS i x hi, own_blk h.own fun g hg => Below.heap_setCell _ _ _ _ (fun e => hvb (by rw [hg]; exact congrArg some e)),
   h.tch.trans (Touch.set (S := fun k => k = b) W ⟨b, i, none⟩ _ rfl) (fun _ e => .inl (.inl e)), ⟨h.lt.1, h.lt.2.1, h.lt.2.2.1, h.lt.2.2.2.1, by simp [World.setCell]; exact h.lt.2.2.2.2⟩⟩
theorem dig_next (l d : List Int) (q nb : Nat) (L : List Int) (hq : q = l.length / 64) (hL : L = l.drop (64 * q) ++ d) (hn : nb = L.length / 64) :
    runB (runB H32 l q) L nb = runB H32 (l ++ d) ((l ++ d).length / 64) ∧ L.drop (64 * nb) = (l ++ d).drop (64 * ((l ++ d).length / 64)) := by
  have hl : L.length = l.length - 64 * q + d.length := by rw [hL, List.length_append, List.length_drop]
  have e1 : (l ++ d).length / 64 = q + nb := by rw [List.length_append]; omega
  have e2 : (l ++ d).drop (64 * q) = L := by rw [hL, List.drop_append_of_le_length (by omega)]
  rw [e1]
  refine ⟨?_, ?_⟩
  · rw [runB_split H32 (l ++ d) q nb (by rw [List.length_append]; omega), runB_left H32 l d q (by omega), e2]
  · rw [show 64 * (q + nb) = 64 * q + 64 * nb by omega, ← List.drop_drop, e2]
set_option maxRecDepth 100000 in
set_option maxHeartbeats 8000000 in
theorem Write_calls (w : World) (b : Nat) (l : List Int) (v : Value) (h : Dig w b l v) (A : Option Addr) (c : Nat) (d : List Int) (hr : ReadsInt w .u8 A d.length d) (hlen : l.length + d.length < 1099511627776) (hb : ∀ x ∈ l ++ d, 0 ≤ x ∧ x < 256) (hK : KTab w) (hb3 : 3 < b) (hv3 : ∀ g, v.ownBlock = some g → 3 < g) (hA : ∀ ad, A = some ad → 0 < d.length → ad.block ≠ b) :
    Calls Tryd.prog 113 #[.pointer (some ⟨b, 0, none⟩), .slice A d.length c] w fun e w' => e = .returned (.tuple #[]) ∧ ∃ v', Dig w' b (l ++ d) v' ∧ Touch (fun k => k = b ∨ some k = v.ownBlock) w w' ∧ (∀ g, v'.ownBlock = some g → w.heap.size ≤ g) := by
  obtain ⟨n0, hn0⟩ : ∃ n0, w.heap.size = n0 := ⟨_, rfl⟩
  obtain ⟨st, hst⟩ : ∃ st, st = runB H32 l (l.length / 64) := ⟨_, rfl⟩
  obtain ⟨rest, hrest⟩ : ∃ rest, rest = l.drop (64 * (l.length / 64)) := ⟨_, rfl⟩
  have hstok := runB_ok H32 l H32_ok (l.length / 64)
  have hH := h.blk
  have hO := h.own
  rw [← hst] at hstok hH
  rw [← hrest] at hO
  have hbn : b < n0 := by rw [← hn0]; exact hH.lt
  have hm := hH.many hstok.1
  have hfm := hH.frozen 9
  have hvb : v.ownBlock ≠ some b := own_ne hO hH (by decide)
  have hrl : rest.length < 64 := by rw [hrest, List.length_drop]; omega
  have HST := Lib.hid hst
  have HRE := Lib.hid hrest
  have HSO := Lib.hid hstok
  have HH := Lib.hid hH
  have HO := Lib.hid hO
  have HR := Lib.hid hr
  have HLen := Lib.hid hlen
  have HBy := Lib.hid hb
  have HK := Lib.hid hK
  have HB3 := Lib.hid hb3
  have HV3 := Lib.hid hv3
  have hVB := Lib.hid hvb
  have HRL := Lib.hid hrl
  have hmm : (0 : Int) ≤ (l.length : Int) := by omega
  have hm2 : (l.length : Int) + (d.length : Int) < 1099511627776 := by omega
  have HAd := Lib.hid hA
  obtain ⟨L, hL⟩ : ∃ L, L = rest ++ d := ⟨_, rfl⟩
  have HL := Lib.hid hL
  clear hL
  have hl16 : (rest.length + d.length) * 1 ≤ 140737488355328 := by omega
  clear h hst hrest hstok hH hO hr hlen hb hK hb3 hv3 hvb hrl hA
  refine (callsIn_wide (n := 6)).1 (callsIn_of_wp_marks Tryd.func113 rfl trivial (wpIn_wide.2 ?_) rfl)
  simp only [Tryd.ntmps113, List.size_toArray, List.length_cons, List.length_nil, Nat.reduceAdd, Nat.reduceSub, Array.replicate_succ, Array.replicate_zero, List.push_toArray, List.append_toArray, List.nil_append, List.cons_append]
  go_wp2
  refine calm_ ?_
  refine at_world (fun W0 => In2 n0 b st v (l.length + d.length) rest A d w W0) ⟨?_, ?_, ?_, ?_, ?_, Nat.le_of_eq hn0, hbn⟩ ?_
  · have := Boxed.new (w.setCell ⟨b, 9, none⟩ (.int .i64 ((l.length : Int) + (d.length : Int)))) 138 (.pointer (some ⟨b, 0, none⟩))
    rwa [show (w.setCell ⟨b, 9, none⟩ (.int .i64 ((l.length : Int) + (d.length : Int)))).heap.size = n0 by simp [World.setCell, hn0]] at this
  · exact (HH.out.setM HSO.out.1 (l.length + d.length)).far (Below.heap_alloc _ _ _ (by simp [World.setCell]; omega))
  · refine pw_own_below (own_blk HO.out fun g hg => Below.heap_setCell _ _ _ _ (fun e => hVB.out (by rw [hg]; exact congrArg some e))) ((Below.refl _ _).alloc (Nat.le_refl _) _)
  · exact (ReadsInt.touch HR.out (Touch.set (S := fun k => k = b) w ⟨b, 9, none⟩ _ rfl) (HAd.out)).below ((Below.refl _ _).alloc (Nat.le_refl _) _)
  · exact (Touch.set (S := fun k => k = b) w ⟨b, 9, none⟩ _ rfl).below ((Below.refl _ _).alloc (Nat.le_refl _) _)
  clear hm hfm
  intro W2 hIW
  have hq0 := hIW.box.cell
  have hq8 := hIW.blk.rest HSO.out.1
  refine start_ (n := 10) (S := fun w' => w'.cell? ⟨n0, 0, none⟩ = some (.pointer (some ⟨b, 0, none⟩)) ∧ w'.cell? ⟨b, 8, none⟩ = some v) (ds := [9]) #[false, false, false, false, false, false, false, false, false, false] (by kernel_rfl) rfl rfl ⟨hq0, hq8⟩ (fun hHeld => ?_)
  refine pure_ (i := 5) (N := some 19) (v := ?_) (a' := ?_) #[false, false, false, false, false, true, false, false, false, false] rfl rfl (by kernel_rfl) (fun _ _ _ h => h) (Or.inl ⟨by rfl, ?_⟩) ?_ ?_
  rotate_left
  · intro w'
    go_simp
    with_reducible rfl
  rotate_left
  · simp only [Act.put, List.setIfInBounds_toArray, List.set_cons_zero, List.set_cons_succ, i64_w, i32_w]
    rfl
  refine take_ (i := 0) (N := some 14) (v := ?_) (a' := ?_) #[true, false, false, false, false, true, false, false, false, false] rfl rfl (by kernel_rfl) (fun _ _ _ h => h) (Or.inl ⟨by rfl, ?_⟩) hHeld ?_ ?_
  rotate_left
  · rintro w' ⟨s0, s1⟩
    go_simp
    with_reducible rfl
  rotate_left
  · simp only [Act.put, List.setIfInBounds_toArray, List.set_cons_zero, List.set_cons_succ, i64_w, i32_w]
    rfl
  refine take_ (i := 1) (N := some 15) (v := ?_) (a' := ?_) #[true, true, false, false, false, true, false, false, false, false] rfl rfl (by kernel_rfl) (fun _ _ _ h => h) (Or.inl ⟨by rfl, ?_⟩) hHeld ?_ ?_
  rotate_left
  · rintro w' ⟨s0, s1⟩
    go_simp
    with_reducible rfl
  rotate_left
  · simp only [Act.put, List.setIfInBounds_toArray, List.set_cons_zero, List.set_cons_succ, i64_w, i32_w]
    rfl
  refine pure_ (i := 2) (N := some 16) (v := ?_) (a' := ?_) #[true, true, true, false, false, true, false, false, false, false] rfl rfl (by kernel_rfl) (fun _ _ _ h => h) (Or.inl ⟨by rfl, ?_⟩) ?_ ?_
  rotate_left
  · intro w'
    go_simp
    with_reducible rfl
  rotate_left
  · simp only [Act.put, List.setIfInBounds_toArray, List.set_cons_zero, List.set_cons_succ, i64_w, i32_w]
    rfl
  refine pure_ (i := 3) (N := some 17) (v := ?_) (a' := ?_) #[true, true, true, true, false, true, false, false, false, false] rfl rfl (by kernel_rfl) (fun _ _ _ h => h) (Or.inl ⟨by rfl, ?_⟩) ?_ ?_
  rotate_left
  · intro w'
    go_simp
    with_reducible rfl
  rotate_left
  · simp only [Act.put, List.setIfInBounds_toArray, List.set_cons_zero, List.set_cons_succ, i64_w, i32_w]
    rfl
  refine take_ (i := 4) (N := some 18) (v := ?_) (a' := ?_) #[true, true, true, true, true, true, false, false, false, false] rfl rfl (by kernel_rfl) (fun _ _ _ h => h) (Or.inl ⟨by rfl, ?_⟩) hHeld ?_ ?_
  rotate_left
  · rintro w' ⟨s0, s1⟩
    go_simp
    with_reducible rfl
  rotate_left
  · simp only [Act.put, List.setIfInBounds_toArray, List.set_cons_zero, List.set_cons_succ, i64_w, i32_w]
    rfl
  refine one_ (i := 6) (N := some 20) #[true, true, true, true, true, true, true, false, false, false] rfl rfl (by kernel_rfl) (by decide) (fun K hK => ?_)
  have hI2 := hIW.drew
  refine step_append_bytes (by rfl) (.tmp 18) (.tmp 19) (by rfl) v rest d A d.length c (by rfl) (by rfl) hI2.own hI2.rd hl16 ?_
  intro v1 w1 hown1 hg1 hat1
  rw [← HL.out] at hown1
  obtain ⟨A1, c1, rfl, hc1⟩ := own_form hown1
  have hI3 := hI2.grow hVB.out (HL.out ▸ hown1) hg1 hat1
  rw [← HL.out] at hI3
  have hq1 := hI3.cb
  have hq2 := hI3.cv HSO.out.1
  have hq3 := hI3.blk.frozen 8
  have HI3 := Lib.hid hI3
  clear hI2 hown1 hg1 hat1 hI3
  refine hK.out _ _ ⟨hq1, hq2⟩ (fun hHeld => ?_)
  clear hK K
  refine norm_ (a' := ?_) ?_ ?_
  rotate_left
  · show Act.put _ (some 20) _ = _
    simp only [Act.put, List.setIfInBounds_toArray, List.set_cons_zero, List.set_cons_succ, i64_w, i32_w]
    rfl
  refine pure_ (i := 7) (N := some 21) (v := ?_) (a' := ?_) #[true, true, true, true, true, true, true, true, false, false] rfl rfl (by kernel_rfl) (fun _ _ _ h => h) (Or.inl ⟨by rfl, ?_⟩) ?_ ?_
  rotate_left
  · intro w'
    go_simp
    with_reducible rfl
  rotate_left
  · simp only [Act.put, List.setIfInBounds_toArray, List.set_cons_zero, List.set_cons_succ, i64_w, i32_w]
    rfl
  refine pure_ (i := 8) (N := some 22) (v := ?_) (a' := ?_) #[true, true, true, true, true, true, true, true, true, false] rfl rfl (by kernel_rfl) (fun _ _ _ h => h) (Or.inl ⟨by rfl, ?_⟩) ?_ ?_
  rotate_left
  · intro w'
    go_simp
    with_reducible rfl
  rotate_left
  · simp only [Act.put, List.setIfInBounds_toArray, List.set_cons_zero, List.set_cons_succ, i64_w, i32_w]
    rfl
  refine last_ (i := 9) (N := none) #[true, true, true, true, true, true, true, true, true, true] rfl rfl (by kernel_rfl) (by decide) (fun K hK => ?_)
  clear hHeld
  refine skip_ (w1 := ?_) (by rfl) rfl ?_ ?_
  rotate_left
  · go_simp
    rfl
  refine hK.out _ _ ?_
  clear hK K
  refine done_ (by kernel_rfl) ?_
  simp only [calmly]
  go_wp2_with (go_at_call 132; refine (blocks_calls _ _ _ _).mono ?_; rintro e w' ⟨rfl, hw'⟩; rw [hw']; clear hw' w')
  obtain ⟨n1, hn1⟩ : ∃ n1, w1.heap.size = n1 := ⟨_, rfl⟩
  have hI3 := HI3.out
  have hszc : (w1.setCell ⟨b, 8, none⟩ (.slice A1 L.length c1)).heap.size = n1 := by simp [World.setCell, hn1]
  refine at_world (fun W0 => In4 n0 b n1 st v (.slice A1 L.length c1) (l.length + d.length) L w W0 ∧ Boxed W0 n1 47 (.slice A1 L.length c1) ∧ Boxed W0 (n1 + 1) 3 (.int .i64 64) ∧ W0.heap.size = n1 + 2) ⟨⟨?_, ?_, ?_, ?_, ?_⟩, ?_, ?_, ?_⟩ ?_
  · exact ((boxed_setFar hI3.box ⟨b, 8, none⟩ (show n0 ≠ b by omega) (.slice A1 L.length c1)).alloc _).alloc _
  · exact ((hI3.blk.setR HSO.out.1 (.slice A1 L.length c1)).alloc _).alloc _
  · refine pw_own_below (own_blk hI3.own fun g hg => Below.heap_setCell _ _ _ _ (fun e => own_ne hI3.own hI3.blk (by decide) (by rw [hg]; exact congrArg some e))) (((Below.refl _ _).alloc (Nat.le_refl _) _).alloc (by simp) _)
  · exact ((hI3.tch.trans (Touch.set (S := fun k => k = b) w1 ⟨b, 8, none⟩ _ rfl) (fun _ e => .inl (.inl e))).below ((Below.refl _ _).alloc (Nat.le_refl _) _)).below ((Below.refl _ _).alloc (Nat.le_refl _) _)
  · have h1 := hI3.box.lt
    have h2 := hI3.blk.lt
    refine ⟨by omega, by omega, fun g hg => by have := (hI3.own.lt g hg).2; omega, by have := hI3.sz; omega, by simp [World.setCell]; omega⟩
  · have := Boxed.new (w1.setCell ⟨b, 8, none⟩ (.slice A1 L.length c1)) 47 (.slice A1 L.length c1)
    rw [hszc] at this
    exact this.alloc _
  · have := Boxed.new ((w1.setCell ⟨b, 8, none⟩ (.slice A1 L.length c1)).alloc (.cells #[.slice A1 L.length c1] 47)) 3 (.int .i64 64)
    rwa [World.size_alloc, hszc] at this
  · simp [World.setCell]; omega
  clear hI3 hszc hq1 hq2 hq3 hHeld hIW hq0 hq8
  rintro W4 ⟨h4, hbx, hbs, hz4⟩
  rw [hn1]
  obtain ⟨nb, hnb⟩ : ∃ nb, nb = L.length / 64 := ⟨_, rfl⟩
  have hvb1 : (Value.slice A1 L.length c1).ownBlock ≠ some b := own_ne h4.own h4.blk (by decide)
  have hLlt : L.length < 1099511627776 := by rw [HL.out, List.length_append, HRE.out, List.length_drop]; have := HLen.out; omega
  refine (wpIn_wide (n := 6)).1 (rangeFunc_box (Bn := n1) (Kp := KpX n1 (n1 + 1)) (w0 := W4) (N := nb) (S := fun ys => ys = List.finRange nb) (Sp := fun _ => True) (encs := fun q : Fin nb => #[blkV A1 c1 q.val]) rfl (by decide) (gf := 150) (lb := #[.pointer (some ⟨n1, 0, none⟩), .pointer (some ⟨n1 + 1, 0, none⟩)]) rfl trivial (enters_of Tryd.func150 (by kernel_rfl) rfl) (by omega)
    (blocks1_in 5 (by decide) n1 (n1 + 1) (by omega) A1 L.length c1 nb hc1 hLlt hnb ?isSome W4 hbx hbs)
    KpX.t (KpX.b (by omega) (by omega)) (Below.refl _ _) (fun _ => rfl)
    (fun pre W => In4 n0 b n1 (foldW st L pre) v (.slice A1 L.length c1) (l.length + d.length) L w W) (fun _ _ _ => False)
    (fun pre X Y row hs hg hrow => hs.far (S := fun k => some k = row) (Touch.grown hg (fun k e => e.symm)) (fun k e => Nat.le_trans (by omega) (hrow k e.symm).1))
    (fun _ _ _ _ _ hs _ _ => hs)
    (fun pre X Y hs ht => hs.far ht (fun k e => by omega))
    (fun _ _ _ _ hs _ => hs)
    h4
    (fun x a' W => a' = { tmps := #[.pointer (some ⟨b, 0, none⟩), .slice A d.length c, .pointer (some ⟨n0, 0, none⟩), undef, blkV A1 c1 x.val, .pointer (some ⟨b, 0, none⟩), .pointer (some ⟨b, 0, none⟩), .pointer (some ⟨b, 9, none⟩), .int .i64 (l.length : Int), .slice A d.length c, .int .i64 (d.length : Int), .int .i64 ((l.length : Int) + (d.length : Int)), .pointer (some ⟨b, 0, none⟩), .pointer (some ⟨b, 9, none⟩), .pointer (some ⟨b, 0, none⟩), .pointer (some ⟨b, 0, none⟩), .pointer (some ⟨b, 0, none⟩), .pointer (some ⟨b, 8, none⟩), v, .slice A d.length c, .slice A1 L.length c1, .pointer (some ⟨b, 0, none⟩), .pointer (some ⟨b, 8, none⟩), .pointer (some ⟨b, 0, none⟩), .pointer (some ⟨b, 0, none⟩), .pointer (some ⟨b, 8, none⟩), .slice A1 L.length c1, .func (.func 150) #[] #[.pointer (some ⟨n1, 0, none⟩), .pointer (some ⟨n1 + 1, 0, none⟩)], blkV A1 c1 x.val, undef, undef, undef, undef, undef, undef, undef, undef, undef, undef, undef, undef, undef, undef, undef, undef, undef, undef, undef, undef, undef, undef, undef, undef, undef], defers := [] })
    (fun x a' => by rintro _ X Y row ha hg hrow; exact ha) ?assign ?body ?done ?stop)
  case isSome =>
    intro h0
    obtain ⟨ad, e, _⟩ := (own_reads' h4.own).2.2 h0
    rw [e]; rfl
  case assign =>
    rintro lp pre x W K hI hK
    gi_wp2
    exact hK _ _ ((KeepsOthers.refl' W).from _) (fun _ => ⟨fun e => e, fun e => e⟩) hI rfl
  case body =>
    rintro lp pre x a' W hl ⟨r, hrr⟩ hI rfl hlt
    have hsok := foldW_ok st L pre HSO.out
    obtain ⟨r0, r1, r2, r3, r4, r5, r6, r7, hs8⟩ := list8 _ hsok.1
    have hbok := blockN_ok (foldW st L pre) (words ((L.drop (64 * x.val)).take 64)) hsok
    obtain ⟨m0, m1, m2, m3, m4, m5, m6, m7, hm8⟩ := list8 _ hbok.1
    have hblk := hI.blk
    rw [hs8] at hblk
    have hxl : 64 * x.val + 64 ≤ L.length := by have := x.isLt; omega
    have hrd := (((own_reads' hI.own).drop_ (c := c1) (64 * x.val) (by omega) hc1))
    rw [if_neg (by omega)] at hrd
    have hrd2 := hrd.take_ 64 (by omega)
    have hKW : KTab W := fun j hj => (World.cell?_of_block (hI.tch.block 3 HK.out.lt (fun e => by rcases e with e | e; exact absurd e (by have := HB3.out; omega); exact absurd (HV3.out 3 e.symm) (by omega)))).trans (HK.out j hj)
    have hbyt : ∀ y ∈ (L.drop (64 * x.val)).take 64, 0 ≤ y ∧ y < 256 := fun y hy => HBy.out y (by
      have h1 := List.mem_of_mem_drop (List.mem_of_mem_take hy)
      rw [HL.out, HRE.out] at h1
      rcases List.mem_append.1 h1 with h2 | h2
      · exact List.mem_append_left _ (List.mem_of_mem_drop h2)
      · exact List.mem_append_right _ h2)
    have kM : ∀ w', Below W.heap.size W w' → Calls Tryd.prog 133 #[.agg #[.int .u32 r0, .int .u32 r1, .int .u32 r2, .int .u32 r3, .int .u32 r4, .int .u32 r5, .int .u32 r6, .int .u32 r7], blkV A1 c1 x.val] w' fun e w'' => e = .returned (.agg #[.int .u32 m0, .int .u32 m1, .int .u32 m2, .int .u32 m3, .int .u32 m4, .int .u32 m5, .int .u32 m6, .int .u32 m7]) ∧ Below w'.heap.size w' w'' := fun w' hC => by
      have := mix32_calls (foldW st L pre) hsok (A1.map (·.add (64 * x.val))) (c1 - 64 * x.val) ((L.drop (64 * x.val)).take 64) (by rw [List.length_take, List.length_drop]; omega) (by omega) w' (hrd2.below hC) hbyt (hKW.below hC hKW.lt)
      rw [hm8, hs8] at this
      exact this
    have hbW := hblk.lt
    have hbxW := hI.box.lt
    have hbox := hI.box.cell
    have q0 := hblk.st 0 (by simp)
    have q1 := hblk.st 1 (by simp)
    have q2 := hblk.st 2 (by simp)
    have q3 := hblk.st 3 (by simp)
    have q4 := hblk.st 4 (by simp)
    have q5 := hblk.st 5 (by simp)
    have q6 := hblk.st 6 (by simp)
    have q7 := hblk.st 7 (by simp)
    simp only [List.getD_cons_zero, List.getD_cons_succ] at q0 q1 q2 q3 q4 q5 q6 q7
    have HI := Lib.hid hI
    have HS8 := Lib.hid hs8
    have HM8 := Lib.hid hm8
    have HBK := Lib.hid hblk
    clear hsok hs8 hbok hm8 hrd hrd2 hKW hbyt hblk hI hrr h4 hbx hbs hxl
    gi_wp2
    refine wpIn_region_storeTL (C := Below W.heap.size W) 9 _ rfl rfl (by kernel_rfl) (by kernel_rfl) (by kernel_rfl) (by kernel_rfl) (Below.refl _ _).drew ?_
    simp only [List.take_succ_cons, List.take_zero]
    refine wpQuietIn_go (v := ?_) (a' := ?_) rfl (fun _ => trivial) (fun w' hC => qval ?_) rfl ?_ ?_; rotate_left; rotate_left
    · have k0 := (hC.cell (p := ⟨n0, 0, none⟩) hbxW).trans hbox
      clear hC
      go_simp
      with_reducible rfl
    · simp only [Act.put, List.setIfInBounds_toArray, List.set_cons_zero, List.set_cons_succ, i64_w, i32_w]
      rfl
    refine wpQuietIn_go (v := ?_) (a' := ?_) rfl (fun _ => trivial) (fun w' hC => qval ?_) rfl ?_ ?_; rotate_left; rotate_left
    · have k0 := (hC.cell (p := ⟨n0, 0, none⟩) hbxW).trans hbox
      clear hC
      go_simp
      with_reducible rfl
    · simp only [Act.put, List.setIfInBounds_toArray, List.set_cons_zero, List.set_cons_succ, i64_w, i32_w]
      rfl
    refine wpQuietIn_go (v := ?_) (a' := ?_) rfl (fun _ => trivial) (fun w' hC => qval ?_) rfl ?_ ?_; rotate_left; rotate_left
    · skip
      clear hC
      go_simp
      with_reducible rfl
    · simp only [Act.put, List.setIfInBounds_toArray, List.set_cons_zero, List.set_cons_succ, i64_w, i32_w]
      rfl
    refine wpQuietIn_go (v := ?_) (a' := ?_) rfl (fun _ => trivial) (fun w' hC => qval ?_) rfl ?_ ?_; rotate_left; rotate_left
    · skip
      clear hC
      go_simp
      with_reducible rfl
    · simp only [Act.put, List.setIfInBounds_toArray, List.set_cons_zero, List.set_cons_succ, i64_w, i32_w]
      rfl
    refine wpQuietIn_go (v := ?_) (a' := ?_) rfl (fun _ => trivial) (fun w' hC => qval ?_) rfl ?_ ?_; rotate_left; rotate_left
    · have c0 := (hC.cell (p := ⟨b, 0, none⟩) hbW).trans q0
      have c1 := (hC.cell (p := ⟨b, 1, none⟩) hbW).trans q1
      have c2 := (hC.cell (p := ⟨b, 2, none⟩) hbW).trans q2
      have c3 := (hC.cell (p := ⟨b, 3, none⟩) hbW).trans q3
      have c4 := (hC.cell (p := ⟨b, 4, none⟩) hbW).trans q4
      have c5 := (hC.cell (p := ⟨b, 5, none⟩) hbW).trans q5
      have c6 := (hC.cell (p := ⟨b, 6, none⟩) hbW).trans q6
      have c7 := (hC.cell (p := ⟨b, 7, none⟩) hbW).trans q7
      clear hC
      go_simp
      with_reducible rfl
    · simp only [Act.put, List.setIfInBounds_toArray, List.set_cons_zero, List.set_cons_succ, i64_w, i32_w]
      rfl
    refine wpQuietIn_go (v := ?_) (a' := ?_) rfl (fun _ => trivial) (fun w' hC => qval ?_) rfl ?_ ?_; rotate_left; rotate_left
    · skip
      clear hC
      go_simp
      with_reducible rfl
    · simp only [Act.put, List.setIfInBounds_toArray, List.set_cons_zero, List.set_cons_succ, i64_w, i32_w]
      rfl
    refine wpQuietIn_go (v := .agg #[.int .u32 m0, .int .u32 m1, .int .u32 m2, .int .u32 m3, .int .u32 m4, .int .u32 m5, .int .u32 m6, .int .u32 m7]) (a' := ?_) rfl (fun _ => trivial) (fun w' hC => ?_) rfl ?_ ?_; rotate_left
    · refine qcall 133 #[.agg #[.int .u32 r0, .int .u32 r1, .int .u32 r2, .int .u32 r3, .int .u32 r4, .int .u32 r5, .int .u32 r6, .int .u32 r7], blkV A1 c1 x.val] ?_ (fun _ => by decide) (callsIn_inr lp (callsIn_wide.2 ((kM w' hC).mono fun e w'' ⟨he, hb⟩ => ⟨he, hC.trans (hb.mono hC.size)⟩)))
      go_simp
    · simp only [Act.put, List.setIfInBounds_toArray, List.set_cons_zero, List.set_cons_succ, i64_w, i32_w]
      rfl
    refine wpQuietIn_go (v := ?_) (a' := ?_) rfl (fun _ => trivial) (fun w' hC => qval ?_) rfl ?_ ?_; rotate_left; rotate_left
    · skip
      clear hC
      go_simp
      with_reducible rfl
    · simp only [Act.put, List.setIfInBounds_toArray, List.set_cons_zero, List.set_cons_succ, i64_w, i32_w]
      rfl
    refine wpQuietIn_go (v := ?_) (a' := ?_) rfl (fun _ => trivial) (fun w' hC => qval ?_) rfl ?_ ?_; rotate_left; rotate_left
    · skip
      clear hC
      go_simp
      with_reducible rfl
    · simp only [Act.put, List.setIfInBounds_toArray, List.set_cons_zero, List.set_cons_succ, i64_w, i32_w]
      rfl
    refine wpQuietIn_nil ?_
    intro w' hC
    have hI2 := HI.out.far (S := fun k => W.heap.size ≤ k) ⟨hC.os, hC.tape, hC.output, hC.size, fun k hk _ => hC.block k hk⟩ (fun k hk => by have := HI.out.lt.2.2.2.2; omega)
    rw [HS8.out] at hI2
    have hbl := hI2.blk
    have e0 := hbl.st 0 (by simp)
    have f0 := hbl.frozen 0
    have e1 := hbl.st 1 (by simp)
    have f1 := hbl.frozen 1
    have e2 := hbl.st 2 (by simp)
    have f2 := hbl.frozen 2
    have e3 := hbl.st 3 (by simp)
    have f3 := hbl.frozen 3
    have e4 := hbl.st 4 (by simp)
    have f4 := hbl.frozen 4
    have e5 := hbl.st 5 (by simp)
    have f5 := hbl.frozen 5
    have e6 := hbl.st 6 (by simp)
    have f6 := hbl.frozen 6
    have e7 := hbl.st 7 (by simp)
    have f7 := hbl.frozen 7
    simp only [List.getD_cons_zero, List.getD_cons_succ] at e0 e1 e2 e3 e4 e5 e6 e7
    refine wpIn_skip (fun _ e => by cases e) (fun _ => trivial) rfl (w1 := ((((((((w'.setCell ⟨b, 0, none⟩ (.int .u32 m0)).setCell ⟨b, 1, none⟩ (.int .u32 m1)).setCell ⟨b, 2, none⟩ (.int .u32 m2)).setCell ⟨b, 3, none⟩ (.int .u32 m3)).setCell ⟨b, 4, none⟩ (.int .u32 m4)).setCell ⟨b, 5, none⟩ (.int .u32 m5)).setCell ⟨b, 6, none⟩ (.int .u32 m6)).setCell ⟨b, 7, none⟩ (.int .u32 m7))) (by go_simp) ?_
    refine ⟨(((((((((KeepsOthers.of_below' hC).trans' (KeepsOthers.setCell _ _ _)).trans' (KeepsOthers.setCell _ _ _)).trans' (KeepsOthers.setCell _ _ _)).trans' (KeepsOthers.setCell _ _ _)).trans' (KeepsOthers.setCell _ _ _)).trans' (KeepsOthers.setCell _ _ _)).trans' (KeepsOthers.setCell _ _ _)).trans' (KeepsOthers.setCell _ _ _)).from _, KpX.of_eq (by rw [Below.heap_setCell _ _ _ _ (by show n1 ≠ b; have := HI.out.lt; omega), Below.heap_setCell _ _ _ _ (by show n1 ≠ b; have := HI.out.lt; omega), Below.heap_setCell _ _ _ _ (by show n1 ≠ b; have := HI.out.lt; omega), Below.heap_setCell _ _ _ _ (by show n1 ≠ b; have := HI.out.lt; omega), Below.heap_setCell _ _ _ _ (by show n1 ≠ b; have := HI.out.lt; omega), Below.heap_setCell _ _ _ _ (by show n1 ≠ b; have := HI.out.lt; omega), Below.heap_setCell _ _ _ _ (by show n1 ≠ b; have := HI.out.lt; omega), Below.heap_setCell _ _ _ _ (by show n1 ≠ b; have := HI.out.lt; omega), hC.block _ (by have := HI.out.lt; omega)]) (by rw [Below.heap_setCell _ _ _ _ (by show n1 + 1 ≠ b; have := HI.out.lt; omega), Below.heap_setCell _ _ _ _ (by show n1 + 1 ≠ b; have := HI.out.lt; omega), Below.heap_setCell _ _ _ _ (by show n1 + 1 ≠ b; have := HI.out.lt; omega), Below.heap_setCell _ _ _ _ (by show n1 + 1 ≠ b; have := HI.out.lt; omega), Below.heap_setCell _ _ _ _ (by show n1 + 1 ≠ b; have := HI.out.lt; omega), Below.heap_setCell _ _ _ _ (by show n1 + 1 ≠ b; have := HI.out.lt; omega), Below.heap_setCell _ _ _ _ (by show n1 + 1 ≠ b; have := HI.out.lt; omega), Below.heap_setCell _ _ _ _ (by show n1 + 1 ≠ b; have := HI.out.lt; omega), hC.block _ (by have := HI.out.lt; omega)]), ?_⟩
    show In4 n0 b n1 (foldW st L (pre ++ [x])) v _ _ L w _
    rw [foldW_snoc, HM8.out]
    exact ((((((((hI2.setS hvb1 (by omega) 0 m0 (by simp)).setS hvb1 (by omega) 1 m1 (by simp)).setS hvb1 (by omega) 2 m2 (by simp)).setS hvb1 (by omega) 3 m3 (by simp)).setS hvb1 (by omega) 4 m4 (by simp)).setS hvb1 (by omega) 5 m5 (by simp)).setS hvb1 (by omega) 6 m6 (by simp)).setS hvb1 (by omega) 7 m7 (by simp))
  case done =>
    rintro D ys W hD rfl hI hK
    rw [foldW_all] at hI
    obtain ⟨I, hII⟩ : ∃ I, I = 64 * nb := ⟨_, rfl⟩
    have hd1 : I ≤ L.length := by omega
    obtain ⟨i5, hi5, _, hsz5, _⟩ := info_parts inf5
    obtain ⟨A5, hcut, hA5⟩ := print_cut (P := Tryd.prog) 47 5 .i64 Tryd.underlying47 hi5 hsz5 A1 L.length c1 I hd1
    have hrd5 := hA5 W .u8 L hc1 (own_reads' hI.own)
    obtain ⟨R5, hR5⟩ : ∃ R5, R5 = L.drop I := ⟨_, rfl⟩
    have hlen5 : R5.length = L.length - I := by rw [hR5, List.length_drop]
    rw [← hlen5, ← hR5] at hrd5
    rw [← hlen5] at hcut
    have kC := CloneB_calls A5 (c1 - I) R5 W.drew hrd5 (by rw [hlen5]; omega) (by rw [hlen5]; omega)
    obtain ⟨hz1, hz2, hz3, hz5⟩ := sixty4 L.length nb I hLlt hnb hII
    have hq0 := hI.box.cell
    have hq8 := hI.blk.rest (runB_ok st L HSO.out nb).1
    have hf8 := hI.blk.frozen 8
    have hbW := hI.blk.lt
    have hnW := hI.box.lt
    have HI := Lib.hid hI
    have HHK := Lib.hid hK
    have HNB := Lib.hid hnb
    have HD1 := Lib.hid hd1
    have HRD5 := Lib.hid hrd5
    have HLEN5 := Lib.hid hlen5
    have HLT := Lib.hid hLlt
    have HII := Lib.hid hII
    have HR5 := Lib.hid hR5
    clear hrd5 hlen5 hnb hI hK hd1 hi5 hsz5 hA5 hLlt hII hR5
    go_wp2
    refine calm_ ?_
    refine start_ (n := 17) (S := fun w' => w'.cell? ⟨n0, 0, none⟩ = some (.pointer (some ⟨b, 0, none⟩)) ∧ w'.cell? ⟨b, 8, none⟩ = some (.slice A1 L.length c1)) (ds := [16]) #[false, false, false, false, false, false, false, false, false, false, false, false, false, false, false, false, false] (by kernel_rfl) rfl rfl ⟨hq0, hq8⟩ (fun hHeld => ?_)
    refine take_ (i := 0) (N := some 38) (v := ?_) (a' := ?_) #[true, false, false, false, false, false, false, false, false, false, false, false, false, false, false, false, false] rfl rfl (by kernel_rfl) (fun _ _ _ h => h) (Or.inl ⟨by rfl, ?_⟩) hHeld ?_ ?_
    rotate_left
    · rintro w' ⟨s0, s1⟩
      go_simp
      with_reducible rfl
    rotate_left
    · simp only [Act.put, List.setIfInBounds_toArray, List.set_cons_zero, List.set_cons_succ, i64_w, i32_w]
      rfl
    refine take_ (i := 1) (N := some 39) (v := ?_) (a' := ?_) #[true, true, false, false, false, false, false, false, false, false, false, false, false, false, false, false, false] rfl rfl (by kernel_rfl) (fun _ _ _ h => h) (Or.inl ⟨by rfl, ?_⟩) hHeld ?_ ?_
    rotate_left
    · rintro w' ⟨s0, s1⟩
      go_simp
      with_reducible rfl
    rotate_left
    · simp only [Act.put, List.setIfInBounds_toArray, List.set_cons_zero, List.set_cons_succ, i64_w, i32_w]
      rfl
    refine pure_ (i := 2) (N := some 40) (v := ?_) (a' := ?_) #[true, true, true, false, false, false, false, false, false, false, false, false, false, false, false, false, false] rfl rfl (by kernel_rfl) (fun _ _ _ h => h) (Or.inl ⟨by rfl, ?_⟩) ?_ ?_
    rotate_left
    · intro w'
      go_simp
      with_reducible rfl
    rotate_left
    · simp only [Act.put, List.setIfInBounds_toArray, List.set_cons_zero, List.set_cons_succ, i64_w, i32_w]
      rfl
    refine pure_ (i := 3) (N := some 41) (v := ?_) (a' := ?_) #[true, true, true, true, false, false, false, false, false, false, false, false, false, false, false, false, false] rfl rfl (by kernel_rfl) (fun _ _ _ h => h) (Or.inl ⟨by rfl, ?_⟩) ?_ ?_
    rotate_left
    · intro w'
      go_simp
      with_reducible rfl
    rotate_left
    · simp only [Act.put, List.setIfInBounds_toArray, List.set_cons_zero, List.set_cons_succ, i64_w, i32_w]
      rfl
    refine take_ (i := 4) (N := some 42) (v := ?_) (a' := ?_) #[true, true, true, true, true, false, false, false, false, false, false, false, false, false, false, false, false] rfl rfl (by kernel_rfl) (fun _ _ _ h => h) (Or.inl ⟨by rfl, ?_⟩) hHeld ?_ ?_
    rotate_left
    · rintro w' ⟨s0, s1⟩
      go_simp
      with_reducible rfl
    rotate_left
    · simp only [Act.put, List.setIfInBounds_toArray, List.set_cons_zero, List.set_cons_succ, i64_w, i32_w]
      rfl
    refine take_ (i := 5) (N := some 43) (v := ?_) (a' := ?_) #[true, true, true, true, true, true, false, false, false, false, false, false, false, false, false, false, false] rfl rfl (by kernel_rfl) (fun _ _ _ h => h) (Or.inl ⟨by rfl, ?_⟩) hHeld ?_ ?_
    rotate_left
    · rintro w' ⟨s0, s1⟩
      go_simp
      with_reducible rfl
    rotate_left
    · simp only [Act.put, List.setIfInBounds_toArray, List.set_cons_zero, List.set_cons_succ, i64_w, i32_w]
      rfl
    refine pure_ (i := 6) (N := some 44) (v := ?_) (a' := ?_) #[true, true, true, true, true, true, true, false, false, false, false, false, false, false, false, false, false] rfl rfl (by kernel_rfl) (fun _ _ _ h => h) (Or.inl ⟨by rfl, ?_⟩) ?_ ?_
    rotate_left
    · intro w'
      go_simp
      with_reducible rfl
    rotate_left
    · simp only [Act.put, List.setIfInBounds_toArray, List.set_cons_zero, List.set_cons_succ, i64_w, i32_w]
      rfl
    refine pure_ (i := 7) (N := some 45) (v := ?_) (a' := ?_) #[true, true, true, true, true, true, true, true, false, false, false, false, false, false, false, false, false] rfl rfl (by kernel_rfl) (fun _ _ _ h => h) (Or.inl ⟨by rfl, ?_⟩) ?_ ?_
    rotate_left
    · intro w'
      go_simp
      with_reducible rfl
    rotate_left
    · simp only [Act.put, List.setIfInBounds_toArray, List.set_cons_zero, List.set_cons_succ, i64_w, i32_w]
      rfl
    refine take_ (i := 8) (N := some 46) (v := ?_) (a' := ?_) #[true, true, true, true, true, true, true, true, true, false, false, false, false, false, false, false, false] rfl rfl (by kernel_rfl) (fun _ _ _ h => h) (Or.inl ⟨by rfl, ?_⟩) hHeld ?_ ?_
    rotate_left
    · rintro w' ⟨s0, s1⟩
      go_simp
      with_reducible rfl
    rotate_left
    · simp only [Act.put, List.setIfInBounds_toArray, List.set_cons_zero, List.set_cons_succ, i64_w, i32_w]
      rfl
    refine pure_ (i := 9) (N := some 47) (v := ?_) (a' := ?_) #[true, true, true, true, true, true, true, true, true, true, false, false, false, false, false, false, false] rfl rfl (by kernel_rfl) (fun _ _ _ h => h) (Or.inl ⟨by rfl, ?_⟩) ?_ ?_
    rotate_left
    · intro w'
      go_simp
      with_reducible rfl
    rotate_left
    · simp only [Act.put, List.setIfInBounds_toArray, List.set_cons_zero, List.set_cons_succ, i64_w, i32_w]
      rfl
    refine pure_ (i := 10) (N := some 48) (v := ?_) (a' := ?_) #[true, true, true, true, true, true, true, true, true, true, true, false, false, false, false, false, false] rfl rfl (by kernel_rfl) (fun _ _ _ h => h) (Or.inl ⟨by rfl, ?_⟩) ?_ ?_
    rotate_left
    · intro w'
      go_simp
      with_reducible rfl
    rotate_left
    · simp only [Act.put, List.setIfInBounds_toArray, List.set_cons_zero, List.set_cons_succ, i64_w, i32_w]
      rfl
    refine pure_ (i := 11) (N := some 49) (v := ?_) (a' := ?_) #[true, true, true, true, true, true, true, true, true, true, true, true, false, false, false, false, false] rfl rfl (by kernel_rfl) (fun _ _ _ h => h) (Or.inl ⟨by rfl, ?_⟩) ?_ ?_
    rotate_left
    · intro w'
      go_simp
      with_reducible rfl
    rotate_left
    · simp only [Act.put, List.setIfInBounds_toArray, List.set_cons_zero, List.set_cons_succ, i64_w, i32_w]
      rfl
    refine pure_ (i := 12) (N := some 50) (v := ?_) (a' := ?_) #[true, true, true, true, true, true, true, true, true, true, true, true, true, false, false, false, false] rfl rfl (by kernel_rfl) (fun _ _ _ h => h) (Or.inl ⟨by rfl, ?_⟩) ?_ ?_
    rotate_left
    · intro w'
      go_simp
      with_reducible rfl
    rotate_left
    · simp only [Act.put, List.setIfInBounds_toArray, List.set_cons_zero, List.set_cons_succ, i64_w, i32_w]
      rfl
    refine one_ (i := 13) (N := some 51) #[true, true, true, true, true, true, true, true, true, true, true, true, true, true, false, false, false] rfl rfl (by kernel_rfl) (by decide) (fun K hK => ?_)
    refine goes_ Tryd.func134 (by kernel_rfl) rfl #[.slice A5 R5.length (c1 - I)] (by rfl) rfl rfl (by simp only [List.map_toArray, List.map_cons, List.map_nil]; rfl) ?_
    with_reducible refine (kC).mono ?_
    rintro e w5 ⟨v5, rfl, hown5, hb5⟩
    refine ⟨_, rfl, ?_⟩
    have g0 := (hb5.cell (p := ⟨n0, 0, none⟩) hnW).trans hq0
    have g8 := (hb5.cell (p := ⟨b, 8, none⟩) hbW).trans hq8
    have gf := (hb5.frozen (p := ⟨b, 8, none⟩) hbW).trans hf8
    obtain ⟨A9, c9, rfl, _⟩ := own_form hown5
    have HO5 := Lib.hid hown5
    have HB5 := Lib.hid hb5
    clear hown5 hb5
    refine hK.out _ _ ⟨g0, g8⟩ (fun hHeld => ?_)
    clear hK K
    refine norm_ (a' := ?_) ?_ ?_
    rotate_left
    · show Act.put _ (some 51) _ = _
      simp only [Act.put, List.setIfInBounds_toArray, List.set_cons_zero, List.set_cons_succ, i64_w, i32_w]
      rfl
    refine pure_ (i := 14) (N := some 52) (v := ?_) (a' := ?_) #[true, true, true, true, true, true, true, true, true, true, true, true, true, true, true, false, false] rfl rfl (by kernel_rfl) (fun _ _ _ h => h) (Or.inl ⟨by rfl, ?_⟩) ?_ ?_
    rotate_left
    · intro w'
      go_simp
      with_reducible rfl
    rotate_left
    · simp only [Act.put, List.setIfInBounds_toArray, List.set_cons_zero, List.set_cons_succ, i64_w, i32_w]
      rfl
    refine pure_ (i := 15) (N := some 53) (v := ?_) (a' := ?_) #[true, true, true, true, true, true, true, true, true, true, true, true, true, true, true, true, false] rfl rfl (by kernel_rfl) (fun _ _ _ h => h) (Or.inl ⟨by rfl, ?_⟩) ?_ ?_
    rotate_left
    · intro w'
      go_simp
      with_reducible rfl
    rotate_left
    · simp only [Act.put, List.setIfInBounds_toArray, List.set_cons_zero, List.set_cons_succ, i64_w, i32_w]
      rfl
    refine last_ (i := 16) (N := none) #[true, true, true, true, true, true, true, true, true, true, true, true, true, true, true, true, true] rfl rfl (by kernel_rfl) (by decide) (fun K hK => ?_)
    clear hHeld
    refine skip_ (w1 := ?_) (by rfl) rfl ?_ ?_
    rotate_left
    · go_simp
      rfl
    refine hK.out _ _ ?_
    clear hK K
    refine done_ (by kernel_rfl) ?_
    simp only [calmly]
    have hI5 := HI.out.far (S := fun _ => False) (Touch.of_below (S := fun _ => False) (a := W.drew) (b := w5) HB5.out |> fun h => (⟨h.os, h.tape, h.output, h.size, h.block⟩ : Touch (fun _ => False) W w5)) (fun _ e => e.elim)
    have hDl : D < W.heap.size := (Array.getElem?_eq_some_iff.1 HHK.out).1
    have hDb : D ≠ b := by have := hI5.lt; omega
    have hD5 : w5.heap[D]? = some (.deferred (some [])) := (HB5.out.block D hDl).trans HHK.out
    have hK9 : (w5.setCell ⟨b, 8, none⟩ (.slice A9 R5.length c9)).heap[D]? = some (.deferred (some [])) := (Below.heap_setCell _ _ _ _ hDb).trans hD5
    have hob : ∀ g, (Value.slice A9 R5.length c9).ownBlock = some g → W.heap.size ≤ g := fun g hg => own_base HO5.out g hg
    have hblk9 := hI5.blk.setR (runB_ok st L HSO.out nb).1 (.slice A9 R5.length c9)
    have hown9 : OwnB (w5.setCell ⟨b, 8, none⟩ (.slice A9 R5.length c9)) 0 (.slice A9 R5.length c9) R5 :=
      own_weaken (own_blk HO5.out fun g hg => Below.heap_setCell _ _ _ _ (fun e => by have := hob g hg; have : g = b := e; omega)) (Nat.zero_le _)
    obtain ⟨en1, en2⟩ := dig_next l d _ nb L rfl (by rw [HL.out, HRE.out]) HNB.out
    have hdig : Dig (w5.setCell ⟨b, 8, none⟩ (.slice A9 R5.length c9)) b (l ++ d) (.slice A9 R5.length c9) := by
      refine ⟨?_, ?_⟩
      · rw [← en1, ← HST.out, List.length_append]; exact hblk9
      · rw [← en2, ← HII.out, ← HR5.out]; exact hown9
    have htp : ∀ (X : World) (o : Obj), Touch (fun k => k = D) X (X.putObj D o) := fun X o => ⟨rfl, rfl, rfl, by simp, fun k _ hk => World.putObj_heap_other hk⟩
    refine ⟨by simp, .inl ⟨_, _, rfl, run_takeDeferred (w := w5.setCell ⟨b, 8, none⟩ (.slice A9 R5.length c9)) hK9, ?_⟩⟩
    refine ⟨_, results_none rfl _ _ _, rfl, _, hdig.kept (htp _ _) (fun k e => ⟨by omega, fun e2 => by have := hob k e2; omega⟩), ?_, fun g hg => ?_⟩
    · exact (hI5.tch.trans (Touch.set (S := fun k => k = b) w5 ⟨b, 8, none⟩ _ rfl) (fun _ e => .inl (.inl e))).trans (htp _ _) (fun k e => .inr (by have := hI5.lt; omega))
    · have := hob g hg
      have := HI.out.tch.size
      omega
  case stop =>
    rintro D c pre W _ _ h _
    exact h.elim
end Go.Proofs.YtoeibcdnhglobaaDoor.P
