/- Texts of the seat, joined: GRound, GRoundT, GBack, GBox. -/
import Derived.Sort.QuietIn
import Derived.OwnWalkIn
import Derived.RangeFuncNested
import Derived.RangeFuncBox
import Derived.Test.YtoeibcdnhglobaaDoorE1
import Derived.Shelf.Slices.Clone
/- A region that draws its order, in a round of a loop over an iterator: one walk in the text's order serves, where its operations and callees only read. -/
namespace Go.Proofs.YtoeibcdnhglobaaDoor
set_option linter.unusedVariables false
set_option linter.unusedSimpArgs false
open Go
def noDefer (l : List Oper) : Bool := l.all fun o => match o.op with | .defer _ => false | _ => true
theorem noDefer_at {l : List Oper} (h : noDefer l = true) {i : Nat} {o : Oper} (hi : l[i]? = some o) (c : Call) : o.op ≠ .defer c := by
  intro e
  have := List.all_eq_true.1 h o (List.mem_of_getElem? hi)
  rw [e] at this
  cases this
section
variable {F : Fence} {n : Nat} {P : Program} {ops : Array Oper} {md : Region.Mode} {C : World → Prop}
theorem wpIn_of_quiet' {o : Oper} {a : Act} {K : Act → Prop} {K' : Act → World → Prop} {Q' : Exit → Act → World → Prop} {w : World} (hnd : ∀ c, o.op ≠ .defer c) (hw : C w) (h : ∀ a w', C w' → K a → K' a w')
    (ha : o.askedIn F P a C) (hh : o.quietIn F n P a C K) : o.wpIn F n P a w K' Q' := by
  obtain ⟨v, h1, h2⟩ := hh
  have h3 := h1 w hw
  unfold Oper.quietAtIn at h3
  unfold Oper.wpIn
  refine ⟨ha w hw, ?_⟩
  rw [Oper.semAt_plain F _ _ hnd]
  generalize (execOp a.eval o).run P w = r at *
  cases r with
  | ok x w' =>
    cases x <;> simp only [Oper.quietUponIn] at h3 <;> simp only [Oper.uponIn]
    case value u =>
      obtain ⟨e1, e2⟩ := h3
      rw [e1, e2]
      exact h _ _ hw h2
    case skip =>
      obtain ⟨e1, e2⟩ := h3
      rw [e1, ← e2]
      exact h _ _ hw h2
    case enter f args =>
      obtain ⟨e1, hd, hc⟩ := h3
      rw [e1]
      exact ⟨hd, hc.mono fun e w'' ⟨he, hw''⟩ => by subst he; exact h _ _ hw'' h2⟩
  | halt x w' => simp only [Oper.quietUponIn] at h3
theorem wpOpIn_of_qOpIn' {i : Nat} {a : Act} {K : Act → Prop} {K' : Act → World → Prop} {Q' : Exit → Act → World → Prop} {w : World} (hnd : ∀ o, ops[i]? = some o → ∀ c, o.op ≠ .defer c) (hC : C w) (h : ∀ a w', C w' → K a → K' a w')
    (hh : qOpIn F n P ops C i K a) : wpOpIn F n P ops Q' i K' a w := by
  unfold qOpIn at hh
  unfold wpOpIn
  split
  · rename_i ho; simp only [ho] at hh; exact h _ _ hC hh
  · rename_i o ho
    simp only [ho] at hh
    obtain ⟨ha, hh⟩ := hh
    split
    · rename_i hw; simp only [hw, if_true] at hh; exact wpIn_of_quiet' (hnd o ho) hC h ha hh
    · rename_i hw; simp only [hw] at hh; exact ⟨ha w hC, h _ _ hC hh⟩
theorem wpAnyIn_of_quiet' {Q : Act → Prop} {Q' : Exit → Act → World → Prop} (hnd : ∀ (i : Nat) (o : Oper), ops[i]? = some o → ∀ c, o.op ≠ .defer c) (hQ : ∀ a w, C w → Q a → Q' .normal a w) : ∀ (fuel : Nat) (listed : Array Bool) (a : Act) (w : World), C w →
    wpAnyQIn F n P md ops C Q fuel listed a → wpAnyIn F n P md ops Q' fuel listed a w
  | 0, _, _, _, hw, h => ⟨h.1, hQ _ _ hw h.2⟩
  | fuel + 1, _, _, _, hw, h => ⟨fun h0 => hQ _ _ hw (h.1 h0), fun i hi => wpOpIn_of_qOpIn' (hnd i) hw (fun a' w' hw' => wpAnyIn_of_quiet' hnd hQ fuel _ a' w' hw') (h.2 i hi)⟩
theorem wpIn_region_quiet' {id : Nat} {Q : Exit → Act → World → Prop} {a : Act} {w : World} {l : List Oper} (hnd : noDefer l = true) (hm : P.follows .mixedOrders = true) (hB : Region.lexB .any l.toArray = true)
    (h : wpQuietIn F n P l.toArray (fun w' => ∃ n, w' = w.drewN n) (fun a' => ∀ w', (∃ n, w' = w.drewN n) → Q .normal a' w') l a) : (Code.region id l.toArray true).wpIn F n P Q a w := by
  simp only [Region.lexB, Bool.and_eq_true] at hB
  refine wpIn_region_any hm (wpAnyIn_of_quiet' (C := fun w' => ∃ n, w' = w.drewN n) (Q := fun a' => ∀ w', (∃ n, w' = w.drewN n) → Q .normal a' w') (fun i o hi c => noDefer_at (i := i) hnd (by simpa using hi) c) (fun _ w' hw' h => h w' hw') _ _ _ _ ⟨1, rfl⟩ ?_)
  have := wpAnyQIn_lex (F := F) (n := n) (C := fun w' => ∃ n, w' = w.drewN n) (md := .any) hB.1 l 0 (Array.replicate l.toArray.size false) a (by simp) (by simpa using hB.2) h
  simpa using this

/-- The last operation waits for all the others, none waits for it, each waits for earlier ones alone, and none is guarded. -/
def storeB (md : Region.Mode) (l : List Oper) (o : Oper) : Bool :=
  (List.range l.length).all (fun i => o.after.any fun e => Region.binds md e && e.on == i) &&
  (List.range l.length).all (fun i => match l[i]? with | some oi => oi.after.all (fun e => !Region.binds md e || decide (e.on < i)) && oi.guard.isNone | none => true) && o.guard.isNone &&
  o.after.all (fun e => !Region.binds md e || decide (e.on < l.length))

section
variable {l : List Oper} {o : Oper} {listed : Array Bool}
theorem storeB_at {md : Region.Mode} (h : storeB md l o = true) :
    (∀ i, i < l.length → ∃ e ∈ o.after, Region.binds md e = true ∧ e.on = i) ∧ (∀ i oi, l[i]? = some oi → (∀ e ∈ oi.after, Region.binds md e = true → e.on < i) ∧ oi.guard = none) ∧ o.guard = none ∧
    (∀ e ∈ o.after, Region.binds md e = true → e.on < l.length) := by
  simp only [storeB, Bool.and_eq_true] at h
  obtain ⟨⟨⟨h1, h2⟩, h3⟩, h4⟩ := h
  refine ⟨fun i hi => ?_, fun i oi ho => ?_, by simpa using h3, fun e he hb => ?_⟩
  · have := List.all_eq_true.1 h1 i (List.mem_range.2 hi)
    obtain ⟨e, he, hb⟩ := Array.any_eq_true'.1 this
    simp only [Bool.and_eq_true, beq_iff_eq] at hb
    exact ⟨e, he, hb⟩
  · have := List.all_eq_true.1 h2 i (List.mem_range.2 (List.getElem?_eq_some_iff.1 ho).1)
    simp only [ho, Bool.and_eq_true] at this
    refine ⟨fun e he hb => ?_, by simpa using this.2⟩
    have := (Array.all_eq_true_iff_forall_mem.1 this.1) e he
    simpa [hb] using this
  · have := (Array.all_eq_true_iff_forall_mem.1 h4) e he
    simpa [hb] using this
theorem push_getD {i : Nat} {d b : Bool} (hs : listed.size = l.length) (hi : i < l.length) : (listed.push b).getD i d = listed.getD i d := by
  simp only [Array.getD_eq_getD_getElem?, Array.getElem?_push]
  rw [if_neg (by omega)]
theorem getD_lt {i : Nat} {d e : Bool} (hs : listed.size = l.length) (hi : i < l.length) : listed.getD i d = listed.getD i e := by
  simp [Array.getD_eq_getD_getElem?, hs, hi]
theorem ready_head {md : Region.Mode} (hB : storeB md l o = true) (hs : listed.size = l.length) {i : Nat} (hi : i < l.length) :
    i ∈ Region.ready md (l ++ [o]).toArray (listed.push false) ↔ i ∈ Region.ready md l.toArray listed := by
  obtain ⟨_, h2, _⟩ := storeB_at hB
  rw [mem_ready, mem_ready, push_getD hs hi]
  have e : (l ++ [o]).toArray[i]? = l.toArray[i]? := by simp [List.getElem?_append_left hi]
  rw [e]
  constructor
  · rintro ⟨h0, oi, ho, ha⟩
    exact ⟨h0, oi, ho, fun e he hb => by rw [← ha e he hb, push_getD hs (Nat.lt_trans ((h2 i oi (by simpa using ho)).1 e he hb) hi)]⟩
  · rintro ⟨h0, oi, ho, ha⟩
    exact ⟨h0, oi, ho, fun e he hb => by rw [← ha e he hb, push_getD hs (Nat.lt_trans ((h2 i oi (by simpa using ho)).1 e he hb) hi)]⟩
/-- Where none may come up, all have. -/
theorem all_listed {md : Region.Mode} (hB : storeB md l o = true) (hs : listed.size = l.length) (hr : Region.ready md l.toArray listed = []) : ∀ i, i < l.length → listed.getD i false = true := by
  obtain ⟨_, h2, _⟩ := storeB_at hB
  intro i
  induction i using Nat.strongRecOn with
  | _ i ih =>
    intro hi
    cases hl : listed.getD i false with
    | true => rfl
    | false =>
      exfalso
      have hm : i ∈ Region.ready md l.toArray listed := by
        rw [mem_ready]
        obtain ⟨oi, ho⟩ : ∃ oi, l[i]? = some oi := ⟨l[i], List.getElem?_eq_getElem hi⟩
        refine ⟨by rw [getD_lt (e := false) hs hi]; exact hl, oi, by simpa using ho, fun e he hb => ?_⟩
        have := (h2 i oi ho).1 e he hb
        exact ih e.on this (by omega)
      rw [hr] at hm
      cases hm
theorem ready_last {md : Region.Mode} (hB : storeB md l o = true) (hs : listed.size = l.length) : l.length ∈ Region.ready md (l ++ [o]).toArray (listed.push false) ↔ Region.ready md l.toArray listed = [] := by
  obtain ⟨h1, h2, h3, h4⟩ := storeB_at hB
  rw [mem_ready]
  have e : (l ++ [o]).toArray[l.length]? = some o := by simp
  rw [e]
  constructor
  · rintro ⟨_, o', ho, ha⟩
    cases ho
    rw [List.eq_nil_iff_forall_not_mem]
    intro i hi
    have hil : i < l.length := by
      have := (mem_ready.1 hi).2
      obtain ⟨oi, ho, _⟩ := this
      exact (List.getElem?_eq_some_iff.1 (show l[i]? = some oi by simpa using ho)).1
    obtain ⟨e, he, hb, hon⟩ := h1 i hil
    have := ha e he hb
    rw [hon, push_getD hs hil] at this
    have h0 := (mem_ready.1 hi).1
    rw [getD_lt (e := false) hs hil, this] at h0
    cases h0
  · intro hr
    have hz : (listed.push false)[l.length]? = some false := by rw [← hs]; simp
    refine ⟨by rw [Array.getD_eq_getD_getElem?, hz]; rfl, o, rfl, fun e he hb => ?_⟩
    have := h4 e he hb
    rw [push_getD hs this]
    exact all_listed hB hs hr _ this
end
theorem wpAnyIn_store {l : List Oper} {o : Oper} {Qq : Act → Prop} {Q' : Exit → Act → World → Prop} (hB : storeB md l o = true) (hnd : ∀ (i : Nat) (oi : Oper), l[i]? = some oi → ∀ c, oi.op ≠ .defer c)
    (hR : ∀ a w, C w → Qq a → o.wpIn F n P a w (fun a' w' => Q' .normal a' w') Q') :
    ∀ (fuel : Nat) (listed : Array Bool) (a : Act) (w : World), listed.size = l.length → C w → wpAnyQIn F n P md l.toArray C Qq fuel listed a → wpAnyIn F n P md (l ++ [o]).toArray Q' (fuel + 1) (listed.push false) a w := by
  obtain ⟨h1, h2, h3, h4⟩ := storeB_at hB
  have elast : (l ++ [o]).toArray[l.length]? = some o := by simp
  have last : ∀ (fuel : Nat) (listed : Array Bool) (a : Act) (w : World), listed.size = l.length → C w → Region.ready md l.toArray listed = [] → Qq a →
      wpOpIn F n P (l ++ [o]).toArray Q' l.length (wpAnyIn F n P md (l ++ [o]).toArray Q' fuel ((listed.push false).setIfInBounds l.length true)) a w := by
    intro fuel listed a w hs hw hr hq
    unfold wpOpIn
    rw [elast]
    simp only []
    rw [if_pos (by simp [Region.wanted, h3])]
    refine Oper.wpIn_mono (fun a' w' hh => ?_) (hR a w hw hq)
    have hempty : Region.ready md (l ++ [o]).toArray ((listed.push false).setIfInBounds l.length true) = [] := by
      rw [List.eq_nil_iff_forall_not_mem]
      intro i hi
      obtain ⟨h0, oi, ho, _⟩ := mem_ready.1 hi
      have hil : i < (l ++ [o]).length := (List.getElem?_eq_some_iff.1 (show (l ++ [o])[i]? = some oi by simpa using ho)).1
      rw [List.length_append, List.length_singleton] at hil
      by_cases hii : i = l.length
      · subst hii
        simp [Array.getD_eq_getD_getElem?, hs] at h0
      · have hil2 : i < l.length := by omega
        rw [getD_set_ne true (by omega), push_getD hs hil2, getD_lt (e := false) hs hil2, all_listed hB hs hr i hil2] at h0
        cases h0
    cases fuel with
    | zero => exact ⟨hempty, hh⟩
    | succ f => exact ⟨fun _ => hh, fun i hi => by rw [hempty] at hi; cases hi⟩
  intro fuel
  induction fuel with
  | zero =>
    intro listed a w hs hw h
    obtain ⟨hr, hq⟩ := h
    have hl := (ready_last hB hs).2 hr
    refine ⟨fun h0 => (by rw [h0] at hl; cases hl), fun i hi => ?_⟩
    by_cases hii : i = l.length
    · subst hii; exact last 0 listed a w hs hw hr hq
    · exfalso
      obtain ⟨_, oi, ho, _⟩ := mem_ready.1 hi
      have hil : i < (l ++ [o]).length := (List.getElem?_eq_some_iff.1 (show (l ++ [o])[i]? = some oi by simpa using ho)).1
      rw [List.length_append, List.length_singleton] at hil
      have := (ready_head hB hs (by omega)).1 hi
      rw [hr] at this
      cases this
  | succ fuel ih =>
    intro listed a w hs hw h
    obtain ⟨h0, hstep⟩ := h
    refine ⟨fun he => ?_, fun i hi => ?_⟩
    · exfalso
      have hr : Region.ready md l.toArray listed = [] := by
        rw [List.eq_nil_iff_forall_not_mem]
        intro i hi
        obtain ⟨_, oi, ho, _⟩ := mem_ready.1 hi
        have hil : i < l.length := (List.getElem?_eq_some_iff.1 (show l[i]? = some oi by simpa using ho)).1
        have := (ready_head hB hs hil).2 hi
        rw [he] at this
        cases this
      have hl := (ready_last hB hs).2 hr
      rw [he] at hl
      cases hl
    · by_cases hii : i = l.length
      · subst hii
        have hr := (ready_last hB hs).1 hi
        exact last _ listed a w hs hw hr (h0 hr)
      · obtain ⟨_, oi, ho, _⟩ := mem_ready.1 hi
        have hil : i < (l ++ [o]).length := (List.getElem?_eq_some_iff.1 (show (l ++ [o])[i]? = some oi by simpa using ho)).1
        rw [List.length_append, List.length_singleton] at hil
        have hil2 : i < l.length := by omega
        have hi2 := (ready_head hB hs hil2).1 hi
        have hq := hstep i hi2
        have ho2 : l.toArray[i]? = some oi := by
          have : (l ++ [o])[i]? = some oi := by simpa using ho
          rw [List.getElem?_append_left hil2] at this
          simpa using this
        have hg := (h2 i oi (by simpa using ho2)).2
        unfold qOpIn at hq
        unfold wpOpIn
        rw [ho]
        simp only [ho2] at hq ⊢
        obtain ⟨ha, hq⟩ := hq
        have hw1 : ∀ ys, Region.wanted oi ys = true := fun ys => by simp [Region.wanted, hg]
        rw [if_pos (hw1 _)] at hq ⊢
        refine wpIn_of_quiet' (hnd i oi (by simpa using ho2)) hw (fun a' w' hw' hk => ?_) ha hq
        have e : (listed.push false).setIfInBounds i true = (listed.setIfInBounds i true).push false := by
          apply Array.ext_getElem?
          intro j
          simp only [Array.getElem?_setIfInBounds, Array.getElem?_push, Array.size_push, Array.size_setIfInBounds]
          by_cases hj : i = j
          · subst hj
            rw [if_pos rfl, if_pos (by omega), if_neg (by omega), if_pos rfl, if_pos (by omega)]
          · rw [if_neg hj, if_neg hj]
        rw [e]
        exact ih _ a' w' (by simp [hs]) hw' hk
theorem wpIn_region_store {id : Nat} {Q : Exit → Act → World → Prop} {a : Act} {w : World} {ops : Array Oper} (l : List Oper) (o : Oper) (hops : ops = (l ++ [o]).toArray) (hnd : noDefer l = true) (hm : P.follows .mixedOrders = true) (hB : Region.lexB .any l.toArray = true) (hS : storeB .any l o = true)
    (hC : C w.drew)
    (h : wpQuietIn F n P l.toArray C (fun a' => ∀ w', C w' → o.wpIn F n P a' w' (fun a'' w'' => Q .normal a'' w'') Q) l a) : (Code.region id ops true).wpIn F n P Q a w := by
  subst hops
  simp only [Region.lexB, Bool.and_eq_true] at hB
  refine wpIn_region_any hm ?_
  have hq := wpAnyQIn_lex (F := F) (n := n) (C := C) (md := .any) hB.1 l 0 (Array.replicate l.toArray.size false) a (by simp) (by simpa using hB.2) h
  have := wpAnyIn_store (F := F) (n := n) (P := P) (C := C) (md := .any) (o := o) (Q' := Q) hS (fun i oi hi c => noDefer_at (i := i) hnd hi c) (fun a' w' hw' hk => hk w' hw') l.length (Array.replicate l.toArray.size false) a w.drew (by simp) hC hq
  have e : Array.replicate (l ++ [o]).toArray.size false = (Array.replicate l.toArray.size false).push false := by simp [Array.replicate_succ]
  rw [e, show (l ++ [o]).toArray.size = l.length + 1 by simp]
  exact this
theorem wpIn_region_storeL {id : Nat} {Q : Exit → Act → World → Prop} {a : Act} {w : World} {L : List Oper} {C : World → Prop} (k : Nat) (o : Oper) (hL : L.length = k + 1) (ho : L[k]? = some o) (hnd : noDefer (L.take k) = true) (hm : P.follows .mixedOrders = true) (hB : Region.lexB .any (L.take k).toArray = true)
    (hS : storeB .any (L.take k) o = true) (hC : C w.drew)
    (h : wpQuietIn F n P (L.take k).toArray C (fun a' => ∀ w', C w' → o.wpIn F n P a' w' (fun a'' w'' => Q .normal a'' w'') Q) (L.take k) a) : (Code.region id L.toArray true).wpIn F n P Q a w := by
  refine wpIn_region_store (L.take k) o ?_ hnd hm hB hS hC h
  congr 1
  obtain ⟨hk, rfl⟩ := List.getElem?_eq_some_iff.1 ho
  rw [← List.take_succ_eq_append_getElem hk, ← hL, List.take_length]
theorem wpQuietIn_go {Q : Act → Prop} {C : World → Prop} {o : Oper} {rest : List Oper} {a a' : Act} {N : Option Tmp} {v : Value} (hg : o.guard = none) (hF : ∀ f, F.fn f) (h1 : ∀ w', C w' → o.quietAtIn F n P a C w' v) (hN : o.dst = N) (ha : a.put N v = a')
    (h2 : wpQuietIn F n P ops C Q rest a') : wpQuietIn F n P ops C Q (o :: rest) a := by
  refine ⟨fun w _ f _ => hF f, ?_⟩
  rw [if_pos (by simp [Region.wanted, hg])]
  exact ⟨v, h1, by rw [hN, ha]; exact h2⟩
theorem qval {C : World → Prop} {o : Oper} {a : Act} {v : Value} {w : World} (h : (execOp a.eval o).run P w = .ok (.value v) w) : o.quietAtIn F n P a C w v := by
  unfold Oper.quietAtIn; rw [h]; exact ⟨rfl, rfl⟩
theorem qcall {C : World → Prop} {o : Oper} {a : Act} {v : Value} {w : World} (f : FuncId) (args : Array Value) (h : (execOp a.eval o).run P w = .ok (.enter f args) w) (hd : F.depth.isSome = true → 1 ≤ n)
    (hc : CallsIn F (n - 1) P f args w fun e w'' => e = .returned v ∧ C w'') : o.quietAtIn F n P a C w v := by
  unfold Oper.quietAtIn; rw [h]; exact ⟨rfl, hd, hc⟩
theorem wpIn_skip {K : Act → World → Prop} {Q : Exit → Act → World → Prop} {o : Oper} {a : Act} {w w1 : World} (hnd : ∀ c, o.op ≠ .defer c) (hF : ∀ f, F.fn f) (hN : o.dst = none) (h : (execOp a.eval o).run P w = .ok .skip w1) (hk : K a w1) : o.wpIn F n P a w K Q := by
  unfold Oper.wpIn
  refine ⟨fun f _ => hF f, ?_⟩
  rw [Oper.semAt_plain F _ _ hnd, h]
  show K (a.put o.dst undef) w1
  rw [hN]
  exact hk
end
end Go.Proofs.YtoeibcdnhglobaaDoor

/- A region that draws its order, in a round of a loop over an iterator: quiet but for a last store that waits for the others, be it by one between. -/
namespace Go.Proofs.YtoeibcdnhglobaaDoor
set_option linter.unusedVariables false
set_option linter.unusedSimpArgs false
open Go
section
variable {F : Fence} {n : Nat} {P : Program} {ops : Array Oper} {md : Region.Mode} {C : World → Prop}
/-- The last operation waits for all the others, be it by one between, none waits for it, each waits for earlier ones alone, and none is guarded. -/
def storeT (md : Region.Mode) (l : List Oper) (o : Oper) : Bool :=
  (List.range l.length).all (fun i => (o.after.any fun e => Region.binds md e && e.on == i) || (List.range l.length).any fun j => (o.after.any fun e => Region.binds md e && e.on == j) && (match l[j]? with | some oj => oj.after.any (fun e => Region.binds md e && e.on == i) | none => false)) &&
  (List.range l.length).all (fun i => match l[i]? with | some oi => oi.after.all (fun e => !Region.binds md e || decide (e.on < i)) && oi.guard.isNone | none => true) && o.guard.isNone &&
  o.after.all (fun e => !Region.binds md e || decide (e.on < l.length))

/-- Whatever is done, what it waits for is done. -/
def ClosedT (md : Region.Mode) (l : List Oper) (listed : Array Bool) : Prop := ∀ i oi, l[i]? = some oi → listed.getD i false = true → ∀ e ∈ oi.after, Region.binds md e = true → listed.getD e.on false = true
section
variable {l : List Oper} {o : Oper} {listed : Array Bool}
theorem storeT_at {md : Region.Mode} (h : storeT md l o = true) :
    (∀ i, i < l.length → (∃ e ∈ o.after, Region.binds md e = true ∧ e.on = i) ∨ ∃ j oj, l[j]? = some oj ∧ (∃ e ∈ o.after, Region.binds md e = true ∧ e.on = j) ∧ ∃ e ∈ oj.after, Region.binds md e = true ∧ e.on = i) ∧ (∀ i oi, l[i]? = some oi → (∀ e ∈ oi.after, Region.binds md e = true → e.on < i) ∧ oi.guard = none) ∧ o.guard = none ∧
    (∀ e ∈ o.after, Region.binds md e = true → e.on < l.length) := by
  simp only [storeT, Bool.and_eq_true] at h
  obtain ⟨⟨⟨h1, h2⟩, h3⟩, h4⟩ := h
  refine ⟨fun i hi => ?_, fun i oi ho => ?_, by simpa using h3, fun e he hb => ?_⟩
  · have := List.all_eq_true.1 h1 i (List.mem_range.2 hi)
    rw [Bool.or_eq_true] at this
    rcases this with this | this
    · obtain ⟨e, he, hb⟩ := Array.any_eq_true'.1 this
      simp only [Bool.and_eq_true, beq_iff_eq] at hb
      exact .inl ⟨e, he, hb⟩
    · obtain ⟨j, _, hj⟩ := List.any_eq_true.1 this
      rw [Bool.and_eq_true] at hj
      obtain ⟨hj1, hj2⟩ := hj
      obtain ⟨e, he, hb⟩ := Array.any_eq_true'.1 hj1
      simp only [Bool.and_eq_true, beq_iff_eq] at hb
      cases hoj : l[j]? with
      | none => simp [hoj] at hj2
      | some oj =>
        simp only [hoj] at hj2
        obtain ⟨e2, he2, hb2⟩ := Array.any_eq_true'.1 hj2
        simp only [Bool.and_eq_true, beq_iff_eq] at hb2
        exact .inr ⟨j, oj, hoj, ⟨e, he, hb⟩, ⟨e2, he2, hb2⟩⟩
  · have := List.all_eq_true.1 h2 i (List.mem_range.2 (List.getElem?_eq_some_iff.1 ho).1)
    simp only [ho, Bool.and_eq_true] at this
    refine ⟨fun e he hb => ?_, by simpa using this.2⟩
    have := (Array.all_eq_true_iff_forall_mem.1 this.1) e he
    simpa [hb] using this
  · have := (Array.all_eq_true_iff_forall_mem.1 h4) e he
    simpa [hb] using this
theorem push_getDT {i : Nat} {d b : Bool} (hs : listed.size = l.length) (hi : i < l.length) : (listed.push b).getD i d = listed.getD i d := by
  simp only [Array.getD_eq_getD_getElem?, Array.getElem?_push]
  rw [if_neg (by omega)]
theorem getD_ltT {i : Nat} {d e : Bool} (hs : listed.size = l.length) (hi : i < l.length) : listed.getD i d = listed.getD i e := by
  simp [Array.getD_eq_getD_getElem?, hs, hi]
theorem ready_headT {md : Region.Mode} (hB : storeT md l o = true) (hs : listed.size = l.length) {i : Nat} (hi : i < l.length) :
    i ∈ Region.ready md (l ++ [o]).toArray (listed.push false) ↔ i ∈ Region.ready md l.toArray listed := by
  obtain ⟨_, h2, _⟩ := storeT_at hB
  rw [mem_ready, mem_ready, push_getDT hs hi]
  have e : (l ++ [o]).toArray[i]? = l.toArray[i]? := by simp [List.getElem?_append_left hi]
  rw [e]
  constructor
  · rintro ⟨h0, oi, ho, ha⟩
    exact ⟨h0, oi, ho, fun e he hb => by rw [← ha e he hb, push_getDT hs (Nat.lt_trans ((h2 i oi (by simpa using ho)).1 e he hb) hi)]⟩
  · rintro ⟨h0, oi, ho, ha⟩
    exact ⟨h0, oi, ho, fun e he hb => by rw [← ha e he hb, push_getDT hs (Nat.lt_trans ((h2 i oi (by simpa using ho)).1 e he hb) hi)]⟩
/-- Where none may come up, all have. -/
theorem all_listedT {md : Region.Mode} (hB : storeT md l o = true) (hs : listed.size = l.length) (hr : Region.ready md l.toArray listed = []) : ∀ i, i < l.length → listed.getD i false = true := by
  obtain ⟨_, h2, _⟩ := storeT_at hB
  intro i
  induction i using Nat.strongRecOn with
  | _ i ih =>
    intro hi
    cases hl : listed.getD i false with
    | true => rfl
    | false =>
      exfalso
      have hm : i ∈ Region.ready md l.toArray listed := by
        rw [mem_ready]
        obtain ⟨oi, ho⟩ : ∃ oi, l[i]? = some oi := ⟨l[i], List.getElem?_eq_getElem hi⟩
        refine ⟨by rw [getD_ltT (e := false) hs hi]; exact hl, oi, by simpa using ho, fun e he hb => ?_⟩
        have := (h2 i oi ho).1 e he hb
        exact ih e.on this (by omega)
      rw [hr] at hm
      cases hm
theorem ready_lastT {md : Region.Mode} (hB : storeT md l o = true) (hs : listed.size = l.length) (hcl : ClosedT md l listed) : l.length ∈ Region.ready md (l ++ [o]).toArray (listed.push false) ↔ Region.ready md l.toArray listed = [] := by
  obtain ⟨h1, h2, h3, h4⟩ := storeT_at hB
  rw [mem_ready]
  have e : (l ++ [o]).toArray[l.length]? = some o := by simp
  rw [e]
  constructor
  · rintro ⟨_, o', ho, ha⟩
    cases ho
    rw [List.eq_nil_iff_forall_not_mem]
    intro i hi
    have hil : i < l.length := by
      have := (mem_ready.1 hi).2
      obtain ⟨oi, ho, _⟩ := this
      exact (List.getElem?_eq_some_iff.1 (show l[i]? = some oi by simpa using ho)).1
    have h0 := (mem_ready.1 hi).1
    rcases h1 i hil with ⟨e, he, hb, hon⟩ | ⟨j, oj, hoj, ⟨e, he, hb, hon⟩, ⟨e2, he2, hb2, hon2⟩⟩
    · have := ha e he hb
      rw [hon, push_getDT hs hil] at this
      rw [getD_ltT (e := false) hs hil, this] at h0
      cases h0
    · have hjl := (List.getElem?_eq_some_iff.1 hoj).1
      have := ha e he hb
      rw [hon, push_getDT hs hjl] at this
      have h5 := hcl j oj hoj this e2 he2 hb2
      rw [hon2] at h5
      rw [getD_ltT (e := false) hs hil, h5] at h0
      cases h0
  · intro hr
    have hz : (listed.push false)[l.length]? = some false := by rw [← hs]; simp
    refine ⟨by rw [Array.getD_eq_getD_getElem?, hz]; rfl, o, rfl, fun e he hb => ?_⟩
    have := h4 e he hb
    rw [push_getDT hs this]
    exact all_listedT hB hs hr _ this
end
theorem ClosedT.none {md : Region.Mode} {l : List Oper} (k : Nat) : ClosedT md l (Array.replicate k false) := fun i oi _ h => by
  exfalso
  rw [Array.getD_eq_getD_getElem?, Array.getElem?_replicate] at h
  split at h <;> simp at h
theorem ClosedT.step {md : Region.Mode} {l : List Oper} {listed : Array Bool} {i : Nat} {oi : Oper} (hcl : ClosedT md l listed) (hs : listed.size = l.length) (hi : i < l.length) (ho : l[i]? = some oi)
    (hr : listed.getD i true = false ∧ ∃ oi, l.toArray[i]? = some oi ∧ ∀ e ∈ oi.after, Region.binds md e = true → listed.getD e.on false = true) : ClosedT md l (listed.setIfInBounds i true) := by
  have keep : ∀ k, listed.getD k false = true → (listed.setIfInBounds i true).getD k false = true := by
    intro k hk
    by_cases hki : k = i
    · subst hki; simp [Array.getD_eq_getD_getElem?, hs, hi]
    · rw [getD_set_ne false (by omega)]; exact hk
  intro j oj hoj hj e he hb
  obtain ⟨_, oi', ho', ha⟩ := hr
  by_cases hji : j = i
  · subst hji
    have : oi' = oj := by
      have h2 : l[j]? = some oi' := by simpa using ho'
      rw [h2] at hoj; exact Option.some.inj hoj
    subst this
    exact keep _ (ha e he hb)
  · rw [getD_set_ne false (by omega)] at hj
    exact keep _ (hcl j oj hoj hj e he hb)
theorem wpAnyIn_storeT {l : List Oper} {o : Oper} {Qq : Act → Prop} {Q' : Exit → Act → World → Prop} (hB : storeT md l o = true) (hnd : ∀ (i : Nat) (oi : Oper), l[i]? = some oi → ∀ c, oi.op ≠ .defer c)
    (hR : ∀ a w, C w → Qq a → o.wpIn F n P a w (fun a' w' => Q' .normal a' w') Q') :
    ∀ (fuel : Nat) (listed : Array Bool) (a : Act) (w : World), listed.size = l.length → ClosedT md l listed → C w → wpAnyQIn F n P md l.toArray C Qq fuel listed a → wpAnyIn F n P md (l ++ [o]).toArray Q' (fuel + 1) (listed.push false) a w := by
  obtain ⟨h1, h2, h3, h4⟩ := storeT_at hB
  have elast : (l ++ [o]).toArray[l.length]? = some o := by simp
  have last : ∀ (fuel : Nat) (listed : Array Bool) (a : Act) (w : World), listed.size = l.length → C w → Region.ready md l.toArray listed = [] → Qq a →
      wpOpIn F n P (l ++ [o]).toArray Q' l.length (wpAnyIn F n P md (l ++ [o]).toArray Q' fuel ((listed.push false).setIfInBounds l.length true)) a w := by
    intro fuel listed a w hs hw hr hq
    unfold wpOpIn
    rw [elast]
    simp only []
    rw [if_pos (by simp [Region.wanted, h3])]
    refine Oper.wpIn_mono (fun a' w' hh => ?_) (hR a w hw hq)
    have hempty : Region.ready md (l ++ [o]).toArray ((listed.push false).setIfInBounds l.length true) = [] := by
      rw [List.eq_nil_iff_forall_not_mem]
      intro i hi
      obtain ⟨h0, oi, ho, _⟩ := mem_ready.1 hi
      have hil : i < (l ++ [o]).length := (List.getElem?_eq_some_iff.1 (show (l ++ [o])[i]? = some oi by simpa using ho)).1
      rw [List.length_append, List.length_singleton] at hil
      by_cases hii : i = l.length
      · subst hii
        simp [Array.getD_eq_getD_getElem?, hs] at h0
      · have hil2 : i < l.length := by omega
        rw [getD_set_ne true (by omega), push_getDT hs hil2, getD_ltT (e := false) hs hil2, all_listedT hB hs hr i hil2] at h0
        cases h0
    cases fuel with
    | zero => exact ⟨hempty, hh⟩
    | succ f => exact ⟨fun _ => hh, fun i hi => by rw [hempty] at hi; cases hi⟩
  intro fuel
  induction fuel with
  | zero =>
    intro listed a w hs hcl hw h
    obtain ⟨hr, hq⟩ := h
    have hl := (ready_lastT hB hs hcl).2 hr
    refine ⟨fun h0 => (by rw [h0] at hl; cases hl), fun i hi => ?_⟩
    by_cases hii : i = l.length
    · subst hii; exact last 0 listed a w hs hw hr hq
    · exfalso
      obtain ⟨_, oi, ho, _⟩ := mem_ready.1 hi
      have hil : i < (l ++ [o]).length := (List.getElem?_eq_some_iff.1 (show (l ++ [o])[i]? = some oi by simpa using ho)).1
      rw [List.length_append, List.length_singleton] at hil
      have := (ready_headT hB hs (by omega)).1 hi
      rw [hr] at this
      cases this
  | succ fuel ih =>
    intro listed a w hs hcl hw h
    obtain ⟨h0, hstep⟩ := h
    refine ⟨fun he => ?_, fun i hi => ?_⟩
    · exfalso
      have hr : Region.ready md l.toArray listed = [] := by
        rw [List.eq_nil_iff_forall_not_mem]
        intro i hi
        obtain ⟨_, oi, ho, _⟩ := mem_ready.1 hi
        have hil : i < l.length := (List.getElem?_eq_some_iff.1 (show l[i]? = some oi by simpa using ho)).1
        have := (ready_headT hB hs hil).2 hi
        rw [he] at this
        cases this
      have hl := (ready_lastT hB hs hcl).2 hr
      rw [he] at hl
      cases hl
    · by_cases hii : i = l.length
      · subst hii
        have hr := (ready_lastT hB hs hcl).1 hi
        exact last _ listed a w hs hw hr (h0 hr)
      · obtain ⟨_, oi, ho, _⟩ := mem_ready.1 hi
        have hil : i < (l ++ [o]).length := (List.getElem?_eq_some_iff.1 (show (l ++ [o])[i]? = some oi by simpa using ho)).1
        rw [List.length_append, List.length_singleton] at hil
        have hil2 : i < l.length := by omega
        have hi2 := (ready_headT hB hs hil2).1 hi
        have hq := hstep i hi2
        have ho2 : l.toArray[i]? = some oi := by
          have : (l ++ [o])[i]? = some oi := by simpa using ho
          rw [List.getElem?_append_left hil2] at this
          simpa using this
        have hg := (h2 i oi (by simpa using ho2)).2
        unfold qOpIn at hq
        unfold wpOpIn
        rw [ho]
        simp only [ho2] at hq ⊢
        obtain ⟨ha, hq⟩ := hq
        have hw1 : ∀ ys, Region.wanted oi ys = true := fun ys => by simp [Region.wanted, hg]
        rw [if_pos (hw1 _)] at hq ⊢
        refine wpIn_of_quiet' (hnd i oi (by simpa using ho2)) hw (fun a' w' hw' hk => ?_) ha hq
        have e : (listed.push false).setIfInBounds i true = (listed.setIfInBounds i true).push false := by
          apply Array.ext_getElem?
          intro j
          simp only [Array.getElem?_setIfInBounds, Array.getElem?_push, Array.size_push, Array.size_setIfInBounds]
          by_cases hj : i = j
          · subst hj
            rw [if_pos rfl, if_pos (by omega), if_neg (by omega), if_pos rfl, if_pos (by omega)]
          · rw [if_neg hj, if_neg hj]
        rw [e]
        exact ih _ a' w' (by simp [hs]) (ClosedT.step hcl hs hil2 (by simpa using ho2) (mem_ready.1 hi2)) hw' hk
theorem wpIn_region_storeT {id : Nat} {Q : Exit → Act → World → Prop} {a : Act} {w : World} {ops : Array Oper} (l : List Oper) (o : Oper) (hops : ops = (l ++ [o]).toArray) (hnd : noDefer l = true) (hm : P.follows .mixedOrders = true) (hB : Region.lexB .any l.toArray = true) (hS : storeT .any l o = true)
    (hC : C w.drew)
    (h : wpQuietIn F n P l.toArray C (fun a' => ∀ w', C w' → o.wpIn F n P a' w' (fun a'' w'' => Q .normal a'' w'') Q) l a) : (Code.region id ops true).wpIn F n P Q a w := by
  subst hops
  simp only [Region.lexB, Bool.and_eq_true] at hB
  refine wpIn_region_any hm ?_
  have hq := wpAnyQIn_lex (F := F) (n := n) (C := C) (md := .any) hB.1 l 0 (Array.replicate l.toArray.size false) a (by simp) (by simpa using hB.2) h
  have := wpAnyIn_storeT (F := F) (n := n) (P := P) (C := C) (md := .any) (o := o) (Q' := Q) hS (fun i oi hi c => noDefer_at (i := i) hnd hi c) (fun a' w' hw' hk => hk w' hw') l.length (Array.replicate l.toArray.size false) a w.drew (by simp) (ClosedT.none _) hC hq
  have e : Array.replicate (l ++ [o]).toArray.size false = (Array.replicate l.toArray.size false).push false := by simp [Array.replicate_succ]
  rw [e, show (l ++ [o]).toArray.size = l.length + 1 by simp]
  exact this
theorem wpIn_region_storeTL {id : Nat} {Q : Exit → Act → World → Prop} {a : Act} {w : World} {L : List Oper} {C : World → Prop} (k : Nat) (o : Oper) (hL : L.length = k + 1) (ho : L[k]? = some o) (hnd : noDefer (L.take k) = true) (hm : P.follows .mixedOrders = true) (hB : Region.lexB .any (L.take k).toArray = true)
    (hS : storeT .any (L.take k) o = true) (hC : C w.drew)
    (h : wpQuietIn F n P (L.take k).toArray C (fun a' => ∀ w', C w' → o.wpIn F n P a' w' (fun a'' w'' => Q .normal a'' w'') Q) (L.take k) a) : (Code.region id L.toArray true).wpIn F n P Q a w := by
  refine wpIn_region_storeT (L.take k) o ?_ hnd hm hB hS hC h
  congr 1
  obtain ⟨hk, rfl⟩ := List.getElem?_eq_some_iff.1 ho
  rw [← List.take_succ_eq_append_getElem hk, ← hL, List.take_length]
end
end Go.Proofs.YtoeibcdnhglobaaDoor

/- What a loop from behind over a row of one's own rests on. -/
namespace Go.Proofs.YtoeibcdnhglobaaDoor.P
set_option linter.unusedVariables false
set_option linter.unusedSimpArgs false
open Go.RowKit Go.Shelf Go.Proofs.YtoeibcdnhglobaaDoorW.PrintWords Go.Proofs.YtoeibcdnhglobaaDoorW.PrintLast Go.Proofs.YtoeibcdnhglobaaDoorW.PrintMore
def Tryd.lays16_ren : Go.Shelf.Ren := ⟨fun | 16 => 81 | n => n, fun | 24 => 22 | 9 => 9 | 4 => 4 | n => n, fun | n => n⟩
theorem Tryd.lays16 : Go.Proofs.Lays2.n16 Tryd.prog Tryd.lays16_ren := {
  mixed := by kernel_rfl
  f16 := Tryd.func81.trans (congrArg some (by kernel_rfl))
  t4 := Tryd.underlying4
  a4 := Tryd.isAgg4
  z4 := Tryd.sizeOf4
  v4 := Tryd.zeroValue4
  t9 := Tryd.underlying9
  a9 := Tryd.isAgg9
  z9 := Tryd.sizeOf9
  v9 := Tryd.zeroValue9
  t24 := Tryd.underlying22
  a24 := Tryd.isAgg22
  z24 := Tryd.sizeOf22
  v24 := Tryd.zeroValue22
  i9 := by kernel_rfl }
def Tryd.lays15_ren : Go.Shelf.Ren := ⟨fun | 15 => 85 | n => n, fun | 22 => 33 | 3 => 3 | 4 => 4 | n => n, fun | n => n⟩
theorem Tryd.lays15 : Go.Proofs.Lays2.n15 Tryd.prog Tryd.lays15_ren := {
  mixed := by kernel_rfl
  f15 := Tryd.func85.trans (congrArg some (by kernel_rfl))
  t3 := Tryd.underlying3
  a3 := Tryd.isAgg3
  z3 := Tryd.sizeOf3
  v3 := Tryd.zeroValue3
  t4 := Tryd.underlying4
  a4 := Tryd.isAgg4
  z4 := Tryd.sizeOf4
  v4 := Tryd.zeroValue4
  t22 := Tryd.underlying33
  a22 := Tryd.isAgg33
  z22 := Tryd.sizeOf33
  v22 := Tryd.zeroValue33
  i3 := by kernel_rfl }
/-- The cells of S's blocks hold what they held. -/
def KpS (S : Nat → Prop) (W W' : World) : Prop := ∀ p v, S p.block → W.cell? p = some v → W'.cell? p = some v
theorem KpS.of_below {S : Nat → Prop} {n₀ : Nat} {W W' : World} (h : Below n₀ W W') (hb : ∀ k, S k → k < n₀) : KpS S W W' := fun p _ hp hv => (h.cell (p := p) (hb _ hp)).trans hv
theorem KpS.t {S : Nat → Prop} {A B C : World} (h : KpS S A B) (k : KpS S B C) : KpS S A C := fun p v hp hv => k p v hp (h p v hp hv)
theorem KpS.b {S : Nat → Prop} {B : Nat} (W : World) (l : Nat) (o o' : Obj) (_ : B ≤ l) (hl : W.heap[l]? = some o) (ho : o.isCells = false) (_ : o.isWalk = false) : KpS S W (W.putObj l o') := fun p _ hp hv =>
  cell_kept hv (grownBy_putObj' W l o') (fun r e => by cases e; exact ⟨o, hl, ho⟩)
theorem KpS.set {S : Nat → Prop} {W : World} {B : Nat} (u : Value) (hS : ∀ k, S k → k ≠ B) : KpS S W (W.setCell ⟨B, 0, none⟩ u) := fun p _ hp hv =>
  (World.cell?_of_block (Below.heap_setCell W ⟨B, 0, none⟩ u p.block (hS _ hp))).trans hv
theorem KeepsOthers.refl' (W : World) : KeepsOthers W W := ⟨Nat.le_refl _, fun _ _ h _ => h⟩
theorem callsIn_inr {k : Nat} (l : Nat) {f : FuncId} {args : Array Value} {w : World} {Q : Ending → World → Prop} (h : CallsIn Fence.wide k Tryd.prog f args w Q) : CallsIn (Fence.wide.inRound l) k Tryd.prog f args w Q := CallsIn.inRound l h
theorem _root_.Go.KeepsOthers.of_below' {W W' : World} (h : Below W.heap.size W W') : KeepsOthers W W' := KeepsOthers.of_grownBy (grown_of_below h none) (fun _ _ e => by simp at e)
theorem _root_.Go.KeepsOthers.trans' {A B C : World} (h : KeepsOthers A B) (k : KeepsOthers B C) : KeepsOthers A C := h.trans k
theorem _root_.Go.Boxed.below {W W' : World} {B : Nat} {t : TypeId} {v : Value} (h : Boxed W B t v) (hb : Below W.heap.size W W') : Boxed W' B t v := h.kept (grown_of_below hb none) (by simp)
end Go.Proofs.YtoeibcdnhglobaaDoor.P

/- A loop over an iterator that writes a box of its own between two rounds: the law of such a loop. -/
namespace Go.Proofs.YtoeibcdnhglobaaDoor.P
set_option linter.unusedVariables false
set_option linter.unusedSimpArgs false
open Go.RowKit

/-- What is said of a world abides a turn of box Bn. -/
def Abox {β : Type} (Bn : Nat) (I : β → World → Prop) : Prop := ∀ s A B, I s A → Touch (fun k => k = Bn) A B → I s B
/-- An iterator that turns its own box alone: it hands xs to each round, one by one, till all have come or a round has left. -/
def SeqBox {α : Type} (F : Fence) (n : Nat) (P : Program) (g : Nat) (lb : Array Value) (encs : α → Array Value) (Bn : Nat) (Kp : World → World → Prop) (S Sp : List α → Prop) (N : Nat) (w : World) : Prop :=
  ∀ (l : Nat) (J Jx : List α → World → Prop) (W : World), Below w.heap.size w W → Abox Bn J → Abox Bn Jx →
    (∀ pre x W1, J pre W1 → pre.length < N → YieldAt F (n - 1) P l (encs x) W1 fun e W' =>
      (e = .returned (.bool true) ∧ J (pre ++ [x]) W' ∧ Kp W1 W') ∨ (e = .returned (.bool false) ∧ Jx (pre ++ [x]) W')) →
    J [] W →
    CallsIn F n P g (#[.func (.yield l) #[] #[]] ++ lb) W fun e W' => (∃ v, e = .returned v) ∧ ((∃ xs, S xs ∧ J xs W') ∨ (∃ pre, Sp pre ∧ Jx pre W'))

theorem rangeFunc_box {F : Fence} {n : Nat} {P : Program} {w : World} {α : Type} {g : Operand} {ps : Array Tmp} {assign body : Code} {Q : Exit → Act → World → Prop} {a : Act}
    (hro : F.round = none) (h1 : 1 ≤ n) {gf : Nat} {lb : Array Value} (hg : a.eval g = .func (.func gf) #[] lb) (hFg : F.fn gf) (eg : ∀ args w, (callFunc gf args).run P w = .ok (.enter gf args) w)
    {encs : α → Array Value} {Bn : Nat} (hBn : Bn < w.heap.size) {Kp : World → World → Prop} {S Sp : List α → Prop} {N : Nat} {w0 : World} (hseq : SeqBox F (n - 1) P gf lb encs Bn Kp S Sp N w0)
    (hKt : ∀ {A B C : World}, Kp A B → Kp B C → Kp A C) (hKb : ∀ (W : World) (l : Nat) (o o' : Obj), w.heap.size ≤ l → W.heap[l]? = some o → o.isCells = false → o.isWalk = false → Kp W (W.putObj l o')) (hb0 : Below w0.heap.size w0 w) (hps : ∀ x, (encs x).size = ps.size)
    (I : List α → World → Prop) (Ix : Code → List α → World → Prop) (hI : OwnFrom w.heap.size I) (hIx : ∀ c, OwnFrom w.heap.size (Ix c)) (hIb : Abox Bn I) (hIxb : ∀ c, Abox Bn (Ix c)) (h0 : I [] w) (Ax : α → Act → World → Prop) (hAx : ∀ x a', OwnFrom w.heap.size (fun (_ : Unit) W => Ax x a' W))
    (hassign : ∀ (l : Nat) (pre : List α) (x : α) (W : World) (K : Act → World → Prop), I pre W → (∀ a' W', KeepsFrom w.heap.size W W' → Kp W W' → I pre W' → Ax x a' W' → K a' W') →
      assign.wpIn (F.inRound l) (n - 1 - 1) P (Exit.then K (fun _ _ _ => False)) { tmps := (ps.zip (encs x)).foldl (fun t (p, v) => t.setIfInBounds p v) a.tmps, defers := [] } W)
    (hbody : ∀ (l : Nat) (pre : List α) (x : α) (a' : Act) (W : World), w.heap.size ≤ l → (∃ r, W.heap[l]? = some (.loop r)) → I pre W → Ax x a' W → pre.length < N → body.wpIn (F.inRound l) (n - 1 - 1) P (ownPostG w.heap.size Kp I Ix (pre ++ [x]) W) a' W)
    (hdone : ∀ (D : Nat) (xs : List α) (W : World), w.heap.size ≤ D → S xs → I xs W → W.heap[D]? = some (.deferred (some [])) → Q .normal { a with defers := { target := .collected D, args := #[] } :: a.defers } W)
    (hstop : ∀ (D : Nat) (c : Code) (pre : List α) (W : World), w.heap.size ≤ D → Sp pre → Ix c pre W → W.heap[D]? = some (.deferred (some [])) → c.wpIn F n P Q { a with defers := { target := .collected D, args := #[] } :: a.defers } W) :
    (Code.rangeFunc g ps assign body).wpIn F n P Q a w := by
  refine wpIn_rangeFunc ?_
  intro fn hfn
  rw [hro]
  obtain ⟨rec, hrec⟩ : ∃ rec : LoopState → Option Code → Loop, rec = fun st pe => { state := st, pending := pe, fn, tmps := a.tmps, params := ps, assign, body, defers := w.heap.size } := ⟨_, rfl⟩
  obtain ⟨W1, hW1⟩ : ∃ W1, (w.alloc (.deferred (some []))).alloc (.loop (rec .ready none)) = W1 := ⟨_, rfl⟩
  have hL1 : W1.heap[w.heap.size + 1]? = some (.loop (rec .ready none)) := by
    rw [← hW1]; have := World.alloc_heap_new (w.alloc (.deferred (some []))) (.loop (rec .ready none)); rwa [World.size_alloc] at this
  have hK1 : W1.heap[w.heap.size]? = some (.deferred (some [])) := by
    rw [← hW1]; exact (Below.heap_alloc _ _ _ (by simp)).trans (World.alloc_heap_new w _)
  have hI1 : I [] W1 := by rw [← hW1]; exact hI.alloc _ (hI.alloc _ h0)
  have hb1 : Below w0.heap.size w0 W1 := by
    rw [← hW1]; exact hb0.trans ((((Below.refl _ w).alloc (Nat.le_refl _) _).alloc (by simp) _).mono hb0.size)
  refine ⟨w.heap.size + 1, [{ target := .collected w.heap.size, args := #[] }], W1, { target := .fn (.func gf) lb, args := #[.func (.yield (w.heap.size + 1)) #[] #[]] }, W1, gf,
    #[.func (.yield (w.heap.size + 1)) #[] #[]] ++ lb, W1, ?_, ?_, ?_, ?_, fun _ => h1, ?_⟩
  · rw [← hW1, hrec]; exact run_enterLoop_outer _ _ _ _ _
  · simp only [resolve, hg]
    simp [go_sem]
  · intro f' hf'; simp [Target.leads] at hf'; subst hf'; exact hFg
  · simp [invoke, go_sem, eg]
  · refine (hseq (w.heap.size + 1)
      (fun pre W => I pre W ∧ W.heap[w.heap.size + 1]? = some (.loop (rec .ready none)) ∧ W.heap[w.heap.size]? = some (.deferred (some [])))
      (fun pre W => ∃ c, Ix c pre W ∧ W.heap[w.heap.size + 1]? = some (.loop (rec .done (some c))) ∧ W.heap[w.heap.size]? = some (.deferred (some [])))
      W1 hb1
      (fun s A B hs ht => ⟨hIb s A B hs.1 ht, ht.blk hs.2.1 (by omega), ht.blk hs.2.2 (by omega)⟩)
      (fun s A B hs ht => by
        obtain ⟨c, hc, hl, hk⟩ := hs
        exact ⟨c, hIxb c s A B hc ht, ht.blk hl (by omega), ht.blk hk (by omega)⟩)
      ?_ ⟨hI1, hL1, hK1⟩).mono ?_
    · -- ONE ROUND
      rintro pre x W ⟨hi, hl, hk⟩ hlen
      have hlt : w.heap.size + 1 < W.heap.size := (Array.getElem?_eq_some_iff.1 hl).1
      have hy := run_yield (P := P) (args := encs x) hl (by rw [hrec]; exact hps x)
      rw [hrec] at hy
      refine ⟨fn, _, assign, body, hy, roundIn_of_wpIn hfn (hassign _ pre x W _ hi ?_)⟩
      clear hy
      intro a' Wa hkfa hkpa hia hax
      replace hl := hkfa.same _ _ (by omega) hl rfl
      replace hk := hkfa.same _ _ (Nat.le_refl _) hk rfl
      replace hlt : w.heap.size + 1 < Wa.heap.size := (Array.getElem?_eq_some_iff.1 hl).1
      replace hi := hia
      clear hia
      revert hkpa hkfa
      generalize W = Wb
      intro hkfa hkpa
      obtain ⟨W, rfl⟩ : ∃ W, W = Wa := ⟨_, rfl⟩
      refine ⟨_, run_beginRound hl (by rw [hrec]), ?_⟩
      have hl2 : (W.putObj (w.heap.size + 1) (.loop { rec .ready none with state := .busy })).heap[w.heap.size + 1]? = some (.loop { rec .ready none with state := .busy }) := World.putObj_heap_same hlt
      have hk2 : (W.putObj (w.heap.size + 1) (.loop { rec .ready none with state := .busy })).heap[w.heap.size]? = some (.deferred (some [])) := (World.putObj_heap_other (by omega)).trans hk
      have hw2 : Kp W (W.putObj (w.heap.size + 1) (.loop { rec .ready none with state := .busy })) := hKb _ _ _ _ (by omega) hl rfl rfl
      refine wpIn_mono (hbody _ pre x a' _ (by omega) ⟨_, hl2⟩ (hI.putObj _ hi (by omega) hl rfl) ((hAx x a').putObj (s := ()) _ hax (by omega) hl rfl) hlen) ?_
      have fin : ∀ (jump : Option Code) (W3 : World), KeepsFrom w.heap.size (W.putObj (w.heap.size + 1) (.loop { rec .ready none with state := .busy })) W3 →
          (Instr.endRound (w.heap.size + 1) jump).run P W3 = .ok (.bool jump.isNone) (W3.putObj (w.heap.size + 1) (.loop (rec (if jump.isNone then .ready else .done) jump))) ∧
          W3.heap[w.heap.size + 1]? = some (.loop { rec .ready none with state := .busy }) ∧
          (W3.putObj (w.heap.size + 1) (.loop (rec (if jump.isNone then .ready else .done) jump))).heap[w.heap.size + 1]? = some (.loop (rec (if jump.isNone then .ready else .done) jump)) ∧
          (W3.putObj (w.heap.size + 1) (.loop (rec (if jump.isNone then .ready else .done) jump))).heap[w.heap.size]? = some (.deferred (some [])) := fun jump W3 hk3 => by
        have hl3 := hk3.same _ _ (by omega) hl2 rfl
        have := run_endRound (P := P) jump hl3
        rw [hrec] at this ⊢
        exact ⟨this, by rw [hrec] at hl3; exact hl3, World.putObj_heap_same (Array.getElem?_eq_some_iff.1 hl3).1, (World.putObj_heap_other (by omega)).trans (hk3.same _ _ (Nat.le_refl _) hk2 rfl)⟩
      rintro e a3 W3 hp
      cases e with
      | normal =>
        obtain ⟨hk3, hkp3, hi3⟩ := hp
        obtain ⟨hr, hl3, hl4, hk4⟩ := fin none W3 hk3
        exact ⟨_, _, hr, .inl ⟨rfl, ⟨hI.putObj _ hi3 (by omega) hl3 rfl, hl4, hk4⟩, hKt hkpa (hKt (hKt hw2 hkp3) (hKb _ _ _ _ (by omega) hl3 rfl rfl))⟩⟩
      | ret =>
        obtain ⟨hk3, hi3⟩ := hp
        obtain ⟨hr, hl3, hl4, hk4⟩ := fin (some .ret) W3 hk3
        exact ⟨_, _, hr, .inr ⟨rfl, .ret, (hIx _).putObj _ hi3 (by omega) hl3 rfl, hl4, hk4⟩⟩
      | exit id =>
        obtain ⟨hk3, hi3⟩ := hp
        obtain ⟨hr, hl3, hl4, hk4⟩ := fin (some (.exit id)) W3 hk3
        exact ⟨_, _, hr, .inr ⟨rfl, .exit id, (hIx _).putObj _ hi3 (by omega) hl3 rfl, hl4, hk4⟩⟩
      | goto t =>
        obtain ⟨hk3, hi3⟩ := hp
        obtain ⟨hr, hl3, hl4, hk4⟩ := fin (some (.goto t)) W3 hk3
        exact ⟨_, _, hr, .inr ⟨rfl, .goto t, (hIx _).putObj _ hi3 (by omega) hl3 rfl, hl4, hk4⟩⟩
      | panic ch => exact hp.elim
      | outgrown => exact hp.elim
    · -- BEHIND THE ITERATOR
      rintro e W2 ⟨⟨v, rfl⟩, (⟨xs, hS, hi, hl, hk⟩ | ⟨pre, hSp, c, hi, hl, hk⟩)⟩
      · exact ⟨none, _, by have := run_endLoop (P := P) hl (by rw [hrec]; simp); rw [hrec] at this; exact this, hdone _ xs _ (Nat.le_refl _) hS (hI.putObj _ hi (by omega) hl rfl) ((World.putObj_heap_other (by omega)).trans hk)⟩
      · exact ⟨some c, _, by have := run_endLoop (P := P) hl (by rw [hrec]; simp); rw [hrec] at this; exact this, hstop _ c pre _ (Nat.le_refl _) hSp ((hIx c).putObj _ hi (by omega) hl rfl) ((World.putObj_heap_other (by omega)).trans hk)⟩
end Go.Proofs.YtoeibcdnhglobaaDoor.P
