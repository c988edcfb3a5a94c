/- A region that draws its order, in a round of a loop over an iterator: one walk in the text's order serves, where its operations and callees only read. -/
import Derived.Sort.QuietIn
import Derived.OwnWalkIn
namespace Go.Proofs.YtoeibcdnhglobaaDoor
set_option linter.unusedVariables false
set_option linter.unusedSimpArgs false
open Go
def noDefer (l : List Oper) : Bool := l.all fun o => match o.op with | .defer _ => false | _ => true
theorem noDefer_at {l : List Oper} (h : noDefer l = true) {i : Nat} {o : Oper} (hi : l[i]? = some o) (c : Call) : o.op ≠ .defer c := by
  intro e
  have := List.all_eq_true.1 h o (List.mem_of_getElem? hi)
  rw [e] at this
  cases this
section
variable {F : Fence} {n : Nat} {P : Program} {ops : Array Oper} {md : Region.Mode} {C : World → Prop}
theorem wpIn_of_quiet' {o : Oper} {a : Act} {K : Act → Prop} {K' : Act → World → Prop} {Q' : Exit → Act → World → Prop} {w : World} (hnd : ∀ c, o.op ≠ .defer c) (hw : C w) (h : ∀ a w', C w' → K a → K' a w')
    (ha : o.askedIn F P a C) (hh : o.quietIn F n P a C K) : o.wpIn F n P a w K' Q' := by
  obtain ⟨v, h1, h2⟩ := hh
  have h3 := h1 w hw
  unfold Oper.quietAtIn at h3
  unfold Oper.wpIn
  refine ⟨ha w hw, ?_⟩
  rw [Oper.semAt_plain F _ _ hnd]
  generalize (execOp a.eval o).run P w = r at *
  cases r with
  | ok x w' =>
    cases x <;> simp only [Oper.quietUponIn] at h3 <;> simp only [Oper.uponIn]
    case value u =>
      obtain ⟨e1, e2⟩ := h3
      rw [e1, e2]
      exact h _ _ hw h2
    case skip =>
      obtain ⟨e1, e2⟩ := h3
      rw [e1, ← e2]
      exact h _ _ hw h2
    case enter f args =>
      obtain ⟨e1, hd, hc⟩ := h3
      rw [e1]
      exact ⟨hd, hc.mono fun e w'' ⟨he, hw''⟩ => by subst he; exact h _ _ hw'' h2⟩
  | halt x w' => simp only [Oper.quietUponIn] at h3
theorem wpOpIn_of_qOpIn' {i : Nat} {a : Act} {K : Act → Prop} {K' : Act → World → Prop} {Q' : Exit → Act → World → Prop} {w : World} (hnd : ∀ o, ops[i]? = some o → ∀ c, o.op ≠ .defer c) (hC : C w) (h : ∀ a w', C w' → K a → K' a w')
    (hh : qOpIn F n P ops C i K a) : wpOpIn F n P ops Q' i K' a w := by
  unfold qOpIn at hh
  unfold wpOpIn
  split
  · rename_i ho; simp only [ho] at hh; exact h _ _ hC hh
  · rename_i o ho
    simp only [ho] at hh
    obtain ⟨ha, hh⟩ := hh
    split
    · rename_i hw; simp only [hw, if_true] at hh; exact wpIn_of_quiet' (hnd o ho) hC h ha hh
    · rename_i hw; simp only [hw] at hh; exact ⟨ha w hC, h _ _ hC hh⟩
theorem wpAnyIn_of_quiet' {Q : Act → Prop} {Q' : Exit → Act → World → Prop} (hnd : ∀ (i : Nat) (o : Oper), ops[i]? = some o → ∀ c, o.op ≠ .defer c) (hQ : ∀ a w, C w → Q a → Q' .normal a w) : ∀ (fuel : Nat) (listed : Array Bool) (a : Act) (w : World), C w →
    wpAnyQIn F n P md ops C Q fuel listed a → wpAnyIn F n P md ops Q' fuel listed a w
  | 0, _, _, _, hw, h => ⟨h.1, hQ _ _ hw h.2⟩
  | fuel + 1, _, _, _, hw, h => ⟨fun h0 => hQ _ _ hw (h.1 h0), fun i hi => wpOpIn_of_qOpIn' (hnd i) hw (fun a' w' hw' => wpAnyIn_of_quiet' hnd hQ fuel _ a' w' hw') (h.2 i hi)⟩
theorem wpIn_region_quiet' {id : Nat} {Q : Exit → Act → World → Prop} {a : Act} {w : World} {l : List Oper} (hnd : noDefer l = true) (hm : P.follows .mixedOrders = true) (hB : Region.lexB .any l.toArray = true)
    (h : wpQuietIn F n P l.toArray (fun w' => ∃ n, w' = w.drewN n) (fun a' => ∀ w', (∃ n, w' = w.drewN n) → Q .normal a' w') l a) : (Code.region id l.toArray true).wpIn F n P Q a w := by
  simp only [Region.lexB, Bool.and_eq_true] at hB
  refine wpIn_region_any hm (wpAnyIn_of_quiet' (C := fun w' => ∃ n, w' = w.drewN n) (Q := fun a' => ∀ w', (∃ n, w' = w.drewN n) → Q .normal a' w') (fun i o hi c => noDefer_at (i := i) hnd (by simpa using hi) c) (fun _ w' hw' h => h w' hw') _ _ _ _ ⟨1, rfl⟩ ?_)
  have := wpAnyQIn_lex (F := F) (n := n) (C := fun w' => ∃ n, w' = w.drewN n) (md := .any) hB.1 l 0 (Array.replicate l.toArray.size false) a (by simp) (by simpa using hB.2) h
  simpa using this

/-- The last operation waits for all the others, none waits for it, each waits for earlier ones alone, and none is guarded. -/
def storeB (md : Region.Mode) (l : List Oper) (o : Oper) : Bool :=
  (List.range l.length).all (fun i => o.after.any fun e => Region.binds md e && e.on == i) &&
  (List.range l.length).all (fun i => match l[i]? with | some oi => oi.after.all (fun e => !Region.binds md e || decide (e.on < i)) && oi.guard.isNone | none => true) && o.guard.isNone &&
  o.after.all (fun e => !Region.binds md e || decide (e.on < l.length))

section
variable {l : List Oper} {o : Oper} {listed : Array Bool}
theorem storeB_at {md : Region.Mode} (h : storeB md l o = true) :
    (∀ i, i < l.length → ∃ e ∈ o.after, Region.binds md e = true ∧ e.on = i) ∧ (∀ i oi, l[i]? = some oi → (∀ e ∈ oi.after, Region.binds md e = true → e.on < i) ∧ oi.guard = none) ∧ o.guard = none ∧
    (∀ e ∈ o.after, Region.binds md e = true → e.on < l.length) := by
  simp only [storeB, Bool.and_eq_true] at h
  obtain ⟨⟨⟨h1, h2⟩, h3⟩, h4⟩ := h
  refine ⟨fun i hi => ?_, fun i oi ho => ?_, by simpa using h3, fun e he hb => ?_⟩
  · have := List.all_eq_true.1 h1 i (List.mem_range.2 hi)
    obtain ⟨e, he, hb⟩ := Array.any_eq_true'.1 this
    simp only [Bool.and_eq_true, beq_iff_eq] at hb
    exact ⟨e, he, hb⟩
  · have := List.all_eq_true.1 h2 i (List.mem_range.2 (List.getElem?_eq_some_iff.1 ho).1)
    simp only [ho, Bool.and_eq_true] at this
    refine ⟨fun e he hb => ?_, by simpa using this.2⟩
    have := (Array.all_eq_true_iff_forall_mem.1 this.1) e he
    simpa [hb] using this
  · have := (Array.all_eq_true_iff_forall_mem.1 h4) e he
    simpa [hb] using this
theorem push_getD {i : Nat} {d b : Bool} (hs : listed.size = l.length) (hi : i < l.length) : (listed.push b).getD i d = listed.getD i d := by
  simp only [Array.getD_eq_getD_getElem?, Array.getElem?_push]
  rw [if_neg (by omega)]
theorem getD_lt {i : Nat} {d e : Bool} (hs : listed.size = l.length) (hi : i < l.length) : listed.getD i d = listed.getD i e := by
  simp [Array.getD_eq_getD_getElem?, hs, hi]
theorem ready_head {md : Region.Mode} (hB : storeB md l o = true) (hs : listed.size = l.length) {i : Nat} (hi : i < l.length) :
    i ∈ Region.ready md (l ++ [o]).toArray (listed.push false) ↔ i ∈ Region.ready md l.toArray listed := by
  obtain ⟨_, h2, _⟩ := storeB_at hB
  rw [mem_ready, mem_ready, push_getD hs hi]
  have e : (l ++ [o]).toArray[i]? = l.toArray[i]? := by simp [List.getElem?_append_left hi]
  rw [e]
  constructor
  · rintro ⟨h0, oi, ho, ha⟩
    exact ⟨h0, oi, ho, fun e he hb => by rw [← ha e he hb, push_getD hs (Nat.lt_trans ((h2 i oi (by simpa using ho)).1 e he hb) hi)]⟩
  · rintro ⟨h0, oi, ho, ha⟩
    exact ⟨h0, oi, ho, fun e he hb => by rw [← ha e he hb, push_getD hs (Nat.lt_trans ((h2 i oi (by simpa using ho)).1 e he hb) hi)]⟩
/-- Where none may come up, all have. -/
theorem all_listed {md : Region.Mode} (hB : storeB md l o = true) (hs : listed.size = l.length) (hr : Region.ready md l.toArray listed = []) : ∀ i, i < l.length → listed.getD i false = true := by
  obtain ⟨_, h2, _⟩ := storeB_at hB
  intro i
  induction i using Nat.strongRecOn with
  | _ i ih =>
    intro hi
    cases hl : listed.getD i false with
    | true => rfl
    | false =>
      exfalso
      have hm : i ∈ Region.ready md l.toArray listed := by
        rw [mem_ready]
        obtain ⟨oi, ho⟩ : ∃ oi, l[i]? = some oi := ⟨l[i], List.getElem?_eq_getElem hi⟩
        refine ⟨by rw [getD_lt (e := false) hs hi]; exact hl, oi, by simpa using ho, fun e he hb => ?_⟩
        have := (h2 i oi ho).1 e he hb
        exact ih e.on this (by omega)
      rw [hr] at hm
      cases hm
theorem ready_last {md : Region.Mode} (hB : storeB md l o = true) (hs : listed.size = l.length) : l.length ∈ Region.ready md (l ++ [o]).toArray (listed.push false) ↔ Region.ready md l.toArray listed = [] := by
  obtain ⟨h1, h2, h3, h4⟩ := storeB_at hB
  rw [mem_ready]
  have e : (l ++ [o]).toArray[l.length]? = some o := by simp
  rw [e]
  constructor
  · rintro ⟨_, o', ho, ha⟩
    cases ho
    rw [List.eq_nil_iff_forall_not_mem]
    intro i hi
    have hil : i < l.length := by
      have := (mem_ready.1 hi).2
      obtain ⟨oi, ho, _⟩ := this
      exact (List.getElem?_eq_some_iff.1 (show l[i]? = some oi by simpa using ho)).1
    obtain ⟨e, he, hb, hon⟩ := h1 i hil
    have := ha e he hb
    rw [hon, push_getD hs hil] at this
    have h0 := (mem_ready.1 hi).1
    rw [getD_lt (e := false) hs hil, this] at h0
    cases h0
  · intro hr
    have hz : (listed.push false)[l.length]? = some false := by rw [← hs]; simp
    refine ⟨by rw [Array.getD_eq_getD_getElem?, hz]; rfl, o, rfl, fun e he hb => ?_⟩
    have := h4 e he hb
    rw [push_getD hs this]
    exact all_listed hB hs hr _ this
end
theorem wpAnyIn_store {l : List Oper} {o : Oper} {Qq : Act → Prop} {Q' : Exit → Act → World → Prop} (hB : storeB md l o = true) (hnd : ∀ (i : Nat) (oi : Oper), l[i]? = some oi → ∀ c, oi.op ≠ .defer c)
    (hR : ∀ a w, C w → Qq a → o.wpIn F n P a w (fun a' w' => Q' .normal a' w') Q') :
    ∀ (fuel : Nat) (listed : Array Bool) (a : Act) (w : World), listed.size = l.length → C w → wpAnyQIn F n P md l.toArray C Qq fuel listed a → wpAnyIn F n P md (l ++ [o]).toArray Q' (fuel + 1) (listed.push false) a w := by
  obtain ⟨h1, h2, h3, h4⟩ := storeB_at hB
  have elast : (l ++ [o]).toArray[l.length]? = some o := by simp
  have last : ∀ (fuel : Nat) (listed : Array Bool) (a : Act) (w : World), listed.size = l.length → C w → Region.ready md l.toArray listed = [] → Qq a →
      wpOpIn F n P (l ++ [o]).toArray Q' l.length (wpAnyIn F n P md (l ++ [o]).toArray Q' fuel ((listed.push false).setIfInBounds l.length true)) a w := by
    intro fuel listed a w hs hw hr hq
    unfold wpOpIn
    rw [elast]
    simp only []
    rw [if_pos (by simp [Region.wanted, h3])]
    refine Oper.wpIn_mono (fun a' w' hh => ?_) (hR a w hw hq)
    have hempty : Region.ready md (l ++ [o]).toArray ((listed.push false).setIfInBounds l.length true) = [] := by
      rw [List.eq_nil_iff_forall_not_mem]
      intro i hi
      obtain ⟨h0, oi, ho, _⟩ := mem_ready.1 hi
      have hil : i < (l ++ [o]).length := (List.getElem?_eq_some_iff.1 (show (l ++ [o])[i]? = some oi by simpa using ho)).1
      rw [List.length_append, List.length_singleton] at hil
      by_cases hii : i = l.length
      · subst hii
        simp [Array.getD_eq_getD_getElem?, hs] at h0
      · have hil2 : i < l.length := by omega
        rw [getD_set_ne true (by omega), push_getD hs hil2, getD_lt (e := false) hs hil2, all_listed hB hs hr i hil2] at h0
        cases h0
    cases fuel with
    | zero => exact ⟨hempty, hh⟩
    | succ f => exact ⟨fun _ => hh, fun i hi => by rw [hempty] at hi; cases hi⟩
  intro fuel
  induction fuel with
  | zero =>
    intro listed a w hs hw h
    obtain ⟨hr, hq⟩ := h
    have hl := (ready_last hB hs).2 hr
    refine ⟨fun h0 => (by rw [h0] at hl; cases hl), fun i hi => ?_⟩
    by_cases hii : i = l.length
    · subst hii; exact last 0 listed a w hs hw hr hq
    · exfalso
      obtain ⟨_, oi, ho, _⟩ := mem_ready.1 hi
      have hil : i < (l ++ [o]).length := (List.getElem?_eq_some_iff.1 (show (l ++ [o])[i]? = some oi by simpa using ho)).1
      rw [List.length_append, List.length_singleton] at hil
      have := (ready_head hB hs (by omega)).1 hi
      rw [hr] at this
      cases this
  | succ fuel ih =>
    intro listed a w hs hw h
    obtain ⟨h0, hstep⟩ := h
    refine ⟨fun he => ?_, fun i hi => ?_⟩
    · exfalso
      have hr : Region.ready md l.toArray listed = [] := by
        rw [List.eq_nil_iff_forall_not_mem]
        intro i hi
        obtain ⟨_, oi, ho, _⟩ := mem_ready.1 hi
        have hil : i < l.length := (List.getElem?_eq_some_iff.1 (show l[i]? = some oi by simpa using ho)).1
        have := (ready_head hB hs hil).2 hi
        rw [he] at this
        cases this
      have hl := (ready_last hB hs).2 hr
      rw [he] at hl
      cases hl
    · by_cases hii : i = l.length
      · subst hii
        have hr := (ready_last hB hs).1 hi
        exact last _ listed a w hs hw hr (h0 hr)
      · obtain ⟨_, oi, ho, _⟩ := mem_ready.1 hi
        have hil : i < (l ++ [o]).length := (List.getElem?_eq_some_iff.1 (show (l ++ [o])[i]? = some oi by simpa using ho)).1
        rw [List.length_append, List.length_singleton] at hil
        have hil2 : i < l.length := by omega
        have hi2 := (ready_head hB hs hil2).1 hi
        have hq := hstep i hi2
        have ho2 : l.toArray[i]? = some oi := by
          have : (l ++ [o])[i]? = some oi := by simpa using ho
          rw [List.getElem?_append_left hil2] at this
          simpa using this
        have hg := (h2 i oi (by simpa using ho2)).2
        unfold qOpIn at hq
        unfold wpOpIn
        rw [ho]
        simp only [ho2] at hq ⊢
        obtain ⟨ha, hq⟩ := hq
        have hw1 : ∀ ys, Region.wanted oi ys = true := fun ys => by simp [Region.wanted, hg]
        rw [if_pos (hw1 _)] at hq ⊢
        refine wpIn_of_quiet' (hnd i oi (by simpa using ho2)) hw (fun a' w' hw' hk => ?_) ha hq
        have e : (listed.push false).setIfInBounds i true = (listed.setIfInBounds i true).push false := by
          apply Array.ext_getElem?
          intro j
          simp only [Array.getElem?_setIfInBounds, Array.getElem?_push, Array.size_push, Array.size_setIfInBounds]
          by_cases hj : i = j
          · subst hj
            rw [if_pos rfl, if_pos (by omega), if_neg (by omega), if_pos rfl, if_pos (by omega)]
          · rw [if_neg hj, if_neg hj]
        rw [e]
        exact ih _ a' w' (by simp [hs]) hw' hk
theorem wpIn_region_store {id : Nat} {Q : Exit → Act → World → Prop} {a : Act} {w : World} {ops : Array Oper} (l : List Oper) (o : Oper) (hops : ops = (l ++ [o]).toArray) (hnd : noDefer l = true) (hm : P.follows .mixedOrders = true) (hB : Region.lexB .any l.toArray = true) (hS : storeB .any l o = true)
    (hC : C w.drew)
    (h : wpQuietIn F n P l.toArray C (fun a' => ∀ w', C w' → o.wpIn F n P a' w' (fun a'' w'' => Q .normal a'' w'') Q) l a) : (Code.region id ops true).wpIn F n P Q a w := by
  subst hops
  simp only [Region.lexB, Bool.and_eq_true] at hB
  refine wpIn_region_any hm ?_
  have hq := wpAnyQIn_lex (F := F) (n := n) (C := C) (md := .any) hB.1 l 0 (Array.replicate l.toArray.size false) a (by simp) (by simpa using hB.2) h
  have := wpAnyIn_store (F := F) (n := n) (P := P) (C := C) (md := .any) (o := o) (Q' := Q) hS (fun i oi hi c => noDefer_at (i := i) hnd hi c) (fun a' w' hw' hk => hk w' hw') l.length (Array.replicate l.toArray.size false) a w.drew (by simp) hC hq
  have e : Array.replicate (l ++ [o]).toArray.size false = (Array.replicate l.toArray.size false).push false := by simp [Array.replicate_succ]
  rw [e, show (l ++ [o]).toArray.size = l.length + 1 by simp]
  exact this
theorem wpIn_region_storeL {id : Nat} {Q : Exit → Act → World → Prop} {a : Act} {w : World} {L : List Oper} {C : World → Prop} (k : Nat) (o : Oper) (hL : L.length = k + 1) (ho : L[k]? = some o) (hnd : noDefer (L.take k) = true) (hm : P.follows .mixedOrders = true) (hB : Region.lexB .any (L.take k).toArray = true)
    (hS : storeB .any (L.take k) o = true) (hC : C w.drew)
    (h : wpQuietIn F n P (L.take k).toArray C (fun a' => ∀ w', C w' → o.wpIn F n P a' w' (fun a'' w'' => Q .normal a'' w'') Q) (L.take k) a) : (Code.region id L.toArray true).wpIn F n P Q a w := by
  refine wpIn_region_store (L.take k) o ?_ hnd hm hB hS hC h
  congr 1
  obtain ⟨hk, rfl⟩ := List.getElem?_eq_some_iff.1 ho
  rw [← List.take_succ_eq_append_getElem hk, ← hL, List.take_length]
theorem wpQuietIn_go {Q : Act → Prop} {C : World → Prop} {o : Oper} {rest : List Oper} {a a' : Act} {N : Option Tmp} {v : Value} (hg : o.guard = none) (hF : ∀ f, F.fn f) (h1 : ∀ w', C w' → o.quietAtIn F n P a C w' v) (hN : o.dst = N) (ha : a.put N v = a')
    (h2 : wpQuietIn F n P ops C Q rest a') : wpQuietIn F n P ops C Q (o :: rest) a := by
  refine ⟨fun w _ f _ => hF f, ?_⟩
  rw [if_pos (by simp [Region.wanted, hg])]
  exact ⟨v, h1, by rw [hN, ha]; exact h2⟩
theorem qval {C : World → Prop} {o : Oper} {a : Act} {v : Value} {w : World} (h : (execOp a.eval o).run P w = .ok (.value v) w) : o.quietAtIn F n P a C w v := by
  unfold Oper.quietAtIn; rw [h]; exact ⟨rfl, rfl⟩
theorem qcall {C : World → Prop} {o : Oper} {a : Act} {v : Value} {w : World} (f : FuncId) (args : Array Value) (h : (execOp a.eval o).run P w = .ok (.enter f args) w) (hd : F.depth.isSome = true → 1 ≤ n)
    (hc : CallsIn F (n - 1) P f args w fun e w'' => e = .returned v ∧ C w'') : o.quietAtIn F n P a C w v := by
  unfold Oper.quietAtIn; rw [h]; exact ⟨rfl, hd, hc⟩
theorem wpIn_skip {K : Act → World → Prop} {Q : Exit → Act → World → Prop} {o : Oper} {a : Act} {w w1 : World} (hnd : ∀ c, o.op ≠ .defer c) (hF : ∀ f, F.fn f) (hN : o.dst = none) (h : (execOp a.eval o).run P w = .ok .skip w1) (hk : K a w1) : o.wpIn F n P a w K Q := by
  unfold Oper.wpIn
  refine ⟨fun f _ => hF f, ?_⟩
  rw [Oper.semAt_plain F _ _ hnd, h]
  show K (a.put o.dst undef) w1
  rw [hN]
  exact hk
end
end Go.Proofs.YtoeibcdnhglobaaDoor
