/- A region that draws its order, in a round of a loop over an iterator: quiet but for a last store that waits for the others, be it by one between. -/
import Derived.Test.YtoeibcdnhglobaaDoorGRound
namespace Go.Proofs.YtoeibcdnhglobaaDoor
set_option linter.unusedVariables false
set_option linter.unusedSimpArgs false
open Go
section
variable {F : Fence} {n : Nat} {P : Program} {ops : Array Oper} {md : Region.Mode} {C : World → Prop}
/-- The last operation waits for all the others, be it by one between, none waits for it, each waits for earlier ones alone, and none is guarded. -/
def storeT (md : Region.Mode) (l : List Oper) (o : Oper) : Bool :=
  (List.range l.length).all (fun i => (o.after.any fun e => Region.binds md e && e.on == i) || (List.range l.length).any fun j => (o.after.any fun e => Region.binds md e && e.on == j) && (match l[j]? with | some oj => oj.after.any (fun e => Region.binds md e && e.on == i) | none => false)) &&
  (List.range l.length).all (fun i => match l[i]? with | some oi => oi.after.all (fun e => !Region.binds md e || decide (e.on < i)) && oi.guard.isNone | none => true) && o.guard.isNone &&
  o.after.all (fun e => !Region.binds md e || decide (e.on < l.length))

/-- Whatever is done, what it waits for is done. -/
def ClosedT (md : Region.Mode) (l : List Oper) (listed : Array Bool) : Prop := ∀ i oi, l[i]? = some oi → listed.getD i false = true → ∀ e ∈ oi.after, Region.binds md e = true → listed.getD e.on false = true
section
variable {l : List Oper} {o : Oper} {listed : Array Bool}
theorem storeT_at {md : Region.Mode} (h : storeT md l o = true) :
    (∀ i, i < l.length → (∃ e ∈ o.after, Region.binds md e = true ∧ e.on = i) ∨ ∃ j oj, l[j]? = some oj ∧ (∃ e ∈ o.after, Region.binds md e = true ∧ e.on = j) ∧ ∃ e ∈ oj.after, Region.binds md e = true ∧ e.on = i) ∧ (∀ i oi, l[i]? = some oi → (∀ e ∈ oi.after, Region.binds md e = true → e.on < i) ∧ oi.guard = none) ∧ o.guard = none ∧
    (∀ e ∈ o.after, Region.binds md e = true → e.on < l.length) := by
  simp only [storeT, Bool.and_eq_true] at h
  obtain ⟨⟨⟨h1, h2⟩, h3⟩, h4⟩ := h
  refine ⟨fun i hi => ?_, fun i oi ho => ?_, by simpa using h3, fun e he hb => ?_⟩
  · have := List.all_eq_true.1 h1 i (List.mem_range.2 hi)
    rw [Bool.or_eq_true] at this
    rcases this with this | this
    · obtain ⟨e, he, hb⟩ := Array.any_eq_true'.1 this
      simp only [Bool.and_eq_true, beq_iff_eq] at hb
      exact .inl ⟨e, he, hb⟩
    · obtain ⟨j, _, hj⟩ := List.any_eq_true.1 this
      rw [Bool.and_eq_true] at hj
      obtain ⟨hj1, hj2⟩ := hj
      obtain ⟨e, he, hb⟩ := Array.any_eq_true'.1 hj1
      simp only [Bool.and_eq_true, beq_iff_eq] at hb
      cases hoj : l[j]? with
      | none => simp [hoj] at hj2
      | some oj =>
        simp only [hoj] at hj2
        obtain ⟨e2, he2, hb2⟩ := Array.any_eq_true'.1 hj2
        simp only [Bool.and_eq_true, beq_iff_eq] at hb2
        exact .inr ⟨j, oj, hoj, ⟨e, he, hb⟩, ⟨e2, he2, hb2⟩⟩
  · have := List.all_eq_true.1 h2 i (List.mem_range.2 (List.getElem?_eq_some_iff.1 ho).1)
    simp only [ho, Bool.and_eq_true] at this
    refine ⟨fun e he hb => ?_, by simpa using this.2⟩
    have := (Array.all_eq_true_iff_forall_mem.1 this.1) e he
    simpa [hb] using this
  · have := (Array.all_eq_true_iff_forall_mem.1 h4) e he
    simpa [hb] using this
theorem push_getDT {i : Nat} {d b : Bool} (hs : listed.size = l.length) (hi : i < l.length) : (listed.push b).getD i d = listed.getD i d := by
  simp only [Array.getD_eq_getD_getElem?, Array.getElem?_push]
  rw [if_neg (by omega)]
theorem getD_ltT {i : Nat} {d e : Bool} (hs : listed.size = l.length) (hi : i < l.length) : listed.getD i d = listed.getD i e := by
  simp [Array.getD_eq_getD_getElem?, hs, hi]
theorem ready_headT {md : Region.Mode} (hB : storeT md l o = true) (hs : listed.size = l.length) {i : Nat} (hi : i < l.length) :
    i ∈ Region.ready md (l ++ [o]).toArray (listed.push false) ↔ i ∈ Region.ready md l.toArray listed := by
  obtain ⟨_, h2, _⟩ := storeT_at hB
  rw [mem_ready, mem_ready, push_getDT hs hi]
  have e : (l ++ [o]).toArray[i]? = l.toArray[i]? := by simp [List.getElem?_append_left hi]
  rw [e]
  constructor
  · rintro ⟨h0, oi, ho, ha⟩
    exact ⟨h0, oi, ho, fun e he hb => by rw [← ha e he hb, push_getDT hs (Nat.lt_trans ((h2 i oi (by simpa using ho)).1 e he hb) hi)]⟩
  · rintro ⟨h0, oi, ho, ha⟩
    exact ⟨h0, oi, ho, fun e he hb => by rw [← ha e he hb, push_getDT hs (Nat.lt_trans ((h2 i oi (by simpa using ho)).1 e he hb) hi)]⟩
/-- Where none may come up, all have. -/
theorem all_listedT {md : Region.Mode} (hB : storeT md l o = true) (hs : listed.size = l.length) (hr : Region.ready md l.toArray listed = []) : ∀ i, i < l.length → listed.getD i false = true := by
  obtain ⟨_, h2, _⟩ := storeT_at hB
  intro i
  induction i using Nat.strongRecOn with
  | _ i ih =>
    intro hi
    cases hl : listed.getD i false with
    | true => rfl
    | false =>
      exfalso
      have hm : i ∈ Region.ready md l.toArray listed := by
        rw [mem_ready]
        obtain ⟨oi, ho⟩ : ∃ oi, l[i]? = some oi := ⟨l[i], List.getElem?_eq_getElem hi⟩
        refine ⟨by rw [getD_ltT (e := false) hs hi]; exact hl, oi, by simpa using ho, fun e he hb => ?_⟩
        have := (h2 i oi ho).1 e he hb
        exact ih e.on this (by omega)
      rw [hr] at hm
      cases hm
theorem ready_lastT {md : Region.Mode} (hB : storeT md l o = true) (hs : listed.size = l.length) (hcl : ClosedT md l listed) : l.length ∈ Region.ready md (l ++ [o]).toArray (listed.push false) ↔ Region.ready md l.toArray listed = [] := by
  obtain ⟨h1, h2, h3, h4⟩ := storeT_at hB
  rw [mem_ready]
  have e : (l ++ [o]).toArray[l.length]? = some o := by simp
  rw [e]
  constructor
  · rintro ⟨_, o', ho, ha⟩
    cases ho
    rw [List.eq_nil_iff_forall_not_mem]
    intro i hi
    have hil : i < l.length := by
      have := (mem_ready.1 hi).2
      obtain ⟨oi, ho, _⟩ := this
      exact (List.getElem?_eq_some_iff.1 (show l[i]? = some oi by simpa using ho)).1
    have h0 := (mem_ready.1 hi).1
    rcases h1 i hil with ⟨e, he, hb, hon⟩ | ⟨j, oj, hoj, ⟨e, he, hb, hon⟩, ⟨e2, he2, hb2, hon2⟩⟩
    · have := ha e he hb
      rw [hon, push_getDT hs hil] at this
      rw [getD_ltT (e := false) hs hil, this] at h0
      cases h0
    · have hjl := (List.getElem?_eq_some_iff.1 hoj).1
      have := ha e he hb
      rw [hon, push_getDT hs hjl] at this
      have h5 := hcl j oj hoj this e2 he2 hb2
      rw [hon2] at h5
      rw [getD_ltT (e := false) hs hil, h5] at h0
      cases h0
  · intro hr
    have hz : (listed.push false)[l.length]? = some false := by rw [← hs]; simp
    refine ⟨by rw [Array.getD_eq_getD_getElem?, hz]; rfl, o, rfl, fun e he hb => ?_⟩
    have := h4 e he hb
    rw [push_getDT hs this]
    exact all_listedT hB hs hr _ this
end
theorem ClosedT.none {md : Region.Mode} {l : List Oper} (k : Nat) : ClosedT md l (Array.replicate k false) := fun i oi _ h => by
  exfalso
  rw [Array.getD_eq_getD_getElem?, Array.getElem?_replicate] at h
  split at h <;> simp at h
theorem ClosedT.step {md : Region.Mode} {l : List Oper} {listed : Array Bool} {i : Nat} {oi : Oper} (hcl : ClosedT md l listed) (hs : listed.size = l.length) (hi : i < l.length) (ho : l[i]? = some oi)
    (hr : listed.getD i true = false ∧ ∃ oi, l.toArray[i]? = some oi ∧ ∀ e ∈ oi.after, Region.binds md e = true → listed.getD e.on false = true) : ClosedT md l (listed.setIfInBounds i true) := by
  have keep : ∀ k, listed.getD k false = true → (listed.setIfInBounds i true).getD k false = true := by
    intro k hk
    by_cases hki : k = i
    · subst hki; simp [Array.getD_eq_getD_getElem?, hs, hi]
    · rw [getD_set_ne false (by omega)]; exact hk
  intro j oj hoj hj e he hb
  obtain ⟨_, oi', ho', ha⟩ := hr
  by_cases hji : j = i
  · subst hji
    have : oi' = oj := by
      have h2 : l[j]? = some oi' := by simpa using ho'
      rw [h2] at hoj; exact Option.some.inj hoj
    subst this
    exact keep _ (ha e he hb)
  · rw [getD_set_ne false (by omega)] at hj
    exact keep _ (hcl j oj hoj hj e he hb)
theorem wpAnyIn_storeT {l : List Oper} {o : Oper} {Qq : Act → Prop} {Q' : Exit → Act → World → Prop} (hB : storeT md l o = true) (hnd : ∀ (i : Nat) (oi : Oper), l[i]? = some oi → ∀ c, oi.op ≠ .defer c)
    (hR : ∀ a w, C w → Qq a → o.wpIn F n P a w (fun a' w' => Q' .normal a' w') Q') :
    ∀ (fuel : Nat) (listed : Array Bool) (a : Act) (w : World), listed.size = l.length → ClosedT md l listed → C w → wpAnyQIn F n P md l.toArray C Qq fuel listed a → wpAnyIn F n P md (l ++ [o]).toArray Q' (fuel + 1) (listed.push false) a w := by
  obtain ⟨h1, h2, h3, h4⟩ := storeT_at hB
  have elast : (l ++ [o]).toArray[l.length]? = some o := by simp
  have last : ∀ (fuel : Nat) (listed : Array Bool) (a : Act) (w : World), listed.size = l.length → C w → Region.ready md l.toArray listed = [] → Qq a →
      wpOpIn F n P (l ++ [o]).toArray Q' l.length (wpAnyIn F n P md (l ++ [o]).toArray Q' fuel ((listed.push false).setIfInBounds l.length true)) a w := by
    intro fuel listed a w hs hw hr hq
    unfold wpOpIn
    rw [elast]
    simp only []
    rw [if_pos (by simp [Region.wanted, h3])]
    refine Oper.wpIn_mono (fun a' w' hh => ?_) (hR a w hw hq)
    have hempty : Region.ready md (l ++ [o]).toArray ((listed.push false).setIfInBounds l.length true) = [] := by
      rw [List.eq_nil_iff_forall_not_mem]
      intro i hi
      obtain ⟨h0, oi, ho, _⟩ := mem_ready.1 hi
      have hil : i < (l ++ [o]).length := (List.getElem?_eq_some_iff.1 (show (l ++ [o])[i]? = some oi by simpa using ho)).1
      rw [List.length_append, List.length_singleton] at hil
      by_cases hii : i = l.length
      · subst hii
        simp [Array.getD_eq_getD_getElem?, hs] at h0
      · have hil2 : i < l.length := by omega
        rw [getD_set_ne true (by omega), push_getDT hs hil2, getD_ltT (e := false) hs hil2, all_listedT hB hs hr i hil2] at h0
        cases h0
    cases fuel with
    | zero => exact ⟨hempty, hh⟩
    | succ f => exact ⟨fun _ => hh, fun i hi => by rw [hempty] at hi; cases hi⟩
  intro fuel
  induction fuel with
  | zero =>
    intro listed a w hs hcl hw h
    obtain ⟨hr, hq⟩ := h
    have hl := (ready_lastT hB hs hcl).2 hr
    refine ⟨fun h0 => (by rw [h0] at hl; cases hl), fun i hi => ?_⟩
    by_cases hii : i = l.length
    · subst hii; exact last 0 listed a w hs hw hr hq
    · exfalso
      obtain ⟨_, oi, ho, _⟩ := mem_ready.1 hi
      have hil : i < (l ++ [o]).length := (List.getElem?_eq_some_iff.1 (show (l ++ [o])[i]? = some oi by simpa using ho)).1
      rw [List.length_append, List.length_singleton] at hil
      have := (ready_headT hB hs (by omega)).1 hi
      rw [hr] at this
      cases this
  | succ fuel ih =>
    intro listed a w hs hcl hw h
    obtain ⟨h0, hstep⟩ := h
    refine ⟨fun he => ?_, fun i hi => ?_⟩
    · exfalso
      have hr : Region.ready md l.toArray listed = [] := by
        rw [List.eq_nil_iff_forall_not_mem]
        intro i hi
        obtain ⟨_, oi, ho, _⟩ := mem_ready.1 hi
        have hil : i < l.length := (List.getElem?_eq_some_iff.1 (show l[i]? = some oi by simpa using ho)).1
        have := (ready_headT hB hs hil).2 hi
        rw [he] at this
        cases this
      have hl := (ready_lastT hB hs hcl).2 hr
      rw [he] at hl
      cases hl
    · by_cases hii : i = l.length
      · subst hii
        have hr := (ready_lastT hB hs hcl).1 hi
        exact last _ listed a w hs hw hr (h0 hr)
      · obtain ⟨_, oi, ho, _⟩ := mem_ready.1 hi
        have hil : i < (l ++ [o]).length := (List.getElem?_eq_some_iff.1 (show (l ++ [o])[i]? = some oi by simpa using ho)).1
        rw [List.length_append, List.length_singleton] at hil
        have hil2 : i < l.length := by omega
        have hi2 := (ready_headT hB hs hil2).1 hi
        have hq := hstep i hi2
        have ho2 : l.toArray[i]? = some oi := by
          have : (l ++ [o])[i]? = some oi := by simpa using ho
          rw [List.getElem?_append_left hil2] at this
          simpa using this
        have hg := (h2 i oi (by simpa using ho2)).2
        unfold qOpIn at hq
        unfold wpOpIn
        rw [ho]
        simp only [ho2] at hq ⊢
        obtain ⟨ha, hq⟩ := hq
        have hw1 : ∀ ys, Region.wanted oi ys = true := fun ys => by simp [Region.wanted, hg]
        rw [if_pos (hw1 _)] at hq ⊢
        refine wpIn_of_quiet' (hnd i oi (by simpa using ho2)) hw (fun a' w' hw' hk => ?_) ha hq
        have e : (listed.push false).setIfInBounds i true = (listed.setIfInBounds i true).push false := by
          apply Array.ext_getElem?
          intro j
          simp only [Array.getElem?_setIfInBounds, Array.getElem?_push, Array.size_push, Array.size_setIfInBounds]
          by_cases hj : i = j
          · subst hj
            rw [if_pos rfl, if_pos (by omega), if_neg (by omega), if_pos rfl, if_pos (by omega)]
          · rw [if_neg hj, if_neg hj]
        rw [e]
        exact ih _ a' w' (by simp [hs]) (ClosedT.step hcl hs hil2 (by simpa using ho2) (mem_ready.1 hi2)) hw' hk
theorem wpIn_region_storeT {id : Nat} {Q : Exit → Act → World → Prop} {a : Act} {w : World} {ops : Array Oper} (l : List Oper) (o : Oper) (hops : ops = (l ++ [o]).toArray) (hnd : noDefer l = true) (hm : P.follows .mixedOrders = true) (hB : Region.lexB .any l.toArray = true) (hS : storeT .any l o = true)
    (hC : C w.drew)
    (h : wpQuietIn F n P l.toArray C (fun a' => ∀ w', C w' → o.wpIn F n P a' w' (fun a'' w'' => Q .normal a'' w'') Q) l a) : (Code.region id ops true).wpIn F n P Q a w := by
  subst hops
  simp only [Region.lexB, Bool.and_eq_true] at hB
  refine wpIn_region_any hm ?_
  have hq := wpAnyQIn_lex (F := F) (n := n) (C := C) (md := .any) hB.1 l 0 (Array.replicate l.toArray.size false) a (by simp) (by simpa using hB.2) h
  have := wpAnyIn_storeT (F := F) (n := n) (P := P) (C := C) (md := .any) (o := o) (Q' := Q) hS (fun i oi hi c => noDefer_at (i := i) hnd hi c) (fun a' w' hw' hk => hk w' hw') l.length (Array.replicate l.toArray.size false) a w.drew (by simp) (ClosedT.none _) hC hq
  have e : Array.replicate (l ++ [o]).toArray.size false = (Array.replicate l.toArray.size false).push false := by simp [Array.replicate_succ]
  rw [e, show (l ++ [o]).toArray.size = l.length + 1 by simp]
  exact this
theorem wpIn_region_storeTL {id : Nat} {Q : Exit → Act → World → Prop} {a : Act} {w : World} {L : List Oper} {C : World → Prop} (k : Nat) (o : Oper) (hL : L.length = k + 1) (ho : L[k]? = some o) (hnd : noDefer (L.take k) = true) (hm : P.follows .mixedOrders = true) (hB : Region.lexB .any (L.take k).toArray = true)
    (hS : storeT .any (L.take k) o = true) (hC : C w.drew)
    (h : wpQuietIn F n P (L.take k).toArray C (fun a' => ∀ w', C w' → o.wpIn F n P a' w' (fun a'' w'' => Q .normal a'' w'') Q) (L.take k) a) : (Code.region id L.toArray true).wpIn F n P Q a w := by
  refine wpIn_region_storeT (L.take k) o ?_ hnd hm hB hS hC h
  congr 1
  obtain ⟨hk, rfl⟩ := List.getElem?_eq_some_iff.1 ho
  rw [← List.take_succ_eq_append_getElem hk, ← hL, List.take_length]
end
end Go.Proofs.YtoeibcdnhglobaaDoor
