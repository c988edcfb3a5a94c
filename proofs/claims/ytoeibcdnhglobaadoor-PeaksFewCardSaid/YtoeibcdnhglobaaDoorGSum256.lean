/- digest.Sum256: the walk. -/
import Derived.Test.YtoeibcdnhglobaaDoorGSum
namespace Go.Proofs.YtoeibcdnhglobaaDoor.P
set_option linter.unusedVariables false
set_option linter.unusedSimpArgs false
open Go.RowKit Go.Shelf Go.Proofs.YtoeibcdnhglobaaDoorW.PrintWords Go.Proofs.YtoeibcdnhglobaaDoorW.PrintLast Go.Proofs.YtoeibcdnhglobaaDoorW.PrintMore
open Go.Proofs.YtoeibcdnhglobaaDoor.Pure

/-- A part that is handed in: a slice of bytes, and what it holds. -/
structure Part where
  A : Option Addr
  c : Nat
  d : List Int
/-- The bytes of all parts. -/
def allB (ps : List Part) : List Int := (ps.map Part.d).flatten
theorem allB_take (ps : List Part) (j : Nat) (h : j < ps.length) : allB (ps.take (j + 1)) = allB (ps.take j) ++ ps[j].d := by
  unfold allB
  rw [List.take_succ_eq_append_getElem h, List.map_append, List.flatten_append]
  simp
theorem allB_len (ps : List Part) (j : Nat) : (allB (ps.take j)).length ≤ (allB ps).length := by
  have : allB ps = allB (ps.take j) ++ allB (ps.drop j) := by unfold allB; rw [← List.flatten_append, ← List.map_append, List.take_append_drop]
  rw [this, List.length_append]; omega
/-- The parts lie in memory: a row of slices, each read. -/
structure Parts (w : World) (A : Option Addr) (ps : List Part) : Prop where
  at_ : ∀ j (h : j < ps.length), ∃ ad, A = some ad ∧ w.cell? (ad.add j) = some (.slice ps[j].A ps[j].d.length ps[j].c)
  rd : ∀ p ∈ ps, ReadsInt w .u8 p.A p.d.length p.d
  ok : ∀ x ∈ allB ps, 0 ≤ x ∧ x < 256
  lt : (allB ps).length < 1099511627776
set_option maxRecDepth 100000 in
set_option maxHeartbeats 4000000 in
theorem Sum256_calls (w : World) (A : Option Addr) (c : Nat) (ps : List Part) (h : Parts w A ps) (hps : ps.length < 1099511627776) (hK : KTab w) (hB : BTab w) :
    Calls Tryd.prog 86 #[.slice A ps.length c] w fun e w' => ∃ v', e = .returned v' ∧ OwnB w' w.heap.size v' (shaN (allB ps)) ∧ Below w.heap.size w w' := by
  obtain ⟨n0, hn0⟩ : ∃ n0, w.heap.size = n0 := ⟨_, rfl⟩
  have hN := HNew_calls w hB
  have hK3 := hK.lt
  rw [hn0] at hN hK3
  have HP := Lib.hid h
  have HPS := Lib.hid hps
  have HK := Lib.hid hK
  have HN := Lib.hid hn0
  clear h hps hK hB
  go_enter Tryd.func86, Tryd.ntmps86
  go_wp2_with (go_at_call 112; with_reducible refine hN.mono ?_; rintro e w1 ⟨rfl, hH1, hB1⟩; have HH1 := Lib.hid hH1; have HB1 := Lib.hid hB1; clear hH1 hB1)
  go_loopw [9] (fun v9 wr => ∃ (j : Nat) (v : Value), v9 = .int .i64 j ∧ j ≤ ps.length ∧ Dig wr n0 (allB (ps.take j)) v ∧ Below n0 w wr ∧ (∀ g, v.ownBlock = some g → n0 ≤ g)) (fun v9 _ => ps.length - (intOf v9).toNat)
  case atStart => exact ⟨0, .slice none 0 0, rfl, by omega, ⟨by simpa [allB, runB] using HH1.out, (by simp [allB]; exact own_nil w1 0 5 1)⟩, HB1.out, fun g e => by cases e⟩
  case round =>
    obtain ⟨j, v, rfl, hj, hD, hbel, hvo⟩ := hrel
    by_cases hlt : j < ps.length
    · have hd : decide ((j : Int) < (ps.length : Int)) = true := decide_eq_true (by omega)
      have hd2 : (j : Int) < (ps.length : Int) := by omega
      have hd3 : (j : Int) < 1099511627776 := by have := HPS.out; omega
      obtain ⟨ad, rfl, hcell⟩ := HP.out.at_ j hlt
      have hlad := World.block_lt_of_cell? _ _ hcell
      have hcw := (hbel.cell (by rw [← HN.out]; exact hlad)).trans hcell
      have hrd : ReadsInt wr .u8 ps[j].A ps[j].d.length ps[j].d := (HP.out.rd _ (List.getElem_mem hlt)).below (HN.out ▸ hbel)
      have htk := allB_take ps j hlt
      have hl1 := allB_len ps (j + 1)
      have hok : ∀ x ∈ allB (ps.take j) ++ ps[j].d, 0 ≤ x ∧ x < 256 := fun x hx => HP.out.ok x (by
        rw [← htk] at hx
        unfold allB at hx ⊢
        obtain ⟨y, hy, hx⟩ := List.mem_flatten.1 hx
        obtain ⟨p, hp, rfl⟩ := List.mem_map.1 hy
        exact List.mem_flatten.2 ⟨_, List.mem_map.2 ⟨p, List.mem_of_mem_take hp, rfl⟩, hx⟩)
      have hlen : (allB (ps.take j)).length + ps[j].d.length < 1099511627776 := by
        rw [htk, List.length_append] at hl1; have := HP.out.lt; omega
      have hA : ∀ a2, ps[j].A = some a2 → 0 < ps[j].d.length → a2.block ≠ n0 := fun a2 e h0 => by
        obtain ⟨a3, e3, hc3⟩ := (HP.out.rd _ (List.getElem_mem hlt)).2.2 h0
        rw [e] at e3; cases e3
        have := World.block_lt_of_cell? _ _ (hc3 0 h0)
        rw [add_block, HN.out] at this
        omega
      have kW := Write_calls wr n0 (allB (ps.take j)) v hD ps[j].A ps[j].c ps[j].d hrd hlen hok (HK.out.below hbel hK3) hK3 (fun g hg => by have := hvo g hg; omega) hA
      rw [← htk] at kW
      generalize hp : ps[j] = p at *
      have HV := Lib.hid hvo
      have HBl := Lib.hid hbel
      have HD2 := Lib.hid hD
      clear hcell hrd htk hl1 hok hlen hA hlad hvo hbel hD
      go_wp2_with (go_at_call 113; with_reducible refine kW.mono ?_; rintro e w2 ⟨rfl, v2, hD2, hT2, hv2⟩; have HD3 := Lib.hid hD2; have HT2 := Lib.hid hT2; have HV2 := Lib.hid hv2; clear hD2 hT2 hv2)
      refine ⟨⟨j + 1, v2, rfl, by omega, HD3.out, HBl.out.trans (HT2.out.to_below (by have := HBl.out.size; have := HN.out; omega) (fun k e => ?_)), fun g hg => ?_⟩, by simp only [intOf]; omega⟩
      · rcases e with e | e
        · omega
        · exact HV.out k e.symm
      · have := HV2.out g hg
        have := HBl.out.size
        have := HN.out
        omega
    · have hd : decide ((j : Int) < (ps.length : Int)) = false := decide_eq_false (by omega)
      have hjl : ps.take j = ps := List.take_of_length_le (by omega)
      rw [hjl] at hD
      have kS := Sum_calls wr n0 (allB ps) v hD HP.out.lt HP.out.ok (HK.out.below hbel hK3)
      have HBl := Lib.hid hbel
      clear hD hbel hvo hjl
      go_wp2_with (go_at_call 114; with_reducible refine kS.mono ?_; rintro e w2 ⟨v2, rfl, ho2, hb2⟩; have HO2 := Lib.hid ho2; have HB2 := Lib.hid hb2; clear ho2 hb2)
      go_ret
      have hsz : n0 ≤ wr.heap.size := by have := HBl.out.size; have := HN.out; omega
      refine ⟨v2, rfl, ?_, ?_⟩
      · rw [HN.out]; exact own_weaken HO2.out hsz
      · rw [HN.out]; exact HBl.out.trans (HB2.out.mono hsz)
end Go.Proofs.YtoeibcdnhglobaaDoor.P
