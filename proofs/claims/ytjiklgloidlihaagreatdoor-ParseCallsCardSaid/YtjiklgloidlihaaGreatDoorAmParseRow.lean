/- The parse seat: what its rows give, and the proof that a law's row holds. -/
import Derived.Test.YtjiklgloidlihaaGreatDoorAmParse2
import Derived.Test.YtjiklgloidlihaaGreatDoorAmRow
set_option maxRecDepth 100000
namespace Go.Proofs.YtjiklgloidlihaaGreatDoor
open Go Go.Am Go.RowKit Go.ChangeShapes Go.WideShapes Go.ChangeAt
theorem own : ownKnob Tryz.prog.godebug = none := by kernel_rfl
theorem laidOut : laidOutB Tryz.prog = true := by kernel_rfl
theorem gLens : Tryz.prog.globalNamed "annuitant/calendar.lengths" = some 3 := by kernel_rfl
theorem gKinds : Tryz.prog.globalNamed "annuitant/parse.kindWords" = some 0 := by kernel_rfl
theorem gModes : Tryz.prog.globalNamed "annuitant/parse.modeWords" = some 1 := by kernel_rfl
theorem tLens : (Tryz.prog.globals[3]?).map (·.type) = some 261 := by kernel_rfl
theorem tKinds : (Tryz.prog.globals[0]?).map (·.type) = some 92 := by kernel_rfl
theorem tModes : (Tryz.prog.globals[1]?).map (·.type) = some 92 := by kernel_rfl
def laid3 : List (String × DataW Unit) := [("annuitant/calendar.lengths", Rows.laid_annuitant_calendar_lengths), ("annuitant/parse.kindWords", Rows.laid_annuitant_parse_kindWords), ("annuitant/parse.modeWords", Rows.laid_annuitant_parse_modeWords)]
/-- The door's own heap meets the condition. -/
theorem door_met (os : Os) (args : Array Value) : laidMetH Tryz.prog laid3 ((World.doorLaid Tryz.prog 24 os).forCall (fun _ _ => 0) ⟨#[], args, []⟩).memory :=
  laidMetH_of_parts3 (fuel := 8) (laidMet_of_run' 8 (by kernel_rfl) (by kernel_rfl)) (by kernel_rfl) (by kernel_rfl)
theorem var_block {W : World} {n : String} {g : Nat} {cs : Array Value} (hg : Tryz.prog.globalNamed n = some g) (hv : W.var? Tryz.prog n = some cs) (hc : ∃ c t, W.heap[g]? = some (.cells c t (0, 0))) : ∃ t, W.heap[g]? = some (.cells cs t (0, 0)) := by
  obtain ⟨c, t, hc⟩ := hc
  unfold World.var? at hv
  rw [hg] at hv
  simp only [Option.bind_some, hc, Option.some.injEq] at hv
  subst hv
  exact ⟨t, hc⟩
theorem row_mem {g n : Nat} {p q : List MemPlace} (h : 0 < n) : MemPlace.cell g 0 ∈ MemPlace.row ⟨g, 0, none⟩ n ++ p ++ q :=
  List.mem_append_left _ (List.mem_append_left _ (List.mem_map.2 ⟨0, List.mem_range.2 h, rfl⟩))
theorem laid_of {W : World} (h : laidMetH Tryz.prog laid3 W) (hsh : W.ShapedOpen Tryz.prog) : LaidW W := by
  rw [MakeChecks.laidMetH_plain _ _ _ (by kernel_rfl)] at h
  obtain ⟨ps, ⟨g0, t0, cs0, f0, p0, q0, hg0, ht0, hv0, hd0, ⟨g1, t1, cs1, f1, p1, q1, hg1, ht1, hv1, hd1, ⟨g2, t2, cs2, f2, p2, q2, hg2, ht2, hv2, hd2, _, hp2⟩, hp1⟩, hp0⟩, _, hcell⟩ := h
  obtain rfl := Option.some.inj (gLens.symm.trans hg0)
  obtain rfl := Option.some.inj (gKinds.symm.trans hg1)
  obtain rfl := Option.some.inj (gModes.symm.trans hg2)
  obtain rfl := Option.some.inj (tLens.symm.trans ht0)
  obtain rfl := Option.some.inj (tKinds.symm.trans ht1)
  obtain rfl := Option.some.inj (tModes.symm.trans ht2)
  have c3 : Tryz.prog.cellsOf 3 = 1 := by kernel_rfl
  have c9 : Tryz.prog.cellsOf 9 = 1 := by kernel_rfl
  have c92 : Tryz.prog.cellsOf 92 = 7 := by kernel_rfl
  have c261 : Tryz.prog.cellsOf 261 = 12 := by kernel_rfl
  have e0 : cs0.toList = ints lenL := arr_cells (l := lenL) (g := fun n => .lit (.int .i64 n)) (u := fun n => .int .i64 n) Tryz.underlying261 c3 c261 (fun m c x a => int_cell Tryz.underlying3 m c x a) hd0
  have e1 : cs1.toList = strs kindL := arr_cells (l := kindL) (g := fun b => .lit (.string b)) (u := fun b => .string ⟨b.toArray⟩) Tryz.underlying92 c9 c92 (fun m c x a => str_cell Tryz.underlying9 m c x a) hd1
  have e2 : cs2.toList = strs modeL := arr_cells (l := modeL) (g := fun b => .lit (.string b)) (u := fun b => .string ⟨b.toArray⟩) Tryz.underlying92 c9 c92 (fun m c x a => str_cell Tryz.underlying9 m c x a) hd2
  have s0 : cs0 = (ints lenL).toArray := by rw [← e0]
  have s1 : cs1 = (strs kindL).toArray := by rw [← e1]
  have s2 : cs2 = (strs modeL).toArray := by rw [← e2]
  subst s0 s1 s2
  have m0 : MemPlace.cell 3 0 ∈ ps := by rw [hp0]; exact row_mem (by decide)
  have m1 : MemPlace.cell 0 0 ∈ ps := by rw [hp0, hp1]; exact List.mem_append_right _ (row_mem (by decide))
  have m2 : MemPlace.cell 1 0 ∈ ps := by rw [hp0, hp1, hp2]; exact List.mem_append_right _ (List.mem_append_right _ (row_mem (by decide)))
  exact ⟨var_block hg1 hv1 (hcell 0 0 m1).1, var_block hg2 hv2 (hcell 1 0 m2).1, Tryz.laysM144.s1_3 W hsh, var_block hg0 hv0 (hcell 3 0 m0).1⟩
theorem stopsHeard : Tryz.prog.stopsHeard = true := by kernel_rfl
theorem mayEnter : Tryz.prog.mayEnter = true := by kernel_rfl
theorem bool4 : Tryz.prog.underlying 4 = some .bool := Tryz.underlying4
end Go.Proofs.YtjiklgloidlihaaGreatDoor
