import Derived.Test.YtgoahafndefhgaaGreatFA
/- LnsQuiet: the facts of its row, each for itself. -/
namespace Go.Proofs.YtgoahafndefhgaaGreat.lnsQuietF
open Go.ChangeShapes Go.WideShapes Go.ChangeAt Go.RowKit
theorem an {a b : Bool} (h : a = true) (k : b = true) : (a && b) = true := by rw [h, k]; rfl
theorem b0 : (Rows.lnsQuietRow.wf (OpenSpec.ofChange Rows.lnsQuietSpec)) = true := by kernel_rfl
theorem b3 : (Tryz.f4.params.all (Tryz.pinned.checked.prog.readableRec ·)) = true := by kernel_rfl
theorem b4 : (namedTie Tryz.pinned.checked.prog Rows.lnsQuietRow.named Rows.lnsQuietSpec.vars) = true := by kernel_rfl
theorem b5 : ((Rows.lnsQuietRow.stops == [])) = true := by kernel_rfl
theorem b7 : ((Rows.lnsQuietRow.knobs == [])) = true := by kernel_rfl
theorem b9 : ((Rows.lnsQuietRow.inPlace == Tryz.pinned.checked.prog.inPlace 4)) = true := by kernel_rfl
theorem b10 : ((Rows.lnsQuietRow.unfollowed == Tryz.pinned.checked.prog.unfollowed 4)) = true := by kernel_rfl
theorem b11 : ((Rows.lnsQuietRow.recurses == Tryz.pinned.checked.prog.recurses 4)) = true := by kernel_rfl
theorem b12 : ((Rows.lnsQuietRow.named == Tryz.pinned.checked.prog.varsNamed 4)) = true := by kernel_rfl
theorem b13 : ((Rows.lnsQuietRow.maps == (Tryz.f4.params.toList ++ Rows.lnsQuietSpec.plain.varTypes Tryz.pinned.checked.prog).any (Tryz.pinned.checked.prog.mapsRec ·))) = true := by kernel_rfl
theorem b14 : ((Rows.lnsQuietRow.ifaces == (Tryz.f4.params.toList ++ Rows.lnsQuietSpec.plain.varTypes Tryz.pinned.checked.prog).any (Tryz.pinned.checked.prog.ifacesRec ·))) = true := by kernel_rfl
theorem b15 : ((Rows.lnsQuietRow.mapsOut == Tryz.pinned.checked.prog.mapsAmong Tryz.f4.resultTypes.toList)) = true := by kernel_rfl
theorem b16 : ((Rows.lnsQuietRow.loops == (Tryz.f4.params.toList ++ Rows.lnsQuietSpec.plain.varTypes Tryz.pinned.checked.prog).any (Tryz.pinned.checked.prog.loopsFrom ·))) = true := by kernel_rfl
theorem b17 : ((Rows.lnsQuietRow.wideKeys == (Tryz.f4.params.toList ++ Rows.lnsQuietSpec.plain.varTypes Tryz.pinned.checked.prog ++ Tryz.f4.resultTypes.toList).any (Tryz.pinned.checked.prog.wideKeysFrom ·))) = true := by kernel_rfl
theorem b18 : (Rows.lnsQuietSpec.vars.all (Tryz.pinned.checked.prog.varReadable ·)) = true := by kernel_rfl
theorem b19 : (Tryz.f4.resultTypes.all (fun t => Tryz.pinned.checked.prog.readableRec t && decide (t < Tryz.pinned.checked.prog.types.size))) = true := by kernel_rfl
theorem b20 : ((Rows.lnsQuietRow.ifacesOut == Tryz.f4.resultTypes.toList.any (Tryz.pinned.checked.prog.ifacesRec ·))) = true := by kernel_rfl
theorem b21 : ((Rows.lnsQuietRow.loopsOut == Tryz.f4.resultTypes.toList.any (Tryz.pinned.checked.prog.loopsFrom ·))) = true := by kernel_rfl
theorem b22 : ((Rows.lnsQuietRow.plainKeys == Tryz.pinned.checked.prog.plainKeys)) = true := by kernel_rfl
theorem b23 : (Rows.lnsQuietRow.shortTexts.isNone) = true := by kernel_rfl
theorem b26 : ((Rows.lnsQuietRow.lifted == Tryz.pinned.checked.prog.liftsFinal)) = true := by kernel_rfl
theorem b27 : ((Tryz.pinned.checked.prog.make == some Rows.lnsQuietRow.make)) = true := by kernel_rfl
theorem b28 : ((Rows.lnsQuietRow.kinds == (if Rows.lnsQuietRow.domain.isEmpty then [] else Tryz.f4.params.toList.map fun t => match Tryz.pinned.checked.prog.underlying t with | some (.int k) => some k | _ => none))) = true := by kernel_rfl
theorem b29 : ((Rows.lnsQuietRow.pinned == Rows.lnsQuietRow.pinnedBy)) = true := by kernel_rfl
theorem b30 : ((Rows.lnsQuietRow.veiled == (Tryz.f4.params.toList ++ Rows.lnsQuietSpec.plain.varTypes Tryz.pinned.checked.prog ++ Tryz.f4.resultTypes.toList).any (Tryz.pinned.checked.prog.veiledRec ·))) = true := by kernel_rfl
theorem b31 : (Rows.lnsQuietRow.veiledFits Tryz.pinned.checked.prog Tryz.f4.params.toList (Tryz.f4.params.toList ++ Rows.lnsQuietSpec.plain.varTypes Tryz.pinned.checked.prog ++ Tryz.f4.resultTypes.toList)) = true := by kernel_rfl
set_option maxRecDepth 100000 in
theorem closed : joinedFacts Tryz.pinned.checked.prog 4 Tryz.f4 Rows.lnsQuietSpec Rows.lnsQuietRow = true := by
  unfold joinedFacts
  exact (an (an (an (an (an (an (an (an (an (an (an (an (an (an (an (an (an (an (an (an (an (an (an (an (an (an (an (an (an (an (an b0 progF.b1) progF.b2) b3) b4) b5) progF.b6) b7) progF.b8) b9) b10) b11) b12) b13) b14) b15) b16) b17) b18) b19) b20) b21) b22) b23) progF.b24) progF.b25) b26) b27) b28) b29) b30) b31)
end Go.Proofs.YtgoahafndefhgaaGreat.lnsQuietF
