import Derived.Test.YtoblffnlopmebaaGreatFA
/- LacQuiet: the facts of its row, each for itself. -/
namespace Go.Proofs.YtoblffnlopmebaaGreat.lacQuietF
open Go.ChangeShapes Go.WideShapes Go.ChangeAt Go.RowKit
theorem an {a b : Bool} (h : a = true) (k : b = true) : (a && b) = true := by rw [h, k]; rfl
theorem b0 : (Rows.lacQuietRow.wf (OpenSpec.ofChange Rows.lacQuietSpec)) = true := by kernel_rfl
theorem b3 : (Tryz.f3.params.all (Tryz.pinned.checked.prog.readableRec ·)) = true := by kernel_rfl
theorem b4 : (namedTie Tryz.pinned.checked.prog Rows.lacQuietRow.named Rows.lacQuietSpec.vars) = true := by kernel_rfl
theorem b5 : ((Rows.lacQuietRow.stops == [])) = true := by kernel_rfl
theorem b7 : ((Rows.lacQuietRow.knobs == [])) = true := by kernel_rfl
theorem b9 : ((Rows.lacQuietRow.inPlace == Tryz.pinned.checked.prog.inPlace 3)) = true := by kernel_rfl
theorem b10 : ((Rows.lacQuietRow.unfollowed == Tryz.pinned.checked.prog.unfollowed 3)) = true := by kernel_rfl
theorem b11 : ((Rows.lacQuietRow.recurses == Tryz.pinned.checked.prog.recurses 3)) = true := by kernel_rfl
theorem b12 : ((Rows.lacQuietRow.named == Tryz.pinned.checked.prog.varsNamed 3)) = true := by kernel_rfl
theorem b13 : ((Rows.lacQuietRow.maps == (Tryz.f3.params.toList ++ Rows.lacQuietSpec.plain.varTypes Tryz.pinned.checked.prog).any (Tryz.pinned.checked.prog.mapsRec ·))) = true := by kernel_rfl
theorem b14 : ((Rows.lacQuietRow.ifaces == (Tryz.f3.params.toList ++ Rows.lacQuietSpec.plain.varTypes Tryz.pinned.checked.prog).any (Tryz.pinned.checked.prog.ifacesRec ·))) = true := by kernel_rfl
theorem b15 : ((Rows.lacQuietRow.mapsOut == Tryz.pinned.checked.prog.mapsAmong Tryz.f3.resultTypes.toList)) = true := by kernel_rfl
theorem b16 : ((Rows.lacQuietRow.loops == (Tryz.f3.params.toList ++ Rows.lacQuietSpec.plain.varTypes Tryz.pinned.checked.prog).any (Tryz.pinned.checked.prog.loopsFrom ·))) = true := by kernel_rfl
theorem b17 : ((Rows.lacQuietRow.wideKeys == (Tryz.f3.params.toList ++ Rows.lacQuietSpec.plain.varTypes Tryz.pinned.checked.prog ++ Tryz.f3.resultTypes.toList).any (Tryz.pinned.checked.prog.wideKeysFrom ·))) = true := by kernel_rfl
theorem b18 : (Rows.lacQuietSpec.vars.all (Tryz.pinned.checked.prog.varReadable ·)) = true := by kernel_rfl
theorem b19 : (Tryz.f3.resultTypes.all (fun t => Tryz.pinned.checked.prog.readableRec t && decide (t < Tryz.pinned.checked.prog.types.size))) = true := by kernel_rfl
theorem b20 : ((Rows.lacQuietRow.ifacesOut == Tryz.f3.resultTypes.toList.any (Tryz.pinned.checked.prog.ifacesRec ·))) = true := by kernel_rfl
theorem b21 : ((Rows.lacQuietRow.loopsOut == Tryz.f3.resultTypes.toList.any (Tryz.pinned.checked.prog.loopsFrom ·))) = true := by kernel_rfl
theorem b22 : ((Rows.lacQuietRow.plainKeys == Tryz.pinned.checked.prog.plainKeys)) = true := by kernel_rfl
theorem b23 : (Rows.lacQuietRow.shortTexts.isNone) = true := by kernel_rfl
theorem b26 : ((Rows.lacQuietRow.lifted == Tryz.pinned.checked.prog.liftsFinal)) = true := by kernel_rfl
theorem b27 : ((Tryz.pinned.checked.prog.make == some Rows.lacQuietRow.make)) = true := by kernel_rfl
theorem b28 : ((Rows.lacQuietRow.kinds == (if Rows.lacQuietRow.domain.isEmpty then [] else Tryz.f3.params.toList.map fun t => match Tryz.pinned.checked.prog.underlying t with | some (.int k) => some k | _ => none))) = true := by kernel_rfl
theorem b29 : ((Rows.lacQuietRow.pinned == Rows.lacQuietRow.pinnedBy)) = true := by kernel_rfl
theorem b30 : ((Rows.lacQuietRow.veiled == (Tryz.f3.params.toList ++ Rows.lacQuietSpec.plain.varTypes Tryz.pinned.checked.prog ++ Tryz.f3.resultTypes.toList).any (Tryz.pinned.checked.prog.veiledRec ·))) = true := by kernel_rfl
theorem b31 : (Rows.lacQuietRow.veiledFits Tryz.pinned.checked.prog Tryz.f3.params.toList (Tryz.f3.params.toList ++ Rows.lacQuietSpec.plain.varTypes Tryz.pinned.checked.prog ++ Tryz.f3.resultTypes.toList)) = true := by kernel_rfl
set_option maxRecDepth 100000 in
theorem closed : joinedFacts Tryz.pinned.checked.prog 3 Tryz.f3 Rows.lacQuietSpec Rows.lacQuietRow = true := by
  unfold joinedFacts
  exact (an (an (an (an (an (an (an (an (an (an (an (an (an (an (an (an (an (an (an (an (an (an (an (an (an (an (an (an (an (an (an b0 progF.b1) progF.b2) b3) b4) b5) progF.b6) b7) progF.b8) b9) b10) b11) b12) b13) b14) b15) b16) b17) b18) b19) b20) b21) b22) b23) progF.b24) progF.b25) b26) b27) b28) b29) b30) b31)
end Go.Proofs.YtoblffnlopmebaaGreat.lacQuietF
