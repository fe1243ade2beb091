import Derived.Test.YtgoahafndefhgaaGreatFA
/- LacNone: the facts of its row, each for itself. -/
namespace Go.Proofs.YtgoahafndefhgaaGreat.lacNoneF
open Go.ChangeShapes Go.WideShapes Go.ChangeAt Go.RowKit
theorem an {a b : Bool} (h : a = true) (k : b = true) : (a && b) = true := by rw [h, k]; rfl
theorem b0 : (Rows.lacNoneRow.wf (OpenSpec.ofChange Rows.lacNoneSpec)) = true := by kernel_rfl
theorem b3 : (Tryz.f5.params.all (Tryz.pinned.checked.prog.readableRec ·)) = true := by kernel_rfl
theorem b4 : (namedTie Tryz.pinned.checked.prog Rows.lacNoneRow.named Rows.lacNoneSpec.vars) = true := by kernel_rfl
theorem b5 : ((Rows.lacNoneRow.stops == [])) = true := by kernel_rfl
theorem b7 : ((Rows.lacNoneRow.knobs == [])) = true := by kernel_rfl
theorem b9 : ((Rows.lacNoneRow.inPlace == Tryz.pinned.checked.prog.inPlace 5)) = true := by kernel_rfl
theorem b10 : ((Rows.lacNoneRow.unfollowed == Tryz.pinned.checked.prog.unfollowed 5)) = true := by kernel_rfl
theorem b11 : ((Rows.lacNoneRow.recurses == Tryz.pinned.checked.prog.recurses 5)) = true := by kernel_rfl
theorem b12 : ((Rows.lacNoneRow.named == Tryz.pinned.checked.prog.varsNamed 5)) = true := by kernel_rfl
theorem b13 : ((Rows.lacNoneRow.maps == (Tryz.f5.params.toList ++ Rows.lacNoneSpec.plain.varTypes Tryz.pinned.checked.prog).any (Tryz.pinned.checked.prog.mapsRec ·))) = true := by kernel_rfl
theorem b14 : ((Rows.lacNoneRow.ifaces == (Tryz.f5.params.toList ++ Rows.lacNoneSpec.plain.varTypes Tryz.pinned.checked.prog).any (Tryz.pinned.checked.prog.ifacesRec ·))) = true := by kernel_rfl
theorem b15 : ((Rows.lacNoneRow.mapsOut == Tryz.pinned.checked.prog.mapsAmong Tryz.f5.resultTypes.toList)) = true := by kernel_rfl
theorem b16 : ((Rows.lacNoneRow.loops == (Tryz.f5.params.toList ++ Rows.lacNoneSpec.plain.varTypes Tryz.pinned.checked.prog).any (Tryz.pinned.checked.prog.loopsFrom ·))) = true := by kernel_rfl
theorem b17 : ((Rows.lacNoneRow.wideKeys == (Tryz.f5.params.toList ++ Rows.lacNoneSpec.plain.varTypes Tryz.pinned.checked.prog ++ Tryz.f5.resultTypes.toList).any (Tryz.pinned.checked.prog.wideKeysFrom ·))) = true := by kernel_rfl
theorem b18 : (Rows.lacNoneSpec.vars.all (Tryz.pinned.checked.prog.varReadable ·)) = true := by kernel_rfl
theorem b19 : (Tryz.f5.resultTypes.all (fun t => Tryz.pinned.checked.prog.readableRec t && decide (t < Tryz.pinned.checked.prog.types.size))) = true := by kernel_rfl
theorem b20 : ((Rows.lacNoneRow.ifacesOut == Tryz.f5.resultTypes.toList.any (Tryz.pinned.checked.prog.ifacesRec ·))) = true := by kernel_rfl
theorem b21 : ((Rows.lacNoneRow.loopsOut == Tryz.f5.resultTypes.toList.any (Tryz.pinned.checked.prog.loopsFrom ·))) = true := by kernel_rfl
theorem b22 : ((Rows.lacNoneRow.plainKeys == Tryz.pinned.checked.prog.plainKeys)) = true := by kernel_rfl
theorem b23 : (Rows.lacNoneRow.shortTexts.isNone) = true := by kernel_rfl
theorem b26 : ((Rows.lacNoneRow.lifted == Tryz.pinned.checked.prog.liftsFinal)) = true := by kernel_rfl
theorem b27 : ((Tryz.pinned.checked.prog.make == some Rows.lacNoneRow.make)) = true := by kernel_rfl
theorem b28 : ((Rows.lacNoneRow.kinds == (if Rows.lacNoneRow.domain.isEmpty then [] else Tryz.f5.params.toList.map fun t => match Tryz.pinned.checked.prog.underlying t with | some (.int k) => some k | _ => none))) = true := by kernel_rfl
theorem b29 : ((Rows.lacNoneRow.pinned == Rows.lacNoneRow.pinnedBy)) = true := by kernel_rfl
theorem b30 : ((Rows.lacNoneRow.veiled == (Tryz.f5.params.toList ++ Rows.lacNoneSpec.plain.varTypes Tryz.pinned.checked.prog ++ Tryz.f5.resultTypes.toList).any (Tryz.pinned.checked.prog.veiledRec ·))) = true := by kernel_rfl
theorem b31 : (Rows.lacNoneRow.veiledFits Tryz.pinned.checked.prog Tryz.f5.params.toList (Tryz.f5.params.toList ++ Rows.lacNoneSpec.plain.varTypes Tryz.pinned.checked.prog ++ Tryz.f5.resultTypes.toList)) = true := by kernel_rfl
set_option maxRecDepth 100000 in
theorem closed : joinedFacts Tryz.pinned.checked.prog 5 Tryz.f5 Rows.lacNoneSpec Rows.lacNoneRow = true := by
  unfold joinedFacts
  exact (an (an (an (an (an (an (an (an (an (an (an (an (an (an (an (an (an (an (an (an (an (an (an (an (an (an (an (an (an (an (an b0 progF.b1) progF.b2) b3) b4) b5) progF.b6) b7) progF.b8) b9) b10) b11) b12) b13) b14) b15) b16) b17) b18) b19) b20) b21) b22) b23) progF.b24) progF.b25) b26) b27) b28) b29) b30) b31)
end Go.Proofs.YtgoahafndefhgaaGreat.lacNoneF
