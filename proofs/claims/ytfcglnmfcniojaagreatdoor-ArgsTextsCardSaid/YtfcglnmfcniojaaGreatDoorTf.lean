/- The closed facts of the row of ArgsTexts. Conditions: none. -/
import Derived.Test.YtfcglnmfcniojaaGreatDoorTe
set_option linter.all false
namespace Go.Proofs.YtfcglnmfcniojaaGreatDoor

set_option maxRecDepth 100000 in
theorem j1 : (Rows.argsTextsRow.wf (OpenSpec.ofChange Rows.argsTextsSpec)) = true := by kernel_rfl
set_option maxRecDepth 100000 in
theorem j2 : (laidOutB Tryz.prog) = true := by kernel_rfl
set_option maxRecDepth 100000 in
theorem j3 : (mapsRowed Tryz.prog) = true := by kernel_rfl
set_option maxRecDepth 100000 in
theorem j4 : (Tryz.f5.params.all (Tryz.prog.readableRec ·)) = true := by kernel_rfl
set_option maxRecDepth 100000 in
theorem j5 : (namedTie Tryz.prog Rows.argsTextsRow.named Rows.argsTextsSpec.vars) = true := by kernel_rfl
set_option maxRecDepth 100000 in
theorem j6 : (Rows.argsTextsRow.stops == []) = true := by kernel_rfl
set_option maxRecDepth 100000 in
theorem j7 : (Tryz.prog.stops == []) = true := by kernel_rfl
set_option maxRecDepth 100000 in
theorem j8 : (Rows.argsTextsRow.knobs == []) = true := by kernel_rfl
set_option maxRecDepth 100000 in
theorem j9 : (Tryz.prog.stopKnobs == []) = true := by kernel_rfl
set_option maxRecDepth 100000 in
theorem j10 : (Rows.argsTextsRow.inPlace == Tryz.prog.inPlace 5) = true := by kernel_rfl
set_option maxRecDepth 100000 in
theorem j11 : (Rows.argsTextsRow.unfollowed == Tryz.prog.unfollowed 5) = true := by kernel_rfl
set_option maxRecDepth 100000 in
theorem j12 : (Rows.argsTextsRow.recurses == Tryz.prog.recurses 5) = true := by kernel_rfl
set_option maxRecDepth 100000 in
theorem j13 : (Rows.argsTextsRow.named == Tryz.prog.varsNamed 5) = true := by kernel_rfl
set_option maxRecDepth 100000 in
theorem j14 : (Rows.argsTextsRow.maps == (Tryz.f5.params.toList ++ Rows.argsTextsSpec.plain.varTypes Tryz.prog).any (Tryz.prog.mapsRec ·)) = true := by kernel_rfl
set_option maxRecDepth 100000 in
theorem j15 : (Rows.argsTextsRow.ifaces == (Tryz.f5.params.toList ++ Rows.argsTextsSpec.plain.varTypes Tryz.prog).any (Tryz.prog.ifacesRec ·)) = true := by kernel_rfl
set_option maxRecDepth 100000 in
theorem j16 : (Rows.argsTextsRow.mapsOut == Tryz.prog.mapsAmong Tryz.f5.resultTypes.toList) = true := by kernel_rfl
set_option maxRecDepth 100000 in
theorem j17 : (Rows.argsTextsRow.loops == (Tryz.f5.params.toList ++ Rows.argsTextsSpec.plain.varTypes Tryz.prog).any (Tryz.prog.loopsFrom ·)) = true := by kernel_rfl
set_option maxRecDepth 100000 in
theorem j18 : (Rows.argsTextsRow.wideKeys == (Tryz.f5.params.toList ++ Rows.argsTextsSpec.plain.varTypes Tryz.prog ++ Tryz.f5.resultTypes.toList).any (Tryz.prog.wideKeysFrom ·)) = true := by kernel_rfl
set_option maxRecDepth 100000 in
theorem j19 : (Rows.argsTextsSpec.vars.all (Tryz.prog.varReadable ·)) = true := by kernel_rfl
set_option maxRecDepth 100000 in
theorem j20 : (Tryz.f5.resultTypes.all (fun t => Tryz.prog.readableRec t && decide (t < Tryz.prog.types.size))) = true := by kernel_rfl
set_option maxRecDepth 100000 in
theorem j21 : (Rows.argsTextsRow.ifacesOut == Tryz.f5.resultTypes.toList.any (Tryz.prog.ifacesRec ·)) = true := by kernel_rfl
set_option maxRecDepth 100000 in
theorem j22 : (Rows.argsTextsRow.loopsOut == Tryz.f5.resultTypes.toList.any (Tryz.prog.loopsFrom ·)) = true := by kernel_rfl
set_option maxRecDepth 100000 in
theorem j23 : (Rows.argsTextsRow.plainKeys == Tryz.prog.plainKeys) = true := by kernel_rfl
set_option maxRecDepth 100000 in
theorem j24 : (Rows.argsTextsRow.shortTexts.isNone) = true := by kernel_rfl
set_option maxRecDepth 100000 in
theorem j25 : (Tryz.prog.stopsHeard) = true := by kernel_rfl
set_option maxRecDepth 100000 in
theorem j26 : (Tryz.prog.mayEnter) = true := by kernel_rfl
set_option maxRecDepth 100000 in
theorem j27 : (Rows.argsTextsRow.lifted == Tryz.prog.liftsFinal) = true := by kernel_rfl
set_option maxRecDepth 100000 in
theorem j28 : (Tryz.prog.make == some Rows.argsTextsRow.make) = true := by kernel_rfl
set_option maxRecDepth 100000 in
theorem j29 : (Rows.argsTextsRow.kinds == (if Rows.argsTextsRow.domain.isEmpty then [] else Tryz.f5.params.toList.map fun t => match Tryz.prog.underlying t with | some (.int k) => some k | _ => none)) = true := by kernel_rfl
set_option maxRecDepth 100000 in
theorem j30 : (Rows.argsTextsRow.pinned == Rows.argsTextsRow.pinnedBy) = true := by kernel_rfl
set_option maxRecDepth 100000 in
theorem j31 : (Rows.argsTextsRow.veiled == (Tryz.f5.params.toList ++ Rows.argsTextsSpec.plain.varTypes Tryz.prog ++ Tryz.f5.resultTypes.toList).any (Tryz.prog.veiledRec ·)) = true := by kernel_rfl
set_option maxRecDepth 100000 in
theorem j32 : (Rows.argsTextsRow.veiledFits Tryz.prog Tryz.f5.params.toList (Tryz.f5.params.toList ++ Rows.argsTextsSpec.plain.varTypes Tryz.prog ++ Tryz.f5.resultTypes.toList)) = true := by kernel_rfl
end Go.Proofs.YtfcglnmfcniojaaGreatDoor
