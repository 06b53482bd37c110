/- The closed facts of the row of BytesSplits. Conditions: none. -/
import Derived.Test.YtblklgcpobbfcaaGreatDoorSf
set_option linter.all false
namespace Go.Proofs.YtblklgcpobbfcaaGreatDoor

set_option maxRecDepth 100000 in
theorem j1 : (Rows.bytesSplitsUptoRow.wf (OpenSpec.ofChange Rows.bytesSplitsSpec)) = true := by kernel_rfl
set_option maxRecDepth 100000 in
theorem j2 : (laidOutB Tryz.prog) = true := by kernel_rfl
set_option maxRecDepth 100000 in
theorem j3 : (mapsRowed Tryz.prog) = true := by kernel_rfl
set_option maxRecDepth 100000 in
theorem j4 : (Tryz.f5.params.all (Tryz.prog.readableRec ·)) = true := by kernel_rfl
set_option maxRecDepth 100000 in
theorem j5 : (namedTie Tryz.prog Rows.bytesSplitsUptoRow.named Rows.bytesSplitsSpec.vars) = true := by kernel_rfl
set_option maxRecDepth 100000 in
theorem j6 : (Rows.bytesSplitsUptoRow.stops == []) = true := by kernel_rfl
set_option maxRecDepth 100000 in
theorem j7 : (Tryz.prog.stops == []) = true := by kernel_rfl
set_option maxRecDepth 100000 in
theorem j8 : (Rows.bytesSplitsUptoRow.knobs == []) = true := by kernel_rfl
set_option maxRecDepth 100000 in
theorem j9 : (Tryz.prog.stopKnobs == []) = true := by kernel_rfl
set_option maxRecDepth 100000 in
theorem j10 : (Rows.bytesSplitsUptoRow.inPlace == Tryz.prog.inPlace 5) = true := by kernel_rfl
set_option maxRecDepth 100000 in
theorem j11 : (Rows.bytesSplitsUptoRow.unfollowed == Tryz.prog.unfollowed 5) = true := by kernel_rfl
set_option maxRecDepth 100000 in
theorem j12 : (Rows.bytesSplitsUptoRow.recurses == Tryz.prog.recurses 5) = true := by kernel_rfl
set_option maxRecDepth 100000 in
theorem j13 : (Rows.bytesSplitsUptoRow.named == Tryz.prog.varsNamed 5) = true := by kernel_rfl
set_option maxRecDepth 100000 in
theorem j14 : (Rows.bytesSplitsUptoRow.maps == (Tryz.f5.params.toList ++ Rows.bytesSplitsSpec.plain.varTypes Tryz.prog).any (Tryz.prog.mapsRec ·)) = true := by kernel_rfl
set_option maxRecDepth 100000 in
theorem j15 : (Rows.bytesSplitsUptoRow.ifaces == (Tryz.f5.params.toList ++ Rows.bytesSplitsSpec.plain.varTypes Tryz.prog).any (Tryz.prog.ifacesRec ·)) = true := by kernel_rfl
set_option maxRecDepth 100000 in
theorem j16 : (Rows.bytesSplitsUptoRow.mapsOut == Tryz.prog.mapsAmong Tryz.f5.resultTypes.toList) = true := by kernel_rfl
set_option maxRecDepth 100000 in
theorem j17 : (Rows.bytesSplitsUptoRow.loops == (Tryz.f5.params.toList ++ Rows.bytesSplitsSpec.plain.varTypes Tryz.prog).any (Tryz.prog.loopsFrom ·)) = true := by kernel_rfl
set_option maxRecDepth 100000 in
theorem j18 : (Rows.bytesSplitsUptoRow.wideKeys == (Tryz.f5.params.toList ++ Rows.bytesSplitsSpec.plain.varTypes Tryz.prog ++ Tryz.f5.resultTypes.toList).any (Tryz.prog.wideKeysFrom ·)) = true := by kernel_rfl
set_option maxRecDepth 100000 in
theorem j19 : (Rows.bytesSplitsSpec.vars.all (Tryz.prog.varReadable ·)) = true := by kernel_rfl
set_option maxRecDepth 100000 in
theorem j20 : (Tryz.f5.resultTypes.all (fun t => Tryz.prog.readableRec t && decide (t < Tryz.prog.types.size))) = true := by kernel_rfl
set_option maxRecDepth 100000 in
theorem j21 : (Rows.bytesSplitsUptoRow.ifacesOut == Tryz.f5.resultTypes.toList.any (Tryz.prog.ifacesRec ·)) = true := by kernel_rfl
set_option maxRecDepth 100000 in
theorem j22 : (Rows.bytesSplitsUptoRow.loopsOut == Tryz.f5.resultTypes.toList.any (Tryz.prog.loopsFrom ·)) = true := by kernel_rfl
set_option maxRecDepth 100000 in
theorem j23 : (Rows.bytesSplitsUptoRow.plainKeys == Tryz.prog.plainKeys) = true := by kernel_rfl
set_option maxRecDepth 100000 in
theorem j24 : (Rows.bytesSplitsUptoRow.shortTexts.isNone) = true := by kernel_rfl
set_option maxRecDepth 100000 in
theorem j25 : (Tryz.prog.stopsHeard) = true := by kernel_rfl
set_option maxRecDepth 100000 in
theorem j26 : (Tryz.prog.mayEnter) = true := by kernel_rfl
set_option maxRecDepth 100000 in
theorem j27 : (Rows.bytesSplitsUptoRow.lifted == Tryz.prog.liftsFinal) = true := by kernel_rfl
set_option maxRecDepth 100000 in
theorem j28 : (Tryz.prog.make == some Rows.bytesSplitsUptoRow.make) = true := by kernel_rfl
set_option maxRecDepth 100000 in
theorem j30 : (Rows.bytesSplitsUptoRow.pinned == Rows.bytesSplitsUptoRow.pinnedBy) = true := by kernel_rfl
set_option maxRecDepth 100000 in
theorem j31 : (Rows.bytesSplitsUptoRow.veiled == (Tryz.f5.params.toList ++ Rows.bytesSplitsSpec.plain.varTypes Tryz.prog ++ Tryz.f5.resultTypes.toList).any (Tryz.prog.veiledRec ·)) = true := by kernel_rfl
set_option maxRecDepth 100000 in
theorem j32 : (Rows.bytesSplitsUptoRow.veiledFits Tryz.prog Tryz.f5.params.toList (Tryz.f5.params.toList ++ Rows.bytesSplitsSpec.plain.varTypes Tryz.prog ++ Tryz.f5.resultTypes.toList)) = true := by kernel_rfl
end Go.Proofs.YtblklgcpobbfcaaGreatDoor
