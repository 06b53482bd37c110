/- The closed facts of the row. Conditions: none. -/
import Derived.Test.YtblklgcpobbfcaaGreatDoorPg
set_option linter.all false
namespace Go.Proofs.YtblklgcpobbfcaaGreatDoor

set_option maxRecDepth 100000 in
theorem j1 : (Rows.bytesPutsRow.wf (OpenSpec.ofChange Rows.bytesPutsSpec)) = true := by kernel_rfl
set_option maxRecDepth 100000 in
theorem j2 : (laidOutB Tryz.prog) = true := by kernel_rfl
set_option maxRecDepth 100000 in
theorem j3 : (mapsRowed Tryz.prog) = true := by kernel_rfl
set_option maxRecDepth 100000 in
theorem j4 : (Tryz.f4.params.all (Tryz.prog.readableRec ·)) = true := by kernel_rfl
set_option maxRecDepth 100000 in
theorem j5 : (namedTie Tryz.prog Rows.bytesPutsRow.named Rows.bytesPutsSpec.vars) = true := by kernel_rfl
set_option maxRecDepth 100000 in
theorem j6 : (Rows.bytesPutsRow.stops == []) = true := by kernel_rfl
set_option maxRecDepth 100000 in
theorem j7 : (Tryz.prog.stops == []) = true := by kernel_rfl
set_option maxRecDepth 100000 in
theorem j8 : (Rows.bytesPutsRow.knobs == []) = true := by kernel_rfl
set_option maxRecDepth 100000 in
theorem j9 : (Tryz.prog.stopKnobs == []) = true := by kernel_rfl
set_option maxRecDepth 100000 in
theorem j10 : (Rows.bytesPutsRow.inPlace == Tryz.prog.inPlace 4) = true := by kernel_rfl
set_option maxRecDepth 100000 in
theorem j11 : (Rows.bytesPutsRow.unfollowed == Tryz.prog.unfollowed 4) = true := by kernel_rfl
set_option maxRecDepth 100000 in
theorem j12 : (Rows.bytesPutsRow.recurses == Tryz.prog.recurses 4) = true := by kernel_rfl
set_option maxRecDepth 100000 in
theorem j13 : (Rows.bytesPutsRow.named == Tryz.prog.varsNamed 4) = true := by kernel_rfl
set_option maxRecDepth 100000 in
theorem j14 : (Rows.bytesPutsRow.maps == (Tryz.f4.params.toList ++ Rows.bytesPutsSpec.plain.varTypes Tryz.prog).any (Tryz.prog.mapsRec ·)) = true := by kernel_rfl
set_option maxRecDepth 100000 in
theorem j15 : (Rows.bytesPutsRow.ifaces == (Tryz.f4.params.toList ++ Rows.bytesPutsSpec.plain.varTypes Tryz.prog).any (Tryz.prog.ifacesRec ·)) = true := by kernel_rfl
set_option maxRecDepth 100000 in
theorem j16 : (Rows.bytesPutsRow.mapsOut == Tryz.prog.mapsAmong Tryz.f4.resultTypes.toList) = true := by kernel_rfl
set_option maxRecDepth 100000 in
theorem j17 : (Rows.bytesPutsRow.loops == (Tryz.f4.params.toList ++ Rows.bytesPutsSpec.plain.varTypes Tryz.prog).any (Tryz.prog.loopsFrom ·)) = true := by kernel_rfl
set_option maxRecDepth 100000 in
theorem j18 : (Rows.bytesPutsRow.wideKeys == (Tryz.f4.params.toList ++ Rows.bytesPutsSpec.plain.varTypes Tryz.prog ++ Tryz.f4.resultTypes.toList).any (Tryz.prog.wideKeysFrom ·)) = true := by kernel_rfl
set_option maxRecDepth 100000 in
theorem j19 : (Rows.bytesPutsSpec.vars.all (Tryz.prog.varReadable ·)) = true := by kernel_rfl
set_option maxRecDepth 100000 in
theorem j20 : (Tryz.f4.resultTypes.all (fun t => Tryz.prog.readableRec t && decide (t < Tryz.prog.types.size))) = true := by kernel_rfl
set_option maxRecDepth 100000 in
theorem j21 : (Rows.bytesPutsRow.ifacesOut == Tryz.f4.resultTypes.toList.any (Tryz.prog.ifacesRec ·)) = true := by kernel_rfl
set_option maxRecDepth 100000 in
theorem j22 : (Rows.bytesPutsRow.loopsOut == Tryz.f4.resultTypes.toList.any (Tryz.prog.loopsFrom ·)) = true := by kernel_rfl
set_option maxRecDepth 100000 in
theorem j23 : (Rows.bytesPutsRow.plainKeys == Tryz.prog.plainKeys) = true := by kernel_rfl
set_option maxRecDepth 100000 in
theorem j24 : (Rows.bytesPutsRow.shortTexts.isNone) = true := by kernel_rfl
set_option maxRecDepth 100000 in
theorem j25 : (Tryz.prog.stopsHeard) = true := by kernel_rfl
set_option maxRecDepth 100000 in
theorem j26 : (Tryz.prog.mayEnter) = true := by kernel_rfl
set_option maxRecDepth 100000 in
theorem j27 : (Rows.bytesPutsRow.lifted == Tryz.prog.liftsFinal) = true := by kernel_rfl
set_option maxRecDepth 100000 in
theorem j28 : (Tryz.prog.make == some Rows.bytesPutsRow.make) = true := by kernel_rfl
set_option maxRecDepth 100000 in
theorem j30 : (Rows.bytesPutsRow.pinned == Rows.bytesPutsRow.pinnedBy) = true := by kernel_rfl
set_option maxRecDepth 100000 in
theorem j31 : (Rows.bytesPutsRow.veiled == (Tryz.f4.params.toList ++ Rows.bytesPutsSpec.plain.varTypes Tryz.prog ++ Tryz.f4.resultTypes.toList).any (Tryz.prog.veiledRec ·)) = true := by kernel_rfl
set_option maxRecDepth 100000 in
theorem j32 : (Rows.bytesPutsRow.veiledFits Tryz.prog Tryz.f4.params.toList (Tryz.f4.params.toList ++ Rows.bytesPutsSpec.plain.varTypes Tryz.prog ++ Tryz.f4.resultTypes.toList)) = true := by kernel_rfl

end Go.Proofs.YtblklgcpobbfcaaGreatDoor
