/- The closed facts of the row of BytesOperations. Conditions: none. -/
import Derived.Test.YtmmopjgbckkljaaGreatDoorBc
set_option linter.all false
namespace Go.Proofs.YtmmopjgbckkljaaGreatDoor

set_option maxRecDepth 100000 in
theorem j1 : (Rows.bytesOperationsRow.wf (OpenSpec.ofChange Rows.bytesOperationsSpec)) = true := by kernel_rfl
set_option maxRecDepth 100000 in
theorem j2 : (laidOutB Tryz.prog) = true := by kernel_rfl
set_option maxRecDepth 100000 in
theorem j3 : (mapsRowed Tryz.prog) = true := by kernel_rfl
set_option maxRecDepth 100000 in
theorem j4 : (Tryz.f3.params.all (Tryz.prog.readableRec ·)) = true := by kernel_rfl
set_option maxRecDepth 100000 in
theorem j5 : (namedTie Tryz.prog Rows.bytesOperationsRow.named Rows.bytesOperationsSpec.vars) = true := by kernel_rfl
set_option maxRecDepth 100000 in
theorem j6 : (Rows.bytesOperationsRow.stops == []) = true := by kernel_rfl
set_option maxRecDepth 100000 in
theorem j7 : (Tryz.prog.stops == []) = true := by kernel_rfl
set_option maxRecDepth 100000 in
theorem j8 : (Rows.bytesOperationsRow.knobs == []) = true := by kernel_rfl
set_option maxRecDepth 100000 in
theorem j9 : (Tryz.prog.stopKnobs == []) = true := by kernel_rfl
set_option maxRecDepth 100000 in
theorem j10 : (Rows.bytesOperationsRow.inPlace == Tryz.prog.inPlace 3) = true := by kernel_rfl
set_option maxRecDepth 100000 in
theorem j11 : (Rows.bytesOperationsRow.unfollowed == Tryz.prog.unfollowed 3) = true := by kernel_rfl
set_option maxRecDepth 100000 in
theorem j12 : (Rows.bytesOperationsRow.recurses == Tryz.prog.recurses 3) = true := by kernel_rfl
set_option maxRecDepth 100000 in
theorem j13 : (Rows.bytesOperationsRow.named == Tryz.prog.varsNamed 3) = true := by kernel_rfl
set_option maxRecDepth 100000 in
theorem j14 : (Rows.bytesOperationsRow.maps == (Tryz.f3.params.toList ++ Rows.bytesOperationsSpec.plain.varTypes Tryz.prog).any (Tryz.prog.mapsRec ·)) = true := by kernel_rfl
set_option maxRecDepth 100000 in
theorem j15 : (Rows.bytesOperationsRow.ifaces == (Tryz.f3.params.toList ++ Rows.bytesOperationsSpec.plain.varTypes Tryz.prog).any (Tryz.prog.ifacesRec ·)) = true := by kernel_rfl
set_option maxRecDepth 100000 in
theorem j16 : (Rows.bytesOperationsRow.mapsOut == Tryz.prog.mapsAmong Tryz.f3.resultTypes.toList) = true := by kernel_rfl
set_option maxRecDepth 100000 in
theorem j17 : (Rows.bytesOperationsRow.loops == (Tryz.f3.params.toList ++ Rows.bytesOperationsSpec.plain.varTypes Tryz.prog).any (Tryz.prog.loopsFrom ·)) = true := by kernel_rfl
set_option maxRecDepth 100000 in
theorem j18 : (Rows.bytesOperationsRow.wideKeys == (Tryz.f3.params.toList ++ Rows.bytesOperationsSpec.plain.varTypes Tryz.prog ++ Tryz.f3.resultTypes.toList).any (Tryz.prog.wideKeysFrom ·)) = true := by kernel_rfl
set_option maxRecDepth 100000 in
theorem j19 : (Rows.bytesOperationsSpec.vars.all (Tryz.prog.varReadable ·)) = true := by kernel_rfl
set_option maxRecDepth 100000 in
theorem j20 : (Tryz.f3.resultTypes.all (fun t => Tryz.prog.readableRec t && decide (t < Tryz.prog.types.size))) = true := by kernel_rfl
set_option maxRecDepth 100000 in
theorem j21 : (Rows.bytesOperationsRow.ifacesOut == Tryz.f3.resultTypes.toList.any (Tryz.prog.ifacesRec ·)) = true := by kernel_rfl
set_option maxRecDepth 100000 in
theorem j22 : (Rows.bytesOperationsRow.loopsOut == Tryz.f3.resultTypes.toList.any (Tryz.prog.loopsFrom ·)) = true := by kernel_rfl
set_option maxRecDepth 100000 in
theorem j23 : (Rows.bytesOperationsRow.plainKeys == Tryz.prog.plainKeys) = true := by kernel_rfl
set_option maxRecDepth 100000 in
theorem j24 : (Rows.bytesOperationsRow.shortTexts.isNone) = true := by kernel_rfl
set_option maxRecDepth 100000 in
theorem j25 : (Tryz.prog.stopsHeard) = true := by kernel_rfl
set_option maxRecDepth 100000 in
theorem j26 : (Tryz.prog.mayEnter) = true := by kernel_rfl
set_option maxRecDepth 100000 in
theorem j27 : (Rows.bytesOperationsRow.lifted == Tryz.prog.liftsFinal) = true := by kernel_rfl
set_option maxRecDepth 100000 in
theorem j28 : (Tryz.prog.make == some Rows.bytesOperationsRow.make) = true := by kernel_rfl
set_option maxRecDepth 100000 in
theorem j30 : (Rows.bytesOperationsRow.pinned == Rows.bytesOperationsRow.pinnedBy) = true := by kernel_rfl
set_option maxRecDepth 100000 in
theorem j31 : (Rows.bytesOperationsRow.veiled == (Tryz.f3.params.toList ++ Rows.bytesOperationsSpec.plain.varTypes Tryz.prog ++ Tryz.f3.resultTypes.toList).any (Tryz.prog.veiledRec ·)) = true := by kernel_rfl
set_option maxRecDepth 100000 in
theorem j32 : (Rows.bytesOperationsRow.veiledFits Tryz.prog Tryz.f3.params.toList (Tryz.f3.params.toList ++ Rows.bytesOperationsSpec.plain.varTypes Tryz.prog ++ Tryz.f3.resultTypes.toList)) = true := by kernel_rfl

end Go.Proofs.YtmmopjgbckkljaaGreatDoor
