/- Closed facts of the row StrtodSyntax. Conditions: none. -/
import Derived.Test.YtilnhkflgfajcaaGreatDoorLd
set_option linter.all false
namespace Go.Proofs.YtilnhkflgfajcaaGreatDoor

set_option maxRecDepth 100000 in
theorem j1 : (Rows.strtodSyntaxRow.wf (OpenSpec.ofChange Rows.strtodSyntaxSpec)) = true := by kernel_rfl
set_option maxRecDepth 100000 in
theorem j2 : (laidOutB Tryz.prog) = true := by kernel_rfl
set_option maxRecDepth 100000 in
theorem j3 : (mapsRowed Tryz.prog) = true := by kernel_rfl
set_option maxRecDepth 100000 in
theorem j4 : (Tryz.f4.params.all (Tryz.prog.readableRec ·)) = true := by kernel_rfl
set_option maxRecDepth 100000 in
theorem j5 : (namedTie Tryz.prog Rows.strtodSyntaxRow.named Rows.strtodSyntaxSpec.vars) = true := by kernel_rfl
set_option maxRecDepth 100000 in
theorem j6 : (Rows.strtodSyntaxRow.stops == []) = true := by kernel_rfl
set_option maxRecDepth 100000 in
theorem j7 : (Tryz.prog.stops == []) = true := by kernel_rfl
set_option maxRecDepth 100000 in
theorem j8 : (Rows.strtodSyntaxRow.knobs == []) = true := by kernel_rfl
set_option maxRecDepth 100000 in
theorem j9 : (Tryz.prog.stopKnobs == []) = true := by kernel_rfl
set_option maxRecDepth 100000 in
theorem j10 : (Rows.strtodSyntaxRow.inPlace == Tryz.prog.inPlace 4) = true := by kernel_rfl
set_option maxRecDepth 100000 in
theorem j11 : (Rows.strtodSyntaxRow.unfollowed == Tryz.prog.unfollowed 4) = true := by kernel_rfl
set_option maxRecDepth 100000 in
theorem j12 : (Rows.strtodSyntaxRow.recurses == Tryz.prog.recurses 4) = true := by kernel_rfl
set_option maxRecDepth 100000 in
theorem j13 : (Rows.strtodSyntaxRow.named == Tryz.prog.varsNamed 4) = true := by kernel_rfl
set_option maxRecDepth 100000 in
theorem j14 : (Rows.strtodSyntaxRow.maps == (Tryz.f4.params.toList ++ Rows.strtodSyntaxSpec.plain.varTypes Tryz.prog).any (Tryz.prog.mapsRec ·)) = true := by kernel_rfl
set_option maxRecDepth 100000 in
theorem j15 : (Rows.strtodSyntaxRow.ifaces == (Tryz.f4.params.toList ++ Rows.strtodSyntaxSpec.plain.varTypes Tryz.prog).any (Tryz.prog.ifacesRec ·)) = true := by kernel_rfl
set_option maxRecDepth 100000 in
theorem j16 : (Rows.strtodSyntaxRow.mapsOut == Tryz.prog.mapsAmong Tryz.f4.resultTypes.toList) = true := by kernel_rfl
set_option maxRecDepth 100000 in
theorem j17 : (Rows.strtodSyntaxRow.loops == (Tryz.f4.params.toList ++ Rows.strtodSyntaxSpec.plain.varTypes Tryz.prog).any (Tryz.prog.loopsFrom ·)) = true := by kernel_rfl
set_option maxRecDepth 100000 in
theorem j18 : (Rows.strtodSyntaxRow.wideKeys == (Tryz.f4.params.toList ++ Rows.strtodSyntaxSpec.plain.varTypes Tryz.prog ++ Tryz.f4.resultTypes.toList).any (Tryz.prog.wideKeysFrom ·)) = true := by kernel_rfl
set_option maxRecDepth 100000 in
theorem j19 : (Rows.strtodSyntaxSpec.vars.all (Tryz.prog.varReadable ·)) = true := by kernel_rfl
set_option maxRecDepth 100000 in
theorem j20 : (Tryz.f4.resultTypes.all (fun t => Tryz.prog.readableRec t && decide (t < Tryz.prog.types.size))) = true := by kernel_rfl
set_option maxRecDepth 100000 in
theorem j21 : (Rows.strtodSyntaxRow.ifacesOut == Tryz.f4.resultTypes.toList.any (Tryz.prog.ifacesRec ·)) = true := by kernel_rfl
set_option maxRecDepth 100000 in
theorem j22 : (Rows.strtodSyntaxRow.loopsOut == Tryz.f4.resultTypes.toList.any (Tryz.prog.loopsFrom ·)) = true := by kernel_rfl
set_option maxRecDepth 100000 in
theorem j23 : (Rows.strtodSyntaxRow.plainKeys == Tryz.prog.plainKeys) = true := by kernel_rfl
set_option maxRecDepth 100000 in
theorem j24 : (Rows.strtodSyntaxRow.shortTexts.isNone) = true := by kernel_rfl
set_option maxRecDepth 100000 in
theorem j25 : (Tryz.prog.stopsHeard) = true := by kernel_rfl
set_option maxRecDepth 100000 in
theorem j26 : (Tryz.prog.mayEnter) = true := by kernel_rfl
set_option maxRecDepth 100000 in
theorem j27 : (Rows.strtodSyntaxRow.lifted == Tryz.prog.liftsFinal) = true := by kernel_rfl
set_option maxRecDepth 100000 in
theorem j28 : (Tryz.prog.make == some Rows.strtodSyntaxRow.make) = true := by kernel_rfl
set_option maxRecDepth 100000 in
theorem j29 : (Rows.strtodSyntaxRow.kinds == (if Rows.strtodSyntaxRow.domain.isEmpty then [] else Tryz.f4.params.toList.map fun t => match Tryz.prog.underlying t with | some (.int k) => some k | _ => none)) = true := by kernel_rfl
set_option maxRecDepth 100000 in
theorem j30 : (Rows.strtodSyntaxRow.pinned == Rows.strtodSyntaxRow.pinnedBy) = true := by kernel_rfl
set_option maxRecDepth 100000 in
theorem j31 : (Rows.strtodSyntaxRow.veiled == (Tryz.f4.params.toList ++ Rows.strtodSyntaxSpec.plain.varTypes Tryz.prog ++ Tryz.f4.resultTypes.toList).any (Tryz.prog.veiledRec ·)) = true := by kernel_rfl
set_option maxRecDepth 100000 in
theorem j32 : (Rows.strtodSyntaxRow.veiledFits Tryz.prog Tryz.f4.params.toList (Tryz.f4.params.toList ++ Rows.strtodSyntaxSpec.plain.varTypes Tryz.prog ++ Tryz.f4.resultTypes.toList)) = true := by kernel_rfl
end Go.Proofs.YtilnhkflgfajcaaGreatDoor
