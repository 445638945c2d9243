/-
  The closed facts of HostNone's row, each by itself.
-/
import Derived.Test.YtebjbnohljndjaaGreatDoorRows
import Derived.JoinedOf
import Derived.KernelRfl
import Derived.SevenTiedAt
set_option linter.unusedVariables false
namespace Go.Proofs.YtebjbnohljndjaaGreatDoor
open Go
theorem hostNone_j0 : (Rows.hostNoneRow.wf (OpenSpec.ofChange Rows.hostNoneSpec)) = true := by kernel_rfl
theorem hostNone_j1 : (laidOutB Tryz.prog) = true := by kernel_rfl
theorem hostNone_j2 : (mapsRowed Tryz.prog) = true := by kernel_rfl
theorem hostNone_j3 : (Tryz.f9.params.all (Tryz.prog.readableRec ·)) = true := by kernel_rfl
theorem hostNone_j4 : (namedTie Tryz.prog Rows.hostNoneRow.named Rows.hostNoneSpec.vars) = true := by kernel_rfl
theorem hostNone_j5 : ((Rows.hostNoneRow.stops == [])) = true := by kernel_rfl
theorem hostNone_j6 : ((Tryz.prog.stops == [])) = true := by kernel_rfl
theorem hostNone_j7 : ((Rows.hostNoneRow.knobs == [])) = true := by kernel_rfl
theorem hostNone_j8 : ((Tryz.prog.stopKnobs == [])) = true := by kernel_rfl
theorem hostNone_j9 : ((Rows.hostNoneRow.inPlace == Tryz.prog.inPlace 9)) = true := by kernel_rfl
theorem hostNone_j10 : ((Rows.hostNoneRow.unfollowed == Tryz.prog.unfollowed 9)) = true := by kernel_rfl
theorem hostNone_j11 : ((Rows.hostNoneRow.recurses == Tryz.prog.recurses 9)) = true := by kernel_rfl
theorem hostNone_j12 : ((Rows.hostNoneRow.named == Tryz.prog.varsNamed 9)) = true := by kernel_rfl
theorem hostNone_j13 : ((Rows.hostNoneRow.maps == (Tryz.f9.params.toList ++ Rows.hostNoneSpec.plain.varTypes Tryz.prog).any (Tryz.prog.mapsRec ·))) = true := by kernel_rfl
theorem hostNone_j14 : ((Rows.hostNoneRow.ifaces == (Tryz.f9.params.toList ++ Rows.hostNoneSpec.plain.varTypes Tryz.prog).any (Tryz.prog.ifacesRec ·))) = true := by kernel_rfl
theorem hostNone_j15 : ((Rows.hostNoneRow.mapsOut == Tryz.prog.mapsAmong Tryz.f9.resultTypes.toList)) = true := by kernel_rfl
theorem hostNone_j16 : ((Rows.hostNoneRow.loops == (Tryz.f9.params.toList ++ Rows.hostNoneSpec.plain.varTypes Tryz.prog).any (Tryz.prog.loopsFrom ·))) = true := by kernel_rfl
theorem hostNone_j17 : ((Rows.hostNoneRow.wideKeys == (Tryz.f9.params.toList ++ Rows.hostNoneSpec.plain.varTypes Tryz.prog ++ Tryz.f9.resultTypes.toList).any (Tryz.prog.wideKeysFrom ·))) = true := by kernel_rfl
theorem hostNone_j18 : (Rows.hostNoneSpec.vars.all (Tryz.prog.varReadable ·)) = true := by kernel_rfl
theorem hostNone_j19 : (Tryz.f9.resultTypes.all (fun t => Tryz.prog.readableRec t && decide (t < Tryz.prog.types.size))) = true := by kernel_rfl
theorem hostNone_j20 : ((Rows.hostNoneRow.ifacesOut == Tryz.f9.resultTypes.toList.any (Tryz.prog.ifacesRec ·))) = true := by kernel_rfl
theorem hostNone_j21 : ((Rows.hostNoneRow.loopsOut == Tryz.f9.resultTypes.toList.any (Tryz.prog.loopsFrom ·))) = true := by kernel_rfl
theorem hostNone_j22 : ((Rows.hostNoneRow.plainKeys == Tryz.prog.plainKeys)) = true := by kernel_rfl
theorem hostNone_j23 : (Rows.hostNoneRow.shortTexts.isNone) = true := by kernel_rfl
theorem hostNone_j24 : (Tryz.prog.stopsHeard) = true := by kernel_rfl
theorem hostNone_j25 : (Tryz.prog.mayEnter) = true := by kernel_rfl
theorem hostNone_j26 : ((Rows.hostNoneRow.lifted == Tryz.prog.liftsFinal)) = true := by kernel_rfl
theorem hostNone_j27 : ((Tryz.prog.make == some Rows.hostNoneRow.make)) = true := by kernel_rfl
theorem hostNone_j28 : ((Rows.hostNoneRow.kinds == (if Rows.hostNoneRow.domain.isEmpty then [] else Tryz.f9.params.toList.map fun t => match Tryz.prog.underlying t with | some (.int k) => some k | _ => none))) = true := by kernel_rfl
theorem hostNone_j29 : ((Rows.hostNoneRow.pinned == Rows.hostNoneRow.pinnedBy)) = true := by kernel_rfl
theorem hostNone_j30 : ((Rows.hostNoneRow.veiled == (Tryz.f9.params.toList ++ Rows.hostNoneSpec.plain.varTypes Tryz.prog ++ Tryz.f9.resultTypes.toList).any (Tryz.prog.veiledRec ·))) = true := by kernel_rfl
theorem hostNone_j31 : (Rows.hostNoneRow.veiledFits Tryz.prog Tryz.f9.params.toList (Tryz.f9.params.toList ++ Rows.hostNoneSpec.plain.varTypes Tryz.prog ++ Tryz.f9.resultTypes.toList)) = true := by kernel_rfl
theorem and_mk {a b : Bool} (h : a = true) (k : b = true) : (a && b) = true := by rw [h, k]; rfl
set_option maxRecDepth 100000 in
theorem hostNone_closed : joinedFacts Tryz.prog 9 Tryz.f9 Rows.hostNoneSpec Rows.hostNoneRow = true := by
  unfold joinedFacts
  exact and_mk (and_mk (and_mk (and_mk (and_mk (and_mk (and_mk (and_mk (and_mk (and_mk (and_mk (and_mk (and_mk (and_mk (and_mk (and_mk (and_mk (and_mk (and_mk (and_mk (and_mk (and_mk (and_mk (and_mk (and_mk (and_mk (and_mk (and_mk (and_mk (and_mk (and_mk hostNone_j0 hostNone_j1) hostNone_j2) hostNone_j3) hostNone_j4) hostNone_j5) hostNone_j6) hostNone_j7) hostNone_j8) hostNone_j9) hostNone_j10) hostNone_j11) hostNone_j12) hostNone_j13) hostNone_j14) hostNone_j15) hostNone_j16) hostNone_j17) hostNone_j18) hostNone_j19) hostNone_j20) hostNone_j21) hostNone_j22) hostNone_j23) hostNone_j24) hostNone_j25) hostNone_j26) hostNone_j27) hostNone_j28) hostNone_j29) hostNone_j30) hostNone_j31
theorem hostNone_k0 : Rows.hostNoneRow.wfByText (OpenSpec.ofChange Rows.hostNoneSpec) = true := by kernel_rfl
theorem hostNone_k1 : Tryz.pinned.checked.prog.mainIs = some (true, "cb3a7f2a92e4575e23242b1cfb0549c90f7f3526f8b68fa41a34c8fd2a1fa9ac".toList) := by kernel_rfl
theorem hostNone_k2 : true = Tryz.pinned.checked.prog.looks [] := by kernel_rfl
theorem hostNone_k3 : false = Rows.hostNoneRow.goesBy Tryz.pinned.checked.prog := by kernel_rfl
theorem hostNone_k4 : Tryz.prog.funcNamed "trunkline/trunklinelaw17.HostNone" = some 9 := by kernel_rfl
theorem hostNone_k5 : Tryz.f9.params.toList.all (fun t => Tryz.prog.wantsStandIn t == false) = true := by kernel_rfl
end Go.Proofs.YtebjbnohljndjaaGreatDoor
