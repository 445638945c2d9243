/-
  The closed facts of HostOpens's row, each by itself.
-/
import Derived.Test.YtebjbnohljndjaaGreatDoorRows
import Derived.JoinedOf
import Derived.KernelRfl
import Derived.SevenTiedAt
set_option linter.unusedVariables false
namespace Go.Proofs.YtebjbnohljndjaaGreatDoor
open Go
theorem hostOpens_j0 : (Rows.hostOpensRow.wf (OpenSpec.ofChange Rows.hostOpensSpec)) = true := by kernel_rfl
theorem hostOpens_j1 : (laidOutB Tryz.prog) = true := by kernel_rfl
theorem hostOpens_j2 : (mapsRowed Tryz.prog) = true := by kernel_rfl
theorem hostOpens_j3 : (Tryz.f5.params.all (Tryz.prog.readableRec ·)) = true := by kernel_rfl
theorem hostOpens_j4 : (namedTie Tryz.prog Rows.hostOpensRow.named Rows.hostOpensSpec.vars) = true := by kernel_rfl
theorem hostOpens_j5 : ((Rows.hostOpensRow.stops == [])) = true := by kernel_rfl
theorem hostOpens_j6 : ((Tryz.prog.stops == [])) = true := by kernel_rfl
theorem hostOpens_j7 : ((Rows.hostOpensRow.knobs == [])) = true := by kernel_rfl
theorem hostOpens_j8 : ((Tryz.prog.stopKnobs == [])) = true := by kernel_rfl
theorem hostOpens_j9 : ((Rows.hostOpensRow.inPlace == Tryz.prog.inPlace 5)) = true := by kernel_rfl
theorem hostOpens_j10 : ((Rows.hostOpensRow.unfollowed == Tryz.prog.unfollowed 5)) = true := by kernel_rfl
theorem hostOpens_j11 : ((Rows.hostOpensRow.recurses == Tryz.prog.recurses 5)) = true := by kernel_rfl
theorem hostOpens_j12 : ((Rows.hostOpensRow.named == Tryz.prog.varsNamed 5)) = true := by kernel_rfl
theorem hostOpens_j13 : ((Rows.hostOpensRow.maps == (Tryz.f5.params.toList ++ Rows.hostOpensSpec.plain.varTypes Tryz.prog).any (Tryz.prog.mapsRec ·))) = true := by kernel_rfl
theorem hostOpens_j14 : ((Rows.hostOpensRow.ifaces == (Tryz.f5.params.toList ++ Rows.hostOpensSpec.plain.varTypes Tryz.prog).any (Tryz.prog.ifacesRec ·))) = true := by kernel_rfl
theorem hostOpens_j15 : ((Rows.hostOpensRow.mapsOut == Tryz.prog.mapsAmong Tryz.f5.resultTypes.toList)) = true := by kernel_rfl
theorem hostOpens_j16 : ((Rows.hostOpensRow.loops == (Tryz.f5.params.toList ++ Rows.hostOpensSpec.plain.varTypes Tryz.prog).any (Tryz.prog.loopsFrom ·))) = true := by kernel_rfl
theorem hostOpens_j17 : ((Rows.hostOpensRow.wideKeys == (Tryz.f5.params.toList ++ Rows.hostOpensSpec.plain.varTypes Tryz.prog ++ Tryz.f5.resultTypes.toList).any (Tryz.prog.wideKeysFrom ·))) = true := by kernel_rfl
theorem hostOpens_j18 : (Rows.hostOpensSpec.vars.all (Tryz.prog.varReadable ·)) = true := by kernel_rfl
theorem hostOpens_j19 : (Tryz.f5.resultTypes.all (fun t => Tryz.prog.readableRec t && decide (t < Tryz.prog.types.size))) = true := by kernel_rfl
theorem hostOpens_j20 : ((Rows.hostOpensRow.ifacesOut == Tryz.f5.resultTypes.toList.any (Tryz.prog.ifacesRec ·))) = true := by kernel_rfl
theorem hostOpens_j21 : ((Rows.hostOpensRow.loopsOut == Tryz.f5.resultTypes.toList.any (Tryz.prog.loopsFrom ·))) = true := by kernel_rfl
theorem hostOpens_j22 : ((Rows.hostOpensRow.plainKeys == Tryz.prog.plainKeys)) = true := by kernel_rfl
theorem hostOpens_j23 : (Rows.hostOpensRow.shortTexts.isNone) = true := by kernel_rfl
theorem hostOpens_j24 : (Tryz.prog.stopsHeard) = true := by kernel_rfl
theorem hostOpens_j25 : (Tryz.prog.mayEnter) = true := by kernel_rfl
theorem hostOpens_j26 : ((Rows.hostOpensRow.lifted == Tryz.prog.liftsFinal)) = true := by kernel_rfl
theorem hostOpens_j27 : ((Tryz.prog.make == some Rows.hostOpensRow.make)) = true := by kernel_rfl
theorem hostOpens_j28 : ((Rows.hostOpensRow.kinds == (if Rows.hostOpensRow.domain.isEmpty then [] else Tryz.f5.params.toList.map fun t => match Tryz.prog.underlying t with | some (.int k) => some k | _ => none))) = true := by kernel_rfl
theorem hostOpens_j29 : ((Rows.hostOpensRow.pinned == Rows.hostOpensRow.pinnedBy)) = true := by kernel_rfl
theorem hostOpens_j30 : ((Rows.hostOpensRow.veiled == (Tryz.f5.params.toList ++ Rows.hostOpensSpec.plain.varTypes Tryz.prog ++ Tryz.f5.resultTypes.toList).any (Tryz.prog.veiledRec ·))) = true := by kernel_rfl
theorem hostOpens_j31 : (Rows.hostOpensRow.veiledFits Tryz.prog Tryz.f5.params.toList (Tryz.f5.params.toList ++ Rows.hostOpensSpec.plain.varTypes Tryz.prog ++ Tryz.f5.resultTypes.toList)) = true := by kernel_rfl
theorem and_mk {a b : Bool} (h : a = true) (k : b = true) : (a && b) = true := by rw [h, k]; rfl
set_option maxRecDepth 100000 in
theorem hostOpens_closed : joinedFacts Tryz.prog 5 Tryz.f5 Rows.hostOpensSpec Rows.hostOpensRow = true := by
  unfold joinedFacts
  exact and_mk (and_mk (and_mk (and_mk (and_mk (and_mk (and_mk (and_mk (and_mk (and_mk (and_mk (and_mk (and_mk (and_mk (and_mk (and_mk (and_mk (and_mk (and_mk (and_mk (and_mk (and_mk (and_mk (and_mk (and_mk (and_mk (and_mk (and_mk (and_mk (and_mk (and_mk hostOpens_j0 hostOpens_j1) hostOpens_j2) hostOpens_j3) hostOpens_j4) hostOpens_j5) hostOpens_j6) hostOpens_j7) hostOpens_j8) hostOpens_j9) hostOpens_j10) hostOpens_j11) hostOpens_j12) hostOpens_j13) hostOpens_j14) hostOpens_j15) hostOpens_j16) hostOpens_j17) hostOpens_j18) hostOpens_j19) hostOpens_j20) hostOpens_j21) hostOpens_j22) hostOpens_j23) hostOpens_j24) hostOpens_j25) hostOpens_j26) hostOpens_j27) hostOpens_j28) hostOpens_j29) hostOpens_j30) hostOpens_j31
theorem hostOpens_k0 : Rows.hostOpensRow.wfByText (OpenSpec.ofChange Rows.hostOpensSpec) = true := by kernel_rfl
theorem hostOpens_k1 : Tryz.pinned.checked.prog.mainIs = some (true, "cb3a7f2a92e4575e23242b1cfb0549c90f7f3526f8b68fa41a34c8fd2a1fa9ac".toList) := by kernel_rfl
theorem hostOpens_k2 : true = Tryz.pinned.checked.prog.looks [] := by kernel_rfl
theorem hostOpens_k3 : false = Rows.hostOpensRow.goesBy Tryz.pinned.checked.prog := by kernel_rfl
theorem hostOpens_k4 : Tryz.prog.funcNamed "trunkline/trunklinelaw17.HostOpens" = some 5 := by kernel_rfl
theorem hostOpens_k5 : Tryz.f5.params.toList.all (fun t => Tryz.prog.wantsStandIn t == false) = true := by kernel_rfl
end Go.Proofs.YtebjbnohljndjaaGreatDoor
