/-
  For every settings: with which a host may be (HostOpens).
  No condition but those that the row itself bears.
-/
import Derived.Test.YtebjbnohljndjaaGreatDoorRows
import Derived.Test.YtebjbnohljndjaaGreatDoorLaw
import Derived.Test.YtebjbnohljndjaaGreatDoorLawL
import Derived.Test.YtebjbnohljndjaaGreatDoorTie
import Derived.Test.YtebjbnohljndjaaGreatDoorCards
import Derived.Test.YtebjbnohljndjaaGreatDoorEvOF
import Derived.Test.YtebjbnohljndjaaGreatDoorEvOc
import Derived.SevenTiedAt
import Derived.LaidHandle
import Derived.Deep.Slices
import Derived.Deep.Fields
import Derived.OpenShut
set_option linter.unusedVariables false
set_option linter.unusedSimpArgs false
namespace Go.Proofs.YtebjbnohljndjaaGreatDoor
open Go.ChangeShapes Go.WideShapes Go.ChangeAt Go.Deep Go.RowKit

theorem open_arr2C {H : Type} {enc : TypeId × Value → H} {P : Program} {W : World} {t e : TypeId} {k : IntKind} {fuel : Nat} {c0 c1 : Value} {x : DataW H × List MemPlace} (ht : P.underlying t = some (.array 2 e)) (he : P.underlying e = some (.int k)) (hc : P.cellsOf e = 1)
    (hf : DataW.trod enc P W 0 (fun _ => true) true fuel t [c0, c1] = some x) : ∃ x0 x1, c0 = .int k x0 ∧ c1 = .int k x1 ∧ (Lit.int k x0).wf = true ∧ (Lit.int k x1).wf = true := by
  obtain ⟨xs, m, _, hx, _, hxl, hall⟩ := DataW.trod_array ht hf
  have g0 := hall 0 (by omega)
  have g1 := hall 1 (by omega)
  rw [hc] at g0 g1
  simp at g0 g1
  match xs, hxl with
  | [y0, y1], _ =>
    simp at g0 g1
    obtain ⟨x0, e0, ey0, w0⟩ := DataW.trod_int he g0
    obtain ⟨x1, e1, ey1, w1⟩ := DataW.trod_int he g1
    simp at e0 e1
    exact ⟨x0, x1, e0, e1, w0, w1⟩
set_option maxRecDepth 100000 in
theorem open_cfg {H : Type} {enc : TypeId × Value → H} {W : World} {base : Nat} {v : Value} {d : DataW H} {p : List MemPlace}
    (hval : Value.okWide Tryz.prog W .any base 32 v) (h : DataW.Trod enc Tryz.prog W 0 (fun _ => true) true 32 v d p) :
    ∃ m0 m1 a0 a1 q0 q1 mt rg st, v = .agg #[.int .u64 m0, .int .u64 m1, .int .u32 a0, .int .u32 a1, .int .u32 q0, .int .u32 q1, .int .i64 mt, .int .i64 rg, .int .i64 st] ∧ (0 ≤ m0 ∧ m0 ≤ 18446744073709551615) ∧ (0 ≤ m1 ∧ m1 ≤ 18446744073709551615) ∧ (0 ≤ a0 ∧ a0 ≤ 4294967295) ∧ (0 ≤ a1 ∧ a1 ≤ 4294967295) ∧ (0 ≤ q0 ∧ q0 ≤ 4294967295) ∧ (0 ≤ q1 ∧ q1 ≤ 4294967295) ∧
      (-9223372036854775808 ≤ mt ∧ mt ≤ 9223372036854775807) ∧ (-9223372036854775808 ≤ rg ∧ rg ≤ 9223372036854775807) ∧ (-9223372036854775808 ≤ st ∧ st ≤ 9223372036854775807) := by
  obtain ⟨cs, rfl, hsz, _⟩ : ∃ cs, v = .agg cs ∧ cs.size = Tryz.prog.cellsOf 32 ∧ Row.okWide Tryz.prog W .any base 32 cs := by
    simpa [Value.okWide, Tryz.underlying32] using hval
  rw [show Tryz.prog.cellsOf 32 = 9 from by kernel_rfl] at hsz
  obtain ⟨c0, c1, c2, c3, c4, c5, c6, c7, c8, rfl⟩ : ∃ c0 c1 c2 c3 c4 c5 c6 c7 c8, cs = #[c0, c1, c2, c3, c4, c5, c6, c7, c8] := by
    obtain ⟨l⟩ := cs
    match l, hsz with
    | [a0, a1, a2, a3, a4, a5, a6, a7, a8], _ => exact ⟨a0, a1, a2, a3, a4, a5, a6, a7, a8, rfl⟩
  obtain ⟨fuel, hf⟩ := h
  obtain ⟨ys, n', _, _, _, hyl, hfld⟩ := DataW.trod_struct Tryz.underlying32 hf
  have t0 : DataW.trod enc Tryz.prog W 0 (fun _ => true) true n' 29 [c0, c1] = ys[0]? := hfld 0 _ rfl
  have t1 : DataW.trod enc Tryz.prog W 0 (fun _ => true) true n' 30 [c2, c3] = ys[1]? := hfld 1 _ rfl
  have t2 : DataW.trod enc Tryz.prog W 0 (fun _ => true) true n' 30 [c4, c5] = ys[2]? := hfld 2 _ rfl
  have t3 : DataW.trod enc Tryz.prog W 0 (fun _ => true) true n' 3 [c6] = ys[3]? := hfld 3 _ rfl
  have t4 : DataW.trod enc Tryz.prog W 0 (fun _ => true) true n' 3 [c7] = ys[4]? := hfld 4 _ rfl
  have t5 : DataW.trod enc Tryz.prog W 0 (fun _ => true) true n' 3 [c8] = ys[5]? := hfld 5 _ rfl
  rw [List.getElem?_eq_getElem (show 0 < ys.length by rw [hyl]; decide)] at t0
  rw [List.getElem?_eq_getElem (show 1 < ys.length by rw [hyl]; decide)] at t1
  rw [List.getElem?_eq_getElem (show 2 < ys.length by rw [hyl]; decide)] at t2
  rw [List.getElem?_eq_getElem (show 3 < ys.length by rw [hyl]; decide)] at t3
  rw [List.getElem?_eq_getElem (show 4 < ys.length by rw [hyl]; decide)] at t4
  rw [List.getElem?_eq_getElem (show 5 < ys.length by rw [hyl]; decide)] at t5
  obtain ⟨x0, x1, e0, e1, w0, w1⟩ := open_arr2C Tryz.underlying29 Tryz.underlying28 (by kernel_rfl) t0
  obtain ⟨x2, x3, e2, e3, w2, w3⟩ := open_arr2C Tryz.underlying30 Tryz.underlying27 (by kernel_rfl) t1
  obtain ⟨x4, x5, e4, e5, w4, w5⟩ := open_arr2C Tryz.underlying30 Tryz.underlying27 (by kernel_rfl) t2
  obtain ⟨x6, e6, _, w6⟩ := DataW.trod_int Tryz.underlying3 t3
  obtain ⟨x7, e7, _, w7⟩ := DataW.trod_int Tryz.underlying3 t4
  obtain ⟨x8, e8, _, w8⟩ := DataW.trod_int Tryz.underlying3 t5
  simp at e6 e7 e8
  subst e0 e1 e2 e3 e4 e5 e6 e7 e8
  have r0 := int_wf w0
  have r1 := int_wf w1
  have r2 := int_wf w2
  have r3 := int_wf w3
  have r4 := int_wf w4
  have r5 := int_wf w5
  have r6 := int_wf w6
  have r7 := int_wf w7
  have r8 := int_wf w8
  simp [IntKind.min, IntKind.max, IntKind.signed, IntKind.bits] at r0 r1 r2 r3 r4 r5 r6 r7 r8
  exact ⟨x0, x1, x2, x3, x4, x5, x6, x7, x8, rfl, ⟨by omega, by omega⟩, ⟨by omega, by omega⟩, ⟨by omega, by omega⟩, ⟨by omega, by omega⟩, ⟨by omega, by omega⟩, ⟨by omega, by omega⟩, ⟨by omega, by omega⟩, ⟨by omega, by omega⟩, ⟨by omega, by omega⟩⟩
def kInts : List Int := [1116352408, 1899447441, 3049323471, 3921009573, 961987163, 1508970993, 2453635748, 2870763221, 3624381080, 310598401, 607225278, 1426881987, 1925078388, 2162078206, 2614888103, 3248222580, 3835390401, 4022224774, 264347078, 604807628, 770255983, 1249150122, 1555081692, 1996064986, 2554220882, 2821834349, 2952996808, 3210313671, 3336571891, 3584528711, 113926993, 338241895, 666307205, 773529912, 1294757372, 1396182291, 1695183700, 1986661051, 2177026350, 2456956037, 2730485921, 2820302411, 3259730800, 3345764771, 3516065817, 3600352804, 4094571909, 275423344, 430227734, 506948616, 659060556, 883997877, 958139571, 1322822218, 1537002063, 1747873779, 1955562222, 2024104815, 2227730452, 2361852424, 2428436474, 2756734187, 3204031479, 3329325298]
noncomputable def laidWorld (os : Os) : World :=
  { World.holding Tryz.prog os ⟨#[], #[], []⟩ with heap := (World.holding Tryz.prog os ⟨#[], #[], []⟩).heap.modify 0 fun
      | .cells _ t frozen => .cells (kInts.map fun z => Value.int .u32 z).toArray t frozen
      | o => o }
theorem laid_met (os : Os) (args : Array Value) : laidMetH Tryz.prog [("trunkline/hash.k", Rows.laid_trunkline_hash_k)] ((laidWorld os).forCall (fun _ _ => 0) ⟨#[], args, []⟩).memory :=
  (laidMet_of_run' 8 (by kernel_rfl) (by kernel_rfl) : laidMet Tryz.prog [("trunkline/hash.k", Rows.laid_trunkline_hash_k)] ((laidWorld os).forCall (fun _ _ => 0) ⟨#[], args, []⟩).memory)
theorem Tryz.own : ownKnob Tryz.prog.godebug = none := by kernel_rfl
theorem Tryz.laidOut : laidOutB Tryz.prog = true := by kernel_rfl

set_option maxRecDepth 100000 in
theorem HostOpens_lifted (os : Os) (started : os.Started) (H : Type) (enc : TypeId × Value → H) :
    ReturnsInHanded {} Tryz.checked os 5 .any (fun w args => (Rows.hostOpensSpec.pre enc Tryz.prog Tryz.f5 [] false w args ∧ laidMetH Tryz.prog Rows.hostOpensRow.laid w) ∧ sizedMet enc Tryz.prog Tryz.f5 (OpenSpec.ofChange Rows.hostOpensSpec) false w args) (Rows.hostOpensSpec.post enc Tryz.prog Tryz.f5 false true false false) := by
  refine law_liftL (X := fun w => laidMetH Tryz.prog Rows.hostOpensRow.laid w) (fun _ _ hh h => h.of_heap hh) (C := Tryz.checked) Tryz.own started (by kernel_rfl) Tryz.func5
    (ChangeSpec.witness_at (enc := enc) (C := Tryz.checked) (os := os) (X := fun w _ => laidMetH Tryz.prog Rows.hostOpensRow.laid w) false (laidWorld os) #[.agg #[.int .u64 0, .int .u64 0, .int .u32 0, .int .u32 0, .int .u32 0, .int .u32 0, .int .i64 0, .int .i64 0, .int .i64 0]] 8 rfl (by kernel_rfl) (by kernel_rfl) (by kernel_rfl) (by kernel_rfl) (by kernel_rfl) (laid_met os _)) Tryz.laidOut rfl rfl Tryz.underlying4 ?_ ?_ ?_
  · rw [Tryz.params5]; intro t ht; simp at ht; (first | subst ht | (rcases ht with rfl | rfl) | (rcases ht with rfl | rfl | rfl))
    all_goals exact ⟨by kernel_rfl, of_decide_eq_true (by kernel_rfl)⟩
  · rw [Tryz.params5]; intro ds hd
    match ds, hd with
    | [d0], _ => rfl
  · rw [Tryz.params5]
    intro W base args ds p hL hval hA hlt hsz
    obtain ⟨v0, d0, rfl, rfl, h0⟩ := trodAll_one hA
    obtain ⟨m0, m1, a0, a1, q0, q1, mt, rg, st, rfl, r0, r1, r2, r3, r4, r5, r6, r7, r8⟩ := open_cfg (hval 0 _ v0 rfl rfl) h0
    exact HostOpens_calls W m0 m1 a0 a1 q0 q1 mt rg st r0 r1 r2 r3 r4 r5 r6 r7 r8

theorem HostOpens_holds : Rows.HostOpensSaid :=
  OpenClaim.holds_of_wide 5 Tryz.f5 rfl rfl rfl rfl rfl rfl rfl ⟨rfl, rfl, rfl, rfl, rfl⟩ rfl rfl rfl rfl rfl (by kernel_rfl) Tryz.func5 hostOpens_closed
    (of_decide_eq_true (by kernel_rfl)) (by unfold Func.isWrapper; first | (rw [if_pos (by decide +kernel)]; kernel_rfl) | (rw [if_neg (by decide +kernel)]; exact ⟨rfl, rfl⟩))
    (fun os started H enc _ => HostOpens_lifted os started H enc)

theorem HostOpens_card : Rows.HostOpensCardSaid :=
  Claim7.holds_tied_plain_at .later [] [.data] true (true, "cb3a7f2a92e4575e23242b1cfb0549c90f7f3526f8b68fa41a34c8fd2a1fa9ac") true
    HostOpens_holds (fun _ h => by cases h) hostOpens_k0 (fun _ h => by cases h) hostOpens_row_tie rfl ⟨rfl, rfl⟩ hostOpens_k1 rfl
    (fun f fn hf hfn => by
      obtain rfl : f = 5 := Option.some.inj ((show Tryz.prog.funcNamed "trunkline/trunklinelaw17.HostOpens" = some 5 from hostOpens_k4).symm.trans hf) |>.symm
      obtain rfl : fn = Tryz.f5 := (Option.some.inj (Tryz.func5.symm.trans hfn)).symm
      exact ⟨hostOpens_k2, fun j t ht => by
        rw [Tryz.params5] at ht
        have h3 : t ∈ Tryz.f5.params.toList := by
          rw [Tryz.params5]
          exact List.mem_of_getElem? (by simpa using ht)
        exact eq_of_beq (List.all_eq_true.1 hostOpens_k5 t h3)⟩)
    hostOpens_k3
#print axioms HostOpens_card

end Go.Proofs.YtebjbnohljndjaaGreatDoor
