/-
  For every number, message and bytes: a nil host answers so; ticks that may not be are refused (HostNone).
  No condition but those that the row itself bears.
-/
import Derived.Test.YtebjbnohljndjaaGreatDoorRows
import Derived.Test.YtebjbnohljndjaaGreatDoorLaw
import Derived.Test.YtebjbnohljndjaaGreatDoorLawL
import Derived.Test.YtebjbnohljndjaaGreatDoorTie
import Derived.Test.YtebjbnohljndjaaGreatDoorCards
import Derived.Test.YtebjbnohljndjaaGreatDoorEvF
import Derived.SevenTiedAt
import Derived.LaidHandle
import Derived.Test.YtebjbnohljndjaaGreatDoorEvNo
set_option linter.unusedVariables false
set_option linter.unusedSimpArgs false
namespace Go.Proofs.YtebjbnohljndjaaGreatDoor
open Go.ChangeShapes Go.WideShapes Go.ChangeAt Go.RowKit

set_option maxRecDepth 100000 in
theorem msg_cells {W : World} {base : Nat} {v : Value} (h : Value.okWide Tryz.prog W .any base 86 v) : ∃ a0 a1 a2 a3 a4, v = .agg #[a0, a1, a2, a3, a4] ∧ a0.oneCell' = true ∧ a1.oneCell' = true ∧ a2.oneCell' = true ∧ a3.oneCell' = true ∧ a4.oneCell' = true := by
  obtain ⟨cs, rfl, hsz, ts, _, _, hc⟩ : ∃ cs, v = .agg cs ∧ cs.size = Tryz.prog.cellsOf 86 ∧ Row.okWide Tryz.prog W .any base 86 cs := by
    simpa [Value.okWide, Tryz.underlying86] using h
  have hs5 : cs.size = 5 := hsz.trans (by kernel_rfl)
  obtain ⟨c0, c1, c2, c3, c4, rfl⟩ : ∃ c0 c1 c2 c3 c4, cs = #[c0, c1, c2, c3, c4] := by
    obtain ⟨l⟩ := cs
    match l, hs5 with
    | [a, b, c, d, e], _ => exact ⟨a, b, c, d, e, rfl⟩
  refine ⟨c0, c1, c2, c3, c4, rfl, ?_, ?_, ?_, ?_, ?_⟩
  · obtain ⟨u, _, q⟩ := hc 0 c0 rfl; exact cell_one q
  · obtain ⟨u, _, q⟩ := hc 1 c1 rfl; exact cell_one q
  · obtain ⟨u, _, q⟩ := hc 2 c2 rfl; exact cell_one q
  · obtain ⟨u, _, q⟩ := hc 3 c3 rfl; exact cell_one q
  · obtain ⟨u, _, q⟩ := hc 4 c4 rfl; exact cell_one q
def kInts : List Int := [1116352408, 1899447441, 3049323471, 3921009573, 961987163, 1508970993, 2453635748, 2870763221, 3624381080, 310598401, 607225278, 1426881987, 1925078388, 2162078206, 2614888103, 3248222580, 3835390401, 4022224774, 264347078, 604807628, 770255983, 1249150122, 1555081692, 1996064986, 2554220882, 2821834349, 2952996808, 3210313671, 3336571891, 3584528711, 113926993, 338241895, 666307205, 773529912, 1294757372, 1396182291, 1695183700, 1986661051, 2177026350, 2456956037, 2730485921, 2820302411, 3259730800, 3345764771, 3516065817, 3600352804, 4094571909, 275423344, 430227734, 506948616, 659060556, 883997877, 958139571, 1322822218, 1537002063, 1747873779, 1955562222, 2024104815, 2227730452, 2361852424, 2428436474, 2756734187, 3204031479, 3329325298]
noncomputable def laidWorld (os : Os) : World :=
  { World.holding Tryz.prog os ⟨#[], #[], []⟩ with heap := (World.holding Tryz.prog os ⟨#[], #[], []⟩).heap.modify 0 fun
      | .cells _ t frozen => .cells (kInts.map fun z => Value.int .u32 z).toArray t frozen
      | o => o }
theorem laid_met (os : Os) (args : Array Value) : laidMetH Tryz.prog [("trunkline/hash.k", Rows.laid_trunkline_hash_k)] ((laidWorld os).forCall (fun _ _ => 0) ⟨#[], args, []⟩).memory :=
  (laidMet_of_run' 8 (by kernel_rfl) (by kernel_rfl) : laidMet Tryz.prog [("trunkline/hash.k", Rows.laid_trunkline_hash_k)] ((laidWorld os).forCall (fun _ _ => 0) ⟨#[], args, []⟩).memory)
theorem Tryz.own : ownKnob Tryz.prog.godebug = none := by kernel_rfl
theorem Tryz.laidOut : laidOutB Tryz.prog = true := by kernel_rfl

set_option maxRecDepth 100000 in
theorem HostNone_lifted (os : Os) (started : os.Started) (H : Type) (enc : TypeId × Value → H) :
    ReturnsInHanded {} Tryz.checked os 9 .any (fun w args => (Rows.hostNoneSpec.pre enc Tryz.prog Tryz.f9 [] false w args ∧ laidMetH Tryz.prog Rows.hostNoneRow.laid w) ∧ sizedMet enc Tryz.prog Tryz.f9 (OpenSpec.ofChange Rows.hostNoneSpec) false w args) (Rows.hostNoneSpec.post enc Tryz.prog Tryz.f9 false true false false) := by
  refine law_liftL (X := fun w => laidMetH Tryz.prog Rows.hostNoneRow.laid w) (fun _ _ hh h => h.of_heap hh) (C := Tryz.checked) Tryz.own started (by kernel_rfl) Tryz.func9
    (ChangeSpec.witness_at (enc := enc) (C := Tryz.checked) (os := os) (X := fun w _ => laidMetH Tryz.prog Rows.hostNoneRow.laid w) false (laidWorld os) #[.int .i64 0, .agg #[.int .u16 0, .int .u16 0, .int .u32 0, .bool false, .slice none 0 0], .slice none 0 0] 8 rfl (by kernel_rfl) (by kernel_rfl) (by kernel_rfl) (by kernel_rfl) (by kernel_rfl) (laid_met os _)) Tryz.laidOut rfl rfl Tryz.underlying4 ?_ ?_ ?_
  · rw [Tryz.params9]; intro t ht; simp at ht; (first | subst ht | (rcases ht with rfl | rfl) | (rcases ht with rfl | rfl | rfl))
    all_goals exact ⟨by kernel_rfl, of_decide_eq_true (by kernel_rfl)⟩
  · rw [Tryz.params9]; intro ds hd
    match ds, hd with
    | [d0, d1, d2], _ => rfl
  · rw [Tryz.params9]
    intro W base args ds p hL hval hA hlt hsz
    obtain ⟨v0, v1, v2, d0, d1, d2, p0, p1, p2, rfl, rfl, rfl, h0, h1, h2⟩ := trodAll_three hA
    obtain ⟨x0, rfl, rfl, rfl, w0⟩ := open_int Tryz.underlying3 (hval 0 _ v0 rfl rfl) h0
    have r0 := int_wf w0
    simp [IntKind.min, IntKind.max, IntKind.signed, IntKind.bits] at r0
    obtain ⟨a0, a1, a2, a3, a4, rfl, k0, k1, k2, k3, k4⟩ := msg_cells (hval 1 _ v1 rfl rfl)
    obtain ⟨A2, len2, cap2, rfl⟩ := okWide_slice Tryz.underlying22 (hval 2 _ v2 rfl rfl)
    exact HostNone_calls W x0 (by omega) (by omega) a0 a1 a2 a3 a4 _ k0 k1 k2 k3 k4 rfl

theorem HostNone_holds : Rows.HostNoneSaid :=
  OpenClaim.holds_of_wide 9 Tryz.f9 rfl rfl rfl rfl rfl rfl rfl ⟨rfl, rfl, rfl, rfl, rfl⟩ rfl rfl rfl rfl rfl (by kernel_rfl) Tryz.func9 hostNone_closed
    (of_decide_eq_true (by kernel_rfl)) (by unfold Func.isWrapper; first | (rw [if_pos (by decide +kernel)]; kernel_rfl) | (rw [if_neg (by decide +kernel)]; exact ⟨rfl, rfl⟩))
    (fun os started H enc _ => HostNone_lifted os started H enc)

theorem HostNone_card : Rows.HostNoneCardSaid :=
  Claim7.holds_tied_plain_at .later [] [.data] true (true, "cb3a7f2a92e4575e23242b1cfb0549c90f7f3526f8b68fa41a34c8fd2a1fa9ac") true
    HostNone_holds (fun _ h => by cases h) hostNone_k0 (fun _ h => by cases h) hostNone_row_tie rfl ⟨rfl, rfl⟩ hostNone_k1 rfl
    (fun f fn hf hfn => by
      obtain rfl : f = 9 := Option.some.inj ((show Tryz.prog.funcNamed "trunkline/trunklinelaw17.HostNone" = some 9 from hostNone_k4).symm.trans hf) |>.symm
      obtain rfl : fn = Tryz.f9 := (Option.some.inj (Tryz.func9.symm.trans hfn)).symm
      exact ⟨hostNone_k2, fun j t ht => by
        rw [Tryz.params9] at ht
        have h3 : t ∈ Tryz.f9.params.toList := by
          rw [Tryz.params9]
          exact List.mem_of_getElem? (by simpa using ht)
        exact eq_of_beq (List.all_eq_true.1 hostNone_k5 t h3)⟩)
    hostNone_k3
#print axioms HostNone_card

end Go.Proofs.YtebjbnohljndjaaGreatDoor
