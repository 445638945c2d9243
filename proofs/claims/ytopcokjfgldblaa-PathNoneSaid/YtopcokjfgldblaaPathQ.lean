/-
  LAYER 15, WALK: PathPlays; PathNone.
-/
import Derived.Test.YtopcokjfgldblaaPathP
import Derived.LoopTactic
set_option linter.unusedVariables false
set_option linter.unusedSimpArgs false
namespace Go.Proofs.Ytopcokjfgldblaa
open Go.RowKit

attribute [local go_sem] fw0 fw1 fw2 fw3 fw4 fw5 fw6 fw7 fw8 neqw eqlw

set_option maxHeartbeats 1000000 in
theorem PathPlays_calls (mtu : Int) (hm0 : -9223372036854775808 ≤ mtu) (hm1 : mtu ≤ 9223372036854775807) (c la : Nat) (A : Option Addr) (ds : List DeedR) (hla : ds.length = la) (w : World) (hR : RdD w A ds) (hO : DeedsOk ds) (hca : la ≤ c) (hcm : c ≤ 9223372036854775807) :
    Calls Try.prog 6 #[.int .i64 mtu, .slice A la c] w fun e w' => e = .returned (.bool true) ∧ Below w.heap.size w w' := by
  by_cases hb : mtu < 64 ∨ 1500 < mtu
  · have K := hid (play_bad mtu hb hm0 hm1 c la A w)
    clear hb hR hO hla
    go_enter Try.func6, Try.ntmps6
    go_wp2_with (first | (go_at_call 20; refine Calls.mono K.out ?_; rintro e w1 ⟨rfl, hB1⟩) | (go_at_call 14; refine Calls.mono (live_calls _) ?_; rintro e w2 ⟨rfl, hB2⟩))
    go_ret
    exact ⟨rfl, below_then hB1 hB2⟩
  · have K := hid (play_calls mtu (by omega) (by omega) c la A ds hla w hR hO hca hcm)
    clear hb hR hO hla
    go_enter Try.func6, Try.ntmps6
    go_wp2_with (first | (go_at_call 20; refine Calls.mono K.out ?_; rintro e w1 ⟨gy, p, rfl, hlt, hP, ok, hB1⟩) | (go_at_call 14; refine Calls.mono (live_calls _) ?_; rintro e w2 ⟨rfl, hB2⟩))
    go_ret
    exact ⟨rfl, below_then hB1 hB2⟩

set_option maxRecDepth 100000 in
theorem nil_Late (a b n : Int) (w : World) : Calls Try.prog 16 #[.pointer none] w fun e w' => e = .returned (.tuple #[.bool false, .int .i64 1]) ∧ w = w' := by
  go_enter Try.func16, Try.ntmps16
  go_wp2
  go_ret2
  exact ⟨rfl, rfl⟩
set_option maxRecDepth 100000 in
theorem nil_Fault (a b n : Int) (w : World) : Calls Try.prog 17 #[.pointer none] w fun e w' => e = .returned (.tuple #[.bool false, .int .i64 1]) ∧ w = w' := by
  go_enter Try.func17, Try.ntmps17
  go_wp2
  go_ret2
  exact ⟨rfl, rfl⟩
set_option maxRecDepth 100000 in
theorem nil_Answer (a b n : Int) (w : World) : Calls Try.prog 24 #[.pointer none, .int .u64 n, .int .i64 a] w fun e w' => e = .returned (.tuple #[.bool false, .int .i64 1]) ∧ w = w' := by
  go_enter Try.func24, Try.ntmps24
  go_wp2
  go_ret2
  exact ⟨rfl, rfl⟩
set_option maxRecDepth 100000 in
theorem nil_Sample (a b n : Int) (w : World) : Calls Try.prog 12 #[.pointer none, .int .i64 a] w fun e w' => e = .returned (.int .i64 1) ∧ w = w' := by
  go_enter Try.func12, Try.ntmps12
  go_wp2
  go_ret
  exact ⟨rfl, rfl⟩
set_option maxRecDepth 100000 in
theorem nil_Grow (a b n : Int) (w : World) : Calls Try.prog 18 #[.pointer none, .int .i64 a, .bool true, .int .i64 b] w fun e w' => e = .returned (.int .i64 1) ∧ w = w' := by
  go_enter Try.func18, Try.ntmps18
  go_wp2
  go_ret
  exact ⟨rfl, rfl⟩
set_option maxRecDepth 100000 in
theorem nil_Fast (a b n : Int) (w : World) : Calls Try.prog 19 #[.pointer none] w fun e w' => e = .returned (.int .i64 1) ∧ w = w' := by
  go_enter Try.func19, Try.ntmps19
  go_wp2
  go_ret
  exact ⟨rfl, rfl⟩
set_option maxRecDepth 100000 in
theorem nil_Good (a b n : Int) (w : World) : Calls Try.prog 15 #[.pointer none] w fun e w' => e = .returned (.int .i64 1) ∧ w = w' := by
  go_enter Try.func15, Try.ntmps15
  go_wp2
  go_ret
  exact ⟨rfl, rfl⟩
set_option maxRecDepth 100000 in
theorem nil_Beat (a b n : Int) (w : World) : Calls Try.prog 23 #[.pointer none, .int .u64 n, .int .i64 a] w fun e w' => e = .returned (.int .i64 1) ∧ w = w' := by
  go_enter Try.func23, Try.ntmps23
  go_wp2
  go_ret
  exact ⟨rfl, rfl⟩
set_option maxRecDepth 100000 in
theorem nil_Fork (a b n : Int) (w : World) : Calls Try.prog 25 #[.pointer none] w fun e w' => e = .returned (.pointer none) ∧ w = w' := by
  go_enter Try.func25, Try.ntmps25
  go_wp2
  go_ret
  exact ⟨rfl, rfl⟩
theorem nil_Stands (w : World) : Calls Try.prog 13 #[.pointer none] w fun e w' => e = .returned (.agg #[.int .i64 0, .int .i64 0, .int .i64 0, .int .i64 0, .int .i64 0, .int .i64 0, .int .i64 0, .bool false, .bool false]) ∧ Below w.heap.size w w' := by
  go_enter Try.func13, Try.ntmps13
  go_wp2
  exact bodyPost_ret (v := .agg #[.int .i64 0, .int .i64 0, .int .i64 0, .int .i64 0, .int .i64 0, .int .i64 0, .int .i64 0, .bool false, .bool false]) (by simp [results, Try.results13, go_sem]) rfl ⟨rfl, (Below.refl _ _).alloc (Nat.le_refl _) _⟩

set_option maxHeartbeats 2000000 in
set_option maxRecDepth 100000 in
theorem PathNone_calls (a b n : Int) (w : World) : Calls Try.prog 10 #[.int .i64 a, .int .i64 b, .int .u64 n] w fun e w' => e = .returned (.bool true) ∧ Below w.heap.size w w' := by
  go_enter Try.func10, Try.ntmps10
  go_wp2_with (first | (go_at_call 14; refine Calls.mono (live_calls _) ?_; rintro e w1 ⟨rfl, hB1⟩) | (go_at_call 13; refine Calls.mono (nil_Stands _) ?_; rintro e w2 ⟨rfl, hB2⟩) | (go_at_call 16; refine Calls.mono (nil_Late a b n _) ?_; rintro e w' ⟨rfl, rfl⟩) | (go_at_call 17; refine Calls.mono (nil_Fault a b n _) ?_; rintro e w' ⟨rfl, rfl⟩) | (go_at_call 24; refine Calls.mono (nil_Answer a b n _) ?_; rintro e w' ⟨rfl, rfl⟩) | (go_at_call 12; refine Calls.mono (nil_Sample a b n _) ?_; rintro e w' ⟨rfl, rfl⟩) | (go_at_call 18; refine Calls.mono (nil_Grow a b n _) ?_; rintro e w' ⟨rfl, rfl⟩) | (go_at_call 19; refine Calls.mono (nil_Fast a b n _) ?_; rintro e w' ⟨rfl, rfl⟩) | (go_at_call 15; refine Calls.mono (nil_Good a b n _) ?_; rintro e w' ⟨rfl, rfl⟩) | (go_at_call 23; refine Calls.mono (nil_Beat a b n _) ?_; rintro e w' ⟨rfl, rfl⟩) | (go_at_call 25; refine Calls.mono (nil_Fork a b n _) ?_; rintro e w' ⟨rfl, rfl⟩))
  go_ret
  exact ⟨rfl, below_then hB1 hB2⟩
end Go.Proofs.Ytopcokjfgldblaa
