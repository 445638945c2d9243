/-
  slices.Sort, slices.Sorted(maps.Keys(m)) at words of 32 bits.
-/
import Derived.Test.YtebfoigbiekeiaaSortV
set_option linter.unusedVariables false
set_option linter.unusedSimpArgs false
namespace Go.Proofs.Ytebfoigbiekeiaa
open Go.RowKit

/-- What a sort leaves. -/
def SortedTo (B : Nat) (v : Value) (ys : List Int) (w : World) (e : Ending) (w' : World) : Prop :=
  (∃ v', e = .returned v') ∧ ∃ zs, zs.Perm ys ∧ Rise zs ∧ Own w' B 28 .u32 v zs ∧ w.grownBy w' v.ownBlock
theorem insertion_any (B n : Nat) (v : Value) (ys : List Int) (hn : ys.length = n) (hn1 : n ≤ 12) (w : World) (hO : Own w B 28 .u32 v ys) :
    Calls Try.prog 73 #[v, .int .i64 0, .int .i64 n] w (SortedTo B v ys w) := by
  rcases hO.2 with ⟨rfl, h0⟩ | ⟨g, cap, cur, rfl, _⟩
  · obtain rfl : n = 0 := by omega
    refine Calls.mono (insertion_nil w) ?_
    rintro e w' ⟨h1, rfl⟩
    have hy : ys = [] := List.length_eq_zero_iff.1 hn
    exact ⟨h1, ys, List.Perm.refl _, by rw [hy]; exact List.Pairwise.nil, hO, World.grownBy.refl _ _⟩
  · rw [hn] at hO ⊢
    refine Calls.mono (insertion_calls B g n cap ys hn hn1 w hO) ?_
    rintro e w' ⟨h1, zs, _, h2, h3, h4, h5⟩
    exact ⟨h1, zs, h2, h3, h4, h5⟩
set_option maxHeartbeats 1600000 in
theorem pdq_calls (B n : Nat) (r : Int) (v : Value) (ys : List Int) (hn : ys.length = n) (hn1 : n ≤ 12) (w : World) (hO : Own w B 28 .u32 v ys) :
    Calls Try.prog 68 #[v, .int .i64 0, .int .i64 n, .int .i64 r] w (SortedTo B v ys w) := by
  have HO := hid hO; have HN := hid hn
  clear hO hn
  have h12 : (n : Int) ≤ 12 := by omega
  have h12' : n ≤ 12 := hn1
  go_enter Try.func68, Try.ntmps68
  go_wp2_with fail
  go_loopw [1, 2] (fun a b w' => a = .int .i64 0 ∧ b = .int .i64 n ∧ w' = w) (fun _ _ _ => 0)
  case atStart => exact ⟨rfl, rfl, rfl⟩
  case round =>
    obtain ⟨rfl, rfl, rfl⟩ := hrel
    go_wp2_with (go_at_call 73; refine hold ?_)
    refine hid ?_
    refine Calls.mono (insertion_any B n v ys HN.out hn1 _ HO.out) ?_
    rintro e w2 ⟨⟨v', rfl⟩, zs, h2, h3, h4, h5⟩
    have HZ := hid (And.intro h2 (And.intro h3 (And.intro h4 h5)))
    clear h2 h3 h4 h5
    go_wp2
    go_end0
    exact ⟨⟨_, rfl⟩, zs, HZ.out⟩
set_option maxHeartbeats 1600000 in
theorem sort_calls (B : Nat) (A : Option Addr) (n c : Nat) (ys : List Int) (hn : ys.length = n) (hn1 : n ≤ 12) (w : World) (hO : Own w B 28 .u32 (.slice A n c) ys) :
    Calls Try.prog 59 #[.slice A n c] w (SortedTo B (.slice A n c) ys w) := by
  have HO := hid hO; have HN := hid hn
  clear hO hn
  have hw : IntKind.u64.wrap (n : Int) = (n : Int) := by rw [IntKind.wrap_u64]; omega
  go_enter Try.func59, Try.ntmps59
  go_wp2_with (go_at_call 69; refine hold ?_)
  refine hid ?_
  refine Calls.mono (len_calls n hn1 w) ?_
  rintro e w1 ⟨⟨r, rfl⟩, rfl⟩
  go_wp2_with (go_at_call 68; refine hold ?_)
  refine hid ?_
  refine Calls.mono (pdq_calls B n r (.slice A n c) ys HN.out hn1 w HO.out) ?_
  rintro e w2 ⟨⟨v', rfl⟩, zs, h2, h3, h4, h5⟩
  have HZ := hid (And.intro h2 (And.intro h3 (And.intro h4 h5)))
  clear h2 h3 h4 h5
  go_wp2
  go_end0
  exact ⟨⟨_, rfl⟩, zs, HZ.out⟩
end Go.Proofs.Ytebfoigbiekeiaa
