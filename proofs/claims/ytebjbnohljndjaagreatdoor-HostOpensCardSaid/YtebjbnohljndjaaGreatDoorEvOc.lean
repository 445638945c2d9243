/-
  The contract of HostOpens: for every settings it returns true.
-/
import Derived.Test.YtebjbnohljndjaaGreatDoorEvOb0
import Derived.Test.YtebjbnohljndjaaGreatDoorEvOb1
import Derived.Test.YtebjbnohljndjaaGreatDoorEvOb2
import Derived.Test.YtebjbnohljndjaaGreatDoorEvOb3
import Derived.Test.YtebjbnohljndjaaGreatDoorEvOb4
import Derived.Test.YtebjbnohljndjaaGreatDoorEvOb5
import Derived.Test.YtebjbnohljndjaaGreatDoorEvOb6
set_option linter.unusedVariables false
set_option linter.unusedSimpArgs false
namespace Go.Proofs.YtebjbnohljndjaaGreatDoor
open Go Go.RowKit Go.Ev Go.Proofs

def vnO (m0 m1 a0 a1 p0 p1 mtu ring streams : Int) : Vn := { i := fun k => match k with | 0 => mtu | 1 => streams | 2 => m0 | 3 => m1 | 4 => ring | 5 => a0 | 6 => a1 | 7 => p0 | _ => p1, o := fun _ => undef }
theorem runS_spec {m s : Int × Int} {rs : List (Int × Int)} {aps : List (Bool × Bool)} (h : runS m s rs aps = true) {r a b : Int × Int} {x y : Bool} (hr : r ∈ rs) (ha : a ∈ [aL, aH]) (hb : b ∈ [aL, aH]) (hp : (x, y) ∈ aps) : runO (.lin .i64 4 0) (bO m s r a b x y) x y = true := by
  unfold runS at h
  have h1 := List.all_eq_true.1 h r hr
  have h2 := List.all_eq_true.1 h1 a ha
  have h3 := List.all_eq_true.1 h2 b hb
  exact List.all_eq_true.1 h3 (x, y) hp
theorem runR_spec {a b : Int × Int} {rs : List Int} (h : runR a b rs = true) {r : Int} (hr : r ∈ rs) : runO (.int .i64 r) (bO mM sM rM a b false false) false false = true := by
  unfold runR at h
  exact List.all_eq_true.1 h r hr
theorem bnd_one {c : Int × Int} {v lo hi : Int} (hc : c.1 ≤ v ∧ v ≤ c.2) (e : (if c.1 ≤ c.2 then some c else none) = some (lo, hi)) : lo ≤ v ∧ v ≤ hi := by
  split at e
  · obtain ⟨c1, c2⟩ := c
    simp only [Option.some.injEq, Prod.mk.injEq] at e
    obtain ⟨rfl, rfl⟩ := e
    exact hc
  · simp at e
theorem bnd_tail (x y : Bool) (n : Nat) (lo hi : Int) (e : bndOf ((if x then [] else [((6 : Int), (5 : Int))]) ++ (if y then [] else [((8 : Int), (7 : Int))])) n = some (lo, hi)) : False := by
  cases x <;> cases y <;> (match n with | 0 => simp [bndOf] at e | 1 => simp [bndOf] at e | n + 2 => simp [bndOf] at e)
theorem apart_entry {p q : Int} {i j : Nat} {B : Bnds} (h : apartOf ((p, q) :: B) i j = true) (hpq : ¬ q < p) : apartOf B i j = true := by
  unfold apartOf at h ⊢
  rw [List.any_cons] at h
  simpa [hpq] using h
theorem apart_pair {c : Int × Int} {i j : Nat} {B : Bnds} (h : apartOf (c :: B) i j = true) (hpq : c.1 ≤ c.2) : apartOf B i j = true := by
  obtain ⟨p, q⟩ := c
  exact apart_entry h (by simp only at hpq; omega)
theorem apart_last (x y : Bool) (i j : Nat) (h : apartOf ((if x then [] else [((6 : Int), (5 : Int))]) ++ (if y then [] else [((8 : Int), (7 : Int))])) i j = true) :
    (x = false ∧ ((i = 6 ∧ j = 5) ∨ (i = 5 ∧ j = 6))) ∨ (y = false ∧ ((i = 8 ∧ j = 7) ∨ (i = 7 ∧ j = 8))) := by
  cases x <;> cases y <;> simp [apartOf] at h ⊢ <;> omega
theorem bOk_O {m0 m1 a0 a1 p0 p1 mtu ring streams : Int} {m s r a b : Int × Int} {x y : Bool} (h0 : m.1 ≤ mtu ∧ mtu ≤ m.2) (h1 : s.1 ≤ streams ∧ streams ≤ s.2) (h2 : a.1 ≤ m0 ∧ m0 ≤ a.2) (h3 : b.1 ≤ m1 ∧ m1 ≤ b.2) (h4 : r.1 ≤ ring ∧ ring ≤ r.2)
    (h5 : 0 ≤ a0 ∧ a0 ≤ 4294967295) (h6 : 0 ≤ a1 ∧ a1 ≤ 4294967295) (h7 : 0 ≤ p0 ∧ p0 ≤ 4294967295) (h8 : 0 ≤ p1 ∧ p1 ≤ 4294967295) (hx : x = false → a0 ≠ a1) (hy : y = false → p0 ≠ p1) : BOk (vnO m0 m1 a0 a1 p0 p1 mtu ring streams) (bO m s r a b x y) := by
  refine ⟨fun i lo hi e => ?_, fun i j e => ?_⟩
  · unfold bO at e
    match i with
    | 0 => exact bnd_one h0 e
    | 1 => exact bnd_one h1 e
    | 2 => exact bnd_one h2 e
    | 3 => exact bnd_one h3 e
    | 4 => exact bnd_one h4 e
    | 5 => exact bnd_one (c := (0, 4294967295)) h5 e
    | 6 => exact bnd_one (c := (0, 4294967295)) h6 e
    | 7 => exact bnd_one (c := (0, 4294967295)) h7 e
    | 8 => exact bnd_one (c := (0, 4294967295)) h8 e
    | n + 9 => exact (bnd_tail x y n lo hi e).elim
  · unfold bO at e
    have e1 := apart_pair (apart_pair (apart_pair (apart_pair (apart_pair e (by omega)) (by omega)) (by omega)) (by omega)) (by omega)
    have e2 := apart_entry (apart_entry (apart_entry (apart_entry e1 (by omega)) (by omega)) (by omega)) (by omega)
    rcases apart_last x y i j e2 with ⟨hf, ⟨rfl, rfl⟩ | ⟨rfl, rfl⟩⟩ | ⟨hf, ⟨rfl, rfl⟩ | ⟨rfl, rfl⟩⟩
    · exact fun h => hx hf h.symm
    · exact fun h => hx hf h
    · exact fun h => hy hf h.symm
    · exact fun h => hy hf h
theorem mixedO : Tryz.prog.follows .mixedOrders = true := by kernel_rfl
theorem fnO (B : Bnds) : FnsOk Tryz.prog [] (EO B) := by
  intro f af e
  simp only [EO, Option.bind_eq_some_iff] at e
  obtain ⟨fn, h1, h2⟩ := e
  exact ⟨fn, h1, h2⟩
theorem opens_of {m0 m1 a0 a1 p0 p1 mtu ring streams : Int} {m s r a b : Int × Int} {x y : Bool} {ra : AVal} (W : World) (h : runO ra (bO m s r a b x y) x y = true) (h0 : m.1 ≤ mtu ∧ mtu ≤ m.2) (h1 : s.1 ≤ streams ∧ streams ≤ s.2) (h2 : a.1 ≤ m0 ∧ m0 ≤ a.2) (h3 : b.1 ≤ m1 ∧ m1 ≤ b.2) (h4 : r.1 ≤ ring ∧ ring ≤ r.2)
    (h5 : 0 ≤ a0 ∧ a0 ≤ 4294967295) (h6 : 0 ≤ a1 ∧ a1 ≤ 4294967295) (h7 : 0 ≤ p0 ∧ p0 ≤ 4294967295) (h8 : 0 ≤ p1 ∧ p1 ≤ 4294967295) (hx : x = decide (a0 = a1)) (hy : y = decide (p0 = p1)) (hra : VR (vnO m0 m1 a0 a1 p0 p1 mtu ring streams) map0 ra (.int .i64 ring)) :
    Calls Tryz.prog 5 #[.agg #[.int .u64 m0, .int .u64 m1, .int .u32 a0, .int .u32 a1, .int .u32 p0, .int .u32 p1, .int .i64 mtu, .int .i64 ring, .int .i64 streams]] W fun e w' => e = .returned (.bool true) ∧ Below W.heap.size W w' := by
  have hxx : x = false → a0 ≠ a1 := fun hf => by rw [hf] at hx; exact of_decide_eq_false hx.symm
  have hyy : y = false → p0 ≠ p1 := fun hf => by rw [hf] at hy; exact of_decide_eq_false hy.symm
  have lin : ∀ (k : IntKind) (i : Nat), VR (vnO m0 m1 a0 a1 p0 p1 mtu ring streams) map0 (.lin k i 0) (.int k ((vnO m0 m1 a0 a1 p0 p1 mtu ring streams).i i)) := fun k i => by rw [VR_lin, Int.add_zero]
  have c3 : VR (vnO m0 m1 a0 a1 p0 p1 mtu ring streams) map0 (if x then .lin .u32 5 0 else .lin .u32 6 0) (.int .u32 a1) := by
    cases x with
    | false => exact lin .u32 6
    | true =>
      have : a0 = a1 := of_decide_eq_true hx.symm
      have h := lin .u32 5
      rw [show (vnO m0 m1 a0 a1 p0 p1 mtu ring streams).i 5 = a1 from this] at h
      exact h
  have c5 : VR (vnO m0 m1 a0 a1 p0 p1 mtu ring streams) map0 (if y then .lin .u32 7 0 else .lin .u32 8 0) (.int .u32 p1) := by
    cases y with
    | false => exact lin .u32 8
    | true =>
      have : p0 = p1 := of_decide_eq_true hy.symm
      have h := lin .u32 7
      rw [show (vnO m0 m1 a0 a1 p0 p1 mtu ring streams).i 7 = p1 from this] at h
      exact h
  have hargs : VRs (vnO m0 m1 a0 a1 p0 p1 mtu ring streams) map0 [argO ra x y] (#[.agg #[.int .u64 m0, .int .u64 m1, .int .u32 a0, .int .u32 a1, .int .u32 p0, .int .u32 p1, .int .i64 mtu, .int .i64 ring, .int .i64 streams]] : Array Value).toList := by
    refine VRs_cons ?_ VRs_nil
    unfold argO
    rw [VR]
    exact ⟨_, rfl, VRs_cons (lin .u64 2) (VRs_cons (lin .u64 3) (VRs_cons (lin .u32 5) (VRs_cons c3 (VRs_cons (lin .u32 7) (VRs_cons c5 (VRs_cons (lin .i64 0) (VRs_cons hra (VRs_cons (lin .i64 1) VRs_nil))))))))⟩
  exact law_run (E := EO (bO m s r a b x y)) mixedO (bOk_O h0 h1 h2 h3 h4 h5 h6 h7 h8 hxx hyy) (hookLv_ok rfl) (fnO _) (hookLv_ov rfl) hargs h
theorem all4 (x y : Bool) : (x, y) ∈ [(true, true), (true, false), (false, true), (false, false)] := by cases x <;> cases y <;> simp
theorem HostOpens_calls (W : World) (m0 m1 a0 a1 p0 p1 mtu ring streams : Int) (hm0 : 0 ≤ m0 ∧ m0 ≤ 18446744073709551615) (hm1 : 0 ≤ m1 ∧ m1 ≤ 18446744073709551615) (h5 : 0 ≤ a0 ∧ a0 ≤ 4294967295) (h6 : 0 ≤ a1 ∧ a1 ≤ 4294967295) (h7 : 0 ≤ p0 ∧ p0 ≤ 4294967295) (h8 : 0 ≤ p1 ∧ p1 ≤ 4294967295)
    (hmt : -9223372036854775808 ≤ mtu ∧ mtu ≤ 9223372036854775807) (hr : -9223372036854775808 ≤ ring ∧ ring ≤ 9223372036854775807) (hs : -9223372036854775808 ≤ streams ∧ streams ≤ 9223372036854775807) :
    Calls Tryz.prog 5 #[.agg #[.int .u64 m0, .int .u64 m1, .int .u32 a0, .int .u32 a1, .int .u32 p0, .int .u32 p1, .int .i64 mtu, .int .i64 ring, .int .i64 streams]] W fun e w' => e = .returned (.bool true) ∧ Below W.heap.size W w' := by
  obtain ⟨a, ha, hA⟩ : ∃ a, a ∈ [aL, aH] ∧ a.1 ≤ m0 ∧ m0 ≤ a.2 := by
    by_cases h : m0 ≤ 281474976710654
    · exact ⟨aL, by simp, hm0.1, h⟩
    · exact ⟨aH, by simp, by show 281474976710655 ≤ m0; omega, hm0.2⟩
  obtain ⟨b, hb, hB⟩ : ∃ b, b ∈ [aL, aH] ∧ b.1 ≤ m1 ∧ m1 ≤ b.2 := by
    by_cases h : m1 ≤ 281474976710654
    · exact ⟨aL, by simp, hm1.1, h⟩
    · exact ⟨aH, by simp, by show 281474976710655 ≤ m1; omega, hm1.2⟩
  obtain ⟨r, hrm, hR⟩ : ∃ r, (r = rL ∨ r = rM ∨ r = rH) ∧ r.1 ≤ ring ∧ ring ≤ r.2 := by
    by_cases h : ring ≤ 0
    · exact ⟨rL, .inl rfl, hr.1, h⟩
    · by_cases h2 : ring ≤ 64
      · exact ⟨rM, .inr (.inl rfl), by show 1 ≤ ring; omega, h2⟩
      · exact ⟨rH, .inr (.inr rfl), by show 65 ≤ ring; omega, hr.2⟩
  obtain ⟨m, hmm, hM⟩ : ∃ m, (m = mL ∨ m = mM ∨ m = mH) ∧ m.1 ≤ mtu ∧ mtu ≤ m.2 := by
    by_cases h : mtu ≤ 191
    · exact ⟨mL, .inl rfl, hmt.1, h⟩
    · by_cases h2 : mtu ≤ 1500
      · exact ⟨mM, .inr (.inl rfl), by show 192 ≤ mtu; omega, h2⟩
      · exact ⟨mH, .inr (.inr rfl), by show 1501 ≤ mtu; omega, hmt.2⟩
  obtain ⟨s, hsm, hS⟩ : ∃ s, (s = sL ∨ s = sM ∨ s = sH) ∧ s.1 ≤ streams ∧ streams ≤ s.2 := by
    by_cases h : streams ≤ 0
    · exact ⟨sL, .inl rfl, hs.1, h⟩
    · by_cases h2 : streams ≤ 8
      · exact ⟨sM, .inr (.inl rfl), by show 1 ≤ streams; omega, h2⟩
      · exact ⟨sH, .inr (.inr rfl), by show 9 ≤ streams; omega, hs.2⟩
  have hlin : VR (vnO m0 m1 a0 a1 p0 p1 mtu ring streams) map0 (.lin .i64 4 0) (.int .i64 ring) := by rw [VR_lin, Int.add_zero]; rfl
  have go3 : ∀ m' s', runS m' s' [rL, rM, rH] [(true, true), (true, false), (false, true), (false, false)] = true → m = m' → s = s' → Calls Tryz.prog 5 #[.agg #[.int .u64 m0, .int .u64 m1, .int .u32 a0, .int .u32 a1, .int .u32 p0, .int .u32 p1, .int .i64 mtu, .int .i64 ring, .int .i64 streams]] W fun e w' => e = .returned (.bool true) ∧ Below W.heap.size W w' := by
    intro m' s' hrun e1 e2
    subst e1 e2
    exact opens_of W (runS_spec hrun (r := r) (by rcases hrm with rfl | rfl | rfl <;> simp) ha hb (all4 (decide (a0 = a1)) (decide (p0 = p1)))) hM hS hA hB hR h5 h6 h7 h8 rfl rfl hlin
  rcases hmm with rfl | rfl | rfl
  · rcases hsm with rfl | rfl | rfl
    · exact go3 _ _ run_mLsL rfl rfl
    · exact go3 _ _ run_mLsM rfl rfl
    · exact go3 _ _ run_mLsH rfl rfl
  · rcases hsm with rfl | rfl | rfl
    · exact go3 _ _ run_mMsL rfl rfl
    · rcases hrm with rfl | rfl | rfl
      · exact opens_of W (runS_spec run_mMsM_a (r := rL) (by simp) ha hb (all4 (decide (a0 = a1)) (decide (p0 = p1)))) hM hS hA hB hR h5 h6 h7 h8 rfl rfl hlin
      · by_cases hx : a0 = a1
        · exact opens_of W (runS_spec run_mMsM_b (r := rM) (by simp) ha hb (show (decide (a0 = a1), decide (p0 = p1)) ∈ _ by rw [decide_eq_true hx]; cases decide (p0 = p1) <;> simp)) hM hS hA hB hR h5 h6 h7 h8 rfl rfl hlin
        · by_cases hy : p0 = p1
          · exact opens_of W (runS_spec run_mMsM_b (r := rM) (by simp) ha hb (show (decide (a0 = a1), decide (p0 = p1)) ∈ _ by rw [decide_eq_false hx, decide_eq_true hy]; simp)) hM hS hA hB hR h5 h6 h7 h8 rfl rfl hlin
          · have hint : VR (vnO m0 m1 a0 a1 p0 p1 mtu ring streams) map0 (.int .i64 ring) (.int .i64 ring) := by rw [VR]
            have fin : ∀ (h : runO (.int .i64 ring) (bO mM sM rM a b false false) false false = true), Calls Tryz.prog 5 #[.agg #[.int .u64 m0, .int .u64 m1, .int .u32 a0, .int .u32 a1, .int .u32 p0, .int .u32 p1, .int .i64 mtu, .int .i64 ring, .int .i64 streams]] W fun e w' => e = .returned (.bool true) ∧ Below W.heap.size W w' := fun h =>
              opens_of W h hM hS hA hB hR h5 h6 h7 h8 (decide_eq_false hx).symm (decide_eq_false hy).symm hint
            have k1 : 1 ≤ ring := hR.1
            have k2 : ring ≤ 64 := hR.2
            have ha' : a = aL ∨ a = aH := by simpa using ha
            have hb' : b = aL ∨ b = aH := by simpa using hb
            rcases ha' with rfl | rfl <;> rcases hb' with rfl | rfl
            · refine fin ?_
              by_cases c0 : ring ≤ 4
              · exact runR_spec runR_aLaL_0 (by simp; omega)
              by_cases c1 : ring ≤ 8
              · exact runR_spec runR_aLaL_1 (by simp; omega)
              by_cases c2 : ring ≤ 12
              · exact runR_spec runR_aLaL_2 (by simp; omega)
              by_cases c3 : ring ≤ 16
              · exact runR_spec runR_aLaL_3 (by simp; omega)
              by_cases c4 : ring ≤ 20
              · exact runR_spec runR_aLaL_4 (by simp; omega)
              by_cases c5 : ring ≤ 24
              · exact runR_spec runR_aLaL_5 (by simp; omega)
              by_cases c6 : ring ≤ 28
              · exact runR_spec runR_aLaL_6 (by simp; omega)
              by_cases c7 : ring ≤ 32
              · exact runR_spec runR_aLaL_7 (by simp; omega)
              by_cases c8 : ring ≤ 36
              · exact runR_spec runR_aLaL_8 (by simp; omega)
              by_cases c9 : ring ≤ 40
              · exact runR_spec runR_aLaL_9 (by simp; omega)
              by_cases c10 : ring ≤ 44
              · exact runR_spec runR_aLaL_10 (by simp; omega)
              by_cases c11 : ring ≤ 48
              · exact runR_spec runR_aLaL_11 (by simp; omega)
              by_cases c12 : ring ≤ 52
              · exact runR_spec runR_aLaL_12 (by simp; omega)
              by_cases c13 : ring ≤ 56
              · exact runR_spec runR_aLaL_13 (by simp; omega)
              by_cases c14 : ring ≤ 60
              · exact runR_spec runR_aLaL_14 (by simp; omega)
              exact runR_spec runR_aLaL_15 (by simp; omega)
            · refine fin ?_
              by_cases c0 : ring ≤ 16
              · exact runR_spec runR_aLaH_0 (by simp; omega)
              by_cases c1 : ring ≤ 32
              · exact runR_spec runR_aLaH_1 (by simp; omega)
              by_cases c2 : ring ≤ 48
              · exact runR_spec runR_aLaH_2 (by simp; omega)
              exact runR_spec runR_aLaH_3 (by simp; omega)
            · refine fin ?_
              by_cases c0 : ring ≤ 16
              · exact runR_spec runR_aHaL_0 (by simp; omega)
              by_cases c1 : ring ≤ 32
              · exact runR_spec runR_aHaL_1 (by simp; omega)
              by_cases c2 : ring ≤ 48
              · exact runR_spec runR_aHaL_2 (by simp; omega)
              exact runR_spec runR_aHaL_3 (by simp; omega)
            · refine fin ?_
              by_cases c0 : ring ≤ 16
              · exact runR_spec runR_aHaH_0 (by simp; omega)
              by_cases c1 : ring ≤ 32
              · exact runR_spec runR_aHaH_1 (by simp; omega)
              by_cases c2 : ring ≤ 48
              · exact runR_spec runR_aHaH_2 (by simp; omega)
              exact runR_spec runR_aHaH_3 (by simp; omega)
      · exact opens_of W (runS_spec run_mMsM_a (r := rH) (by simp) ha hb (all4 (decide (a0 = a1)) (decide (p0 = p1)))) hM hS hA hB hR h5 h6 h7 h8 rfl rfl hlin
    · exact go3 _ _ run_mMsH rfl rfl
  · rcases hsm with rfl | rfl | rfl
    · exact go3 _ _ run_mHsL rfl rfl
    · exact go3 _ _ run_mHsM rfl rfl
    · exact go3 _ _ run_mHsH rfl rfl
#print axioms HostOpens_calls
end Go.Proofs.YtebjbnohljndjaaGreatDoor
