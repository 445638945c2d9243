/-
  Calls and control.
-/
import Derived.Test.YtebfoigbiekeiaaEvP4
import Derived.Test.YtebfoigbiekeiaaEvP5
set_option linter.unusedVariables false
set_option linter.unusedSimpArgs false
namespace Go.Ev
open Go Go.RowKit
variable {V : Vn} {P : Program} {μ : Map} {gs : List Nat}
/-! ### what an operation looks at -/
def Same (l : List Pos) (t u : PT AVal) : Prop := ∀ p ∈ l, t.get p = u.get p
theorem Same.left {a b : List Pos} {t u} (h : Same (a ++ b) t u) : Same a t u := fun p hp => h p (List.mem_append_left _ hp)
theorem Same.right {a b : List Pos} {t u} (h : Same (a ++ b) t u) : Same b t u := fun p hp => h p (List.mem_append_right _ hp)
theorem ev_same {x : AOpd} {t u} (h : Same x.names t u) : x.ev t = x.ev u := by
  cases x with
  | tmp p => simp only [AOpd.ev]; rw [h p (by simp [AOpd.names])]
  | val v => rfl
theorem evs_same : ∀ {xs : List AOpd} {t u}, Same (xs.flatMap AOpd.names) t u → evs t xs = evs u xs
  | [], t, u, h => rfl
  | x :: xs, t, u, h => by
    rw [List.flatMap_cons] at h
    simp only [evs, ev_same h.left, evs_same h.right]
theorem opt_same {x : Option AOpd} {t u} (h : Same (namesOpt x) t u) : optEv t x = optEv u x := by
  cases x with
  | none => rfl
  | some x => simp only [optEv]; rw [ev_same h]
theorem parts_same : ∀ {ps : List (Nat × Nat × AOpd)} {t u}, Same (ps.flatMap fun p => p.2.2.names) t u → (ps.map fun (o, s, x) => (o, s, x.ev t)) = (ps.map fun (o, s, x) => (o, s, x.ev u))
  | [], t, u, h => rfl
  | (o, s, x) :: ps, t, u, h => by
    rw [List.flatMap_cons] at h
    simp only [List.map_cons, parts_same h.right, ev_same (x := x) h.left]
theorem partsI_same {sz : Nat} : ∀ {ps : List (Nat × AOpd)} {t u}, Same (ps.flatMap fun p => p.2.names) t u → (ps.map fun (o, x) => (o, sz, x.ev t)) = (ps.map fun (o, x) => (o, sz, x.ev u))
  | [], t, u, h => rfl
  | (o, x) :: ps, t, u, h => by
    rw [List.flatMap_cons] at h
    simp only [List.map_cons, partsI_same h.right, ev_same (x := x) h.left]
theorem evOp_same {B : Bnds} {op : AOp} {t u : PT AVal} (h : Same op.names t u) (H : Hp) : evOp B op t H = evOp B op u H := by
  cases op <;> simp only [AOp.names] at h <;> simp only [evOp]
  case move x => rw [ev_same h]
  case pick a b c => rw [ev_same h.left.left, ev_same h.left.right, ev_same h.right]
  case box x => rw [ev_same h]
  case build z ps => rw [parts_same h]
  case buildSlice z sz len ps => rw [partsI_same h]
  case load n x => rw [ev_same h]
  case store n a x => rw [ev_same h.left, ev_same h.right]
  case nilCheck x => rw [ev_same h]
  case bin o a x => rw [ev_same h.left, ev_same h.right]
  case eq n K a x => rw [ev_same h.left, ev_same h.right]
  case un o x => rw [ev_same h]
  case toInt k x => rw [ev_same h]
  case same x => rw [ev_same h]
  case mark x => rw [ev_same h]
  case toBytes x => rw [ev_same h]
  case toStr x => rw [ev_same h]
  case makeFunc f a c => rw [evs_same h.left, evs_same h.right]
  case makeSlice z s b a x => rw [ev_same h.left, ev_same h.right]
  case sliceStr x l hh => rw [ev_same h.left.left, opt_same h.left.right, opt_same h.right]
  case sliceSl s x l hh m => rw [ev_same h.left.left.left, opt_same h.left.left.right, opt_same h.left.right, opt_same h.right]
  case sliceArr n s x l hh m => rw [ev_same h.left.left.left, opt_same h.left.left.right, opt_same h.left.right, opt_same h.right]
  case fieldAddr o x => rw [ev_same h]
  case part o n x => rw [ev_same h]
  case indexAddrArr l s a x => rw [ev_same h.left, ev_same h.right]
  case indexAddrSl s a x => rw [ev_same h.left, ev_same h.right]
  case indexArr l s n a x => rw [ev_same h.left, ev_same h.right]
  case indexStr a x => rw [ev_same h.left, ev_same h.right]
  case lookup kk z a x ok => rw [ev_same h.left, ev_same h.right]
  case mapUpdate kk m k v => rw [ev_same h.left.left, ev_same h.left.right, ev_same h.right]
  case extract i x => rw [ev_same h]
  case append s b a x => rw [ev_same h.left, ev_same h.right]
  case appendN s b z a x => rw [ev_same h.left, ev_same h.right]
  case lenStr x => rw [ev_same h]
  case lenSl x => rw [ev_same h]
  case lenMap x => rw [ev_same h]
  case cap x => rw [ev_same h]
  case copy s a x => rw [ev_same h.left, ev_same h.right]
  case delete kk a x => rw [ev_same h.left, ev_same h.right]
  case minmax m xs => rw [evs_same h]
theorem freshA_same {op : AOp} {t u : PT AVal} (h : Same op.names t u) : freshA op t = freshA op u := by
  cases op <;> simp only [AOp.names] at h <;> simp only [freshA]
  case box x => rw [ev_same h]
  case buildSlice z sz len ps => rw [partsI_same h]
  case makeSlice z s b a x => rw [ev_same h.left, ev_same h.right]
theorem opA_same {E : Env} {ih : Run} {op : AOp} {t u : PT AVal} (h : Same op.names t u) (H : Hp) : opA E ih op t H = opA E ih op u H := by
  cases op
  case call f as =>
    simp only [AOp.names] at h
    simp only [opA]
    rw [ev_same h.left, evs_same h.right]
  all_goals exact evOp_same (B := E.bnds) h H
/-! ### new blocks -/
def Fr.real : Fr → Nat → Value
  | .ptr, b => .pointer (some ⟨b, 0, none⟩)
  | .slice len cap _, b => .slice (some ⟨b, 0, none⟩) len cap
theorem VR_fr {fr : Fr} {id : Pos} {b m : Nat} (h : μ id = some ⟨b, 0, m⟩) : VR V μ (fr.val id) (fr.real b) := by
  cases fr with
  | ptr => exact VR_ptr.2 ⟨_, h, rfl⟩
  | slice len cap sz => exact VR_slice_mk (cap := some cap) (rc := cap) (o := 0) (off := 0) h (fun c hc => by cases hc; exact ⟨rfl, rfl⟩) (fun hc => by cases hc)
end Go.Ev
namespace Go.Ev
open Go Go.RowKit
variable {V : Vn} {P : Program} {gs : List Nat}
/-- What a hook answers is what the function does. -/
structure HookOk (V : Vn) (P : Program) (gs : List Nat) (E : Env) : Prop where
  fn : ∀ f k, E.hook f = some k → ∃ fn, P.funcs[f]? = some fn ∧ fn.name ≠ "runtime.NumGoroutine" ∧ fn.body.isNone = false
  calls : ∀ f k args h v h' μ w args', E.hook f = some k → k args h = some (v, h') → HR V μ h w → GlOk gs μ → VRs V μ args args'.toList →
    Calls P f args' w fun e w' => ∃ v' μ', e = .returned v' ∧ VR V μ' v v' ∧ HR V μ' h' w' ∧ Ext μ h w μ' h' w'
def FnsOk (P : Program) (gs : List Nat) (E : Env) : Prop := ∀ f af, E.fns f = some af → ∃ fn, P.funcs[f]? = some fn ∧ cFun P gs fn = some af
def Ex.real : Ex → Exit
  | .normal => .normal
  | .ret => .ret
  | .exit id => .exit id
/-- the temporaries' number -/
def Sz (N : Nat) (a : Act) : Prop := N ≤ a.tmps.size
/-- a loop's round, and what follows -/
def WpL (P : Program) (code : Code) (Q : Exit → Act → World → Prop) (a : Act) (w : World) : Prop :=
  match code with
  | .loop x => ∀ (b : Frame) (k : List Item) (cs : List Frame), ∃ e a' w', Q e a' w' ∧ Arrives P (lone (b.at a (.code x :: .inLoop x :: k)) cs w) b k cs e a' w'
  | c => c.wp P Q a w
theorem WpL.wp {P : Program} {code : Code} {Q : Exit → Act → World → Prop} {a : Act} {w : World} (h : WpL P code Q a w) : code.wp P Q a w := by
  unfold WpL at h
  split at h
  · intro b k cs
    obtain ⟨e, a', w', q, r⟩ := h b k cs
    exact ⟨e, a', w', q, .of_steps (.one step_loop) r⟩
  · exact h
/-- what a run of the evaluator says of the model -/
def RunOk (V : Vn) (P : Program) (gs : List Nat) (ih : Run) : Prop :=
  ∀ N code c tm h ex tm' h' μ a w Q, cCode P gs N code = some c → ih c ⟨tm, h⟩ = some (ex, ⟨tm', h'⟩) → TR V μ tm a → Sz N a → a.defers = [] → GlOk gs μ → HR V μ h w →
    (∀ a' w' μ', TR V μ' tm' a' → Sz N a' → a'.defers = [] → HR V μ' h' w' → Ext μ h w μ' h' w' → Q ex.real a' w') → WpL P code Q a w
theorem TR.put {μ : Map} {tm : PT AVal} {a : Act} (k : TR V μ tm a) {d : Option Nat} {v : AVal} {v' : Value} (hv : VR V μ v v') (hd : ∀ t, d = some t → t < a.tmps.size) : TR V μ (putD (d.map Pos.ofNat) v tm) (a.put d v') := by
  cases d with
  | none => exact k
  | some t =>
    intro s
    simp only [Option.map_some, putD, Act.put]
    by_cases hs : s = t
    · subst hs
      rw [PT.get_set]
      have := hd s rfl
      simp [this, hv]
    · rw [PT.get_set_ne _ _ _ _ (fun h => hs (Pos.ofNat_inj h).symm)]
      have := k s
      simp only [Array.getD_eq_getD_getElem?] at this ⊢
      rw [Array.getElem?_setIfInBounds_ne (Ne.symm hs)]
      exact this
theorem put_size (a : Act) (d : Option Nat) (v : Value) : (a.put d v).tmps.size = a.tmps.size := by cases d <;> simp [Act.put]
theorem put_defers' (a : Act) (d : Option Nat) (v : Value) : (a.put d v).defers = a.defers := by cases d <;> rfl
/-- entering a function -/
theorem enter_get : ∀ (vs : List AVal) (k : Nat) (t : PT AVal) (s : Nat), (enterTm (Pos.ofNat k) vs t).get (.ofNat s) = (if k ≤ s then vs[s - k]? else none).or (t.get (.ofNat s))
  | [], k, t, s => by simp [enterTm]
  | v :: vs, k, t, s => by
    simp only [enterTm]
    have e : (Pos.ofNat k).succ = Pos.ofNat (k + 1) := rfl
    rw [e, enter_get vs (k + 1) (t.set v (Pos.ofNat k)) s]
    by_cases hs : s = k
    · subst hs
      have h1 : ¬ s + 1 ≤ s := by omega
      simp [h1, PT.get_set]
    · rw [PT.get_set_ne _ _ _ _ (fun h => hs (Pos.ofNat_inj h).symm)]
      by_cases hk : k ≤ s
      · have h1 : k + 1 ≤ s := by omega
        have h2 : s - k = (s - (k + 1)) + 1 := by omega
        simp only [hk, h1, if_true, h2, List.getElem?_cons_succ]
      · have h1 : ¬ k + 1 ≤ s := by omega
        simp only [hk, h1, if_false]
theorem VRs_get {μ : Map} {x : List AVal} {l : List Value} (h : VRs V μ x l) (i : Nat) : VR V μ (x[i]?.getD .undef) (l[i]?.getD undef) := by
  cases hx : x[i]? with
  | none =>
    have : l[i]? = none := by
      rw [List.getElem?_eq_none_iff] at hx ⊢
      rw [← h.length]; exact hx
    rw [this]; exact VR_undef
  | some v =>
    obtain ⟨u, hu, hv⟩ := VRs_nth h (by rw [nth_eq]; exact hx)
    rw [hu]; exact hv
theorem TR_enter {μ : Map} {args : List AVal} {args' : Array Value} (h : VRs V μ args args'.toList) (n : Nat) : TR V μ (enterTm .z args .leaf) { tmps := args' ++ Array.replicate n undef, defers := [] } := by
  intro s
  have e : (enterTm .z args .leaf).get (.ofNat s) = args[s]? := by
    have := enter_get args 0 .leaf s
    simp only [Nat.zero_le, if_true, Nat.sub_zero] at this
    rw [show Pos.z = Pos.ofNat 0 from rfl, this]
    simp [PT.get]
  rw [e]
  have hv := VRs_get h s
  have e2 : (args' ++ Array.replicate n undef).getD s undef = args'.toList[s]?.getD undef := by
    rw [Array.getD_eq_getD_getElem?, Array.getElem?_append]
    by_cases hs : s < args'.size
    · simp [hs]
    · simp [hs]
      by_cases h2 : s - args'.size < n
      · simp [h2]
      · simp [h2]
  show VR V μ _ ((args' ++ Array.replicate n undef).getD s undef)
  rw [e2]; exact hv
/-- results -/
def resFun (tmps : Array Value) : ResultVar → Sem Value
  | .tmp t => pure (tmps.getD t undef)
  | .cell x t => do loadVar t (← asAddr (tmps.getD x undef))
theorem results_eq (fn : Func) (tmps : Array Value) : results fn tmps = (do
    let vs ← fn.results.mapM (resFun tmps)
    pure (if h : vs.size = 1 then vs[0] else .tuple vs)) := by
  unfold results
  have : (fun x : ResultVar => (match x with
    | .tmp t => pure (tmps.getD t undef)
    | .cell x t => do loadVar t (← asAddr (tmps.getD x undef)) : Sem Value)) = resFun tmps := by
    funext x; cases x <;> rfl
  rw [← this]
  rfl
theorem res_ok {μ : Map} {tm : PT AVal} {a : Act} {h : Hp} {w : World} (ht : TR V μ tm a) (k : HR V μ h w) : ∀ {rs : List ResultVar} {ars : List ARes} {vs : List AVal}, cRes P rs = some ars → resA h tm ars = some vs →
    ∃ us, VRs V μ vs us ∧ (rs.mapM (resFun a.tmps)).run P w = .ok us w
  | [], ars, vs, hc, e => by
    simp only [cRes] at hc; cases hc
    simp only [resA] at e; cases e
    exact ⟨[], VRs_nil, by simp⟩
  | .tmp t :: rs, ars, vs, hc, e => by
    simp only [cRes, Option.bind_eq_bind, Option.bind_eq_some_iff, Option.pure_def, Option.some.injEq] at hc
    obtain ⟨as, has, rfl⟩ := hc
    simp only [resA, Option.map_eq_some_iff] at e
    obtain ⟨vs', hvs, rfl⟩ := e
    obtain ⟨us, h1, h2⟩ := res_ok ht k has hvs
    refine ⟨a.tmps.getD t undef :: us, VRs_cons (by rw [ev_tmp]; exact ht t) h1, ?_⟩
    rw [List.mapM_cons]
    simp only [resFun, Sem.run_bind, Sem.run_pure, Result.andThen_ok, h2]
  | .cell x t :: rs, ars, vs, hc, e => by
    simp only [cRes, Option.bind_eq_bind, Option.bind_eq_some_iff, Option.pure_def, Option.some.injEq] at hc
    obtain ⟨n, hn, as, has, rfl⟩ := hc
    simp only [resA] at e
    split at e
    · rename_i id off hp
      split at e
      · rename_i v vs' h1 h2
        cases e
        obtain ⟨us, q1, q2⟩ := res_ok ht k has h2
        have hv := ht x
        rw [← ev_tmp, hp] at hv
        have hv' := hv
        obtain ⟨l, hl, e1⟩ := VR_ptr.1 hv
        obtain ⟨v', g1, g5⟩ := run_loadA (P := P) k hn hv' h1
        refine ⟨v' :: us, VRs_cons g5 q1, ?_⟩
        rw [List.mapM_cons]
        have g6 : (loadVar t ⟨l.b, l.s + off, none⟩).run P w = .ok v' w := by
          rw [e1] at g1
          simpa [Instr.loadAt, Instr.sureAddr] using g1
        have g7 : (asAddr (a.tmps.getD x undef)).run P w = .ok ⟨l.b, l.s + off, none⟩ w := by rw [e1]; rfl
        simp only [resFun, Sem.run_bind, g7, Sem.run_pure, Result.andThen_ok, g6, q2]
      · simp at e
    · simp at e
theorem results_ok {μ : Map} {tm : PT AVal} {a : Act} {h : Hp} {w : World} (ht : TR V μ tm a) (k : HR V μ h w) {fn : Func} {ars : List ARes} {vs : List AVal} (hc : cRes P fn.results.toList = some ars) (e : resA h tm ars = some vs) :
    ∃ v', (results fn a.tmps).run P w = .ok v' w ∧ VR V μ (resVal vs) v' := by
  obtain ⟨us, h1, h2⟩ := res_ok ht k hc e
  have hr : (fn.results.mapM (resFun a.tmps)).run P w = .ok us.toArray w := by
    rw [Array.mapM_eq_mapM_toList, Sem.run_map, h2]
    rfl
  rw [results_eq]
  rw [Sem.run_bind, hr, Result.andThen_ok]
  cases vs with
  | nil =>
    rw [VRs] at h1; subst h1
    exact ⟨.tuple #[], rfl, VR_tuple_mk VRs_nil⟩
  | cons v r =>
    cases r with
    | nil =>
      rw [VRs] at h1; obtain ⟨u, us', rfl, hv, h1⟩ := h1
      rw [VRs] at h1; subst h1
      exact ⟨u, rfl, hv⟩
    | cons v2 r2 =>
      have hl := h1.length
      have hsz : ¬ us.toArray.size = 1 := by simp; simp at hl; omega
      refine ⟨.tuple us.toArray, ?_, VR_tuple_mk (by simpa using h1)⟩
      simp only [dif_neg hsz]; rfl
theorem callA_ok {E : Env} (hH : HookOk V P gs E) (hF : FnsOk P gs E) {ih : Run} (hI : RunOk V P gs ih) {f : FuncId} {args : List AVal} {h h' : Hp} {v : AVal} {μ : Map} {w : World} {args' : Array Value}
    (e : callA E ih f args h = some (v, h')) (k : HR V μ h w) (hg : GlOk gs μ) (ha : VRs V μ args args'.toList) :
    Calls P f args' w fun e w' => ∃ v' μ', e = .returned v' ∧ VR V μ' v v' ∧ HR V μ' h' w' ∧ Ext μ h w μ' h' w' := by
  unfold callA at e
  split at e
  · rename_i kk hk
    exact hH.calls f kk args h v h' μ w args' hk e k hg ha
  · split at e
    · simp at e
    · rename_i af haf
      obtain ⟨fn, hfn, hcf⟩ := hF f af haf
      unfold cFun at hcf
      split at hcf
      · simp at hcf
      · simp only [Option.bind_eq_bind, Option.bind_eq_some_iff, Option.pure_def, Option.some.injEq] at hcf
        obtain ⟨c, hb, body, hbody, res, hres, rfl⟩ := hcf
        split at e
        · simp at e
        · simp at e
        · rename_i ex s hne hrun
          split at e
          · rename_i vs hvs
            cases e
            refine calls_of_wp hfn hb ?_
            refine WpL.wp (hI _ _ _ _ h ex s.tm s.hp μ _ w _ hbody hrun (TR_enter ha _) (by simp [Sz]; omega) rfl hg k ?_)
            intro a' w' μ' ht hs hd hr hx
            obtain ⟨v', q1, q2⟩ := results_ok (P := P) ht hr hres hvs
            cases ex with
            | normal => exact ⟨hd, v', q1, v', μ', rfl, q2, hr, hx⟩
            | ret => exact ⟨hd, v', q1, v', μ', rfl, q2, hr, hx⟩
            | exit id => exact (hne id rfl).elim
          · simp at e
theorem cOpK_spec {o : Oper} {A : AOp} (h : cOpK P gs o = some A) : cOp P gs o = some A ∧ kindOk A o.op = true := by
  unfold cOpK at h
  split at h
  · split at h
    · rename_i hk; cases h; rename_i ho; exact ⟨ho, hk⟩
    · simp at h
  · simp at h
/-- One operation. -/
theorem opA_ok {E : Env} (hB : BOk V E.bnds) (hH : HookOk V P gs E) (hF : FnsOk P gs E) {ih : Run} (hI : RunOk V P gs ih) {o : Oper} {A : AOp} (hcK : cOpK P gs o = some A) {tm : PT AVal} {h h' : Hp} {v : AVal} {μ : Map} {a : Act} {w : World} {next : Act → World → Prop} {Q : Exit → Act → World → Prop}
    (e : opA E ih A tm h = some (v, h')) (ht : TR V μ tm a) (hg : GlOk gs μ) (k : HR V μ h w)
    (hn : ∀ v' w' μ', VR V μ' v v' → HR V μ' h' w' → Ext μ h w μ' h' w' → next (a.put o.dst v') w') : o.wp P a w next Q := by
  obtain ⟨hc, hkind⟩ := cOpK_spec hcK
  have plain : (∀ f as, A ≠ .call f as) → evOp E.bnds A tm h = some (v, h') → o.wp P a w next Q := by
    intro hnc he
    obtain ⟨v', w', μ', h1, h2, h3, h4⟩ := evOp_ok hB ht hg k hc hnc he
    unfold Oper.wp
    rcases h1 with h1 | ⟨h1, rfl⟩
    · rw [h1]; exact hn v' w' μ' h2 h3 h4
    · rw [h1]; exact hn undef w' μ' h2 h3 h4
  unfold opA at e
  split at e
  · rename_i f as
    split at e
    · rename_i g first cap hf
      obtain ⟨dst, oo, ty, pos, af, gd⟩ := o
      cases oo <;> simp only [kindOk] at hkind <;> first | (cases hkind; done) | skip
      rename_i c
      obtain ⟨cal, args, ats⟩ := c
      cases cal with
      | invoke r m => simp [kindOk] at hkind
      | builtin b => simp [kindOk] at hkind
      | value ff =>
        simp only [cOp, Option.bind_eq_bind, Option.bind_eq_some_iff, Option.pure_def, Option.some.injEq] at hc
        obtain ⟨f', hff, as', has, hc⟩ := hc
        cases hc
        have vf := opd_ok ht hg hff
        rw [hf] at vf
        rw [VR] at vf
        obtain ⟨first', cap', e1, q1, q2⟩ := vf
        have vas := VRs_evs_array ht hg has
        have hall : VRs V μ (first ++ evs tm as ++ cap) (first' ++ args.map a.eval ++ cap').toList := by
          rw [Array.toList_append, Array.toList_append]
          exact VRs_append (VRs_append q1 vas) q2
        have hcall := callA_ok hH hF hI e k hg hall
        have hfn : ∃ fn, P.funcs[g]? = some fn ∧ fn.name ≠ "runtime.NumGoroutine" ∧ fn.body.isNone = false := by
          unfold callA at e
          split at e
          · rename_i kk hk; exact hH.fn g kk hk
          · split at e
            · simp at e
            · rename_i af haf
              obtain ⟨fn, hfn, hcf⟩ := hF g af haf
              unfold cFun at hcf
              split at hcf
              · simp at hcf
              · rename_i hname
                simp only [Option.bind_eq_bind, Option.bind_eq_some_iff] at hcf
                obtain ⟨c, hb, _⟩ := hcf
                exact ⟨fn, hfn, hname, by rw [hb]; rfl⟩
        obtain ⟨fn, hfn, hname, hbody⟩ := hfn
        have hrun : (execOp a.eval ⟨dst, .call { callee := .value ff, args, argTypes := ats }, ty, pos, af, gd⟩).run P w = .ok (.enter g (first' ++ args.map a.eval ++ cap')) w := by
          have hnb : (fn.name == "runtime.NumGoroutine") = false := by simpa using hname
          simp only [execOp, resolve, Deferred.ofValue, e1, Sem.run_bind, Sem.run_pure, Result.andThen_ok, invoke, callFunc, run_program, hfn, hnb, hbody, Bool.false_eq_true, if_false]
        unfold Oper.wp
        rw [hrun, Oper.upon_enter]
        refine Calls.mono hcall ?_
        rintro e' w' ⟨v', μ', rfl, h2, h3, h4⟩
        exact hn v' w' μ' h2 h3 h4
    · simp at e
  · rename_i hnc
    exact plain hnc e
end Go.Ev
namespace Go.Ev
open Go Go.RowKit
variable {V : Vn} {P : Program} {μ : Map} {gs : List Nat}
/-- An operation that makes a block. -/
theorem fresh_spec {tm : PT AVal} {a : Act} (ht : TR V μ tm a) (hg : GlOk gs μ) {o : Oper} {A : AOp} (hcK : cOpK P gs o = some A) {cs : List AVal} {fr : Fr} (hf : freshA A tm = some (cs, fr)) (w : World) :
    ∃ c e, VRs V μ cs c.toList ∧ (execOp a.eval o).run P w = .ok (.value (fr.real w.heap.size)) (w.alloc (.cells c e)) := by
  obtain ⟨hc, hkind⟩ := cOpK_spec hcK
  obtain ⟨dst, oo, ty, pos, af, gd⟩ := o
  cases A <;> (try (simp only [freshA, reduceCtorEq] at hf; done))
  case alloc zz =>
    cases oo <;> simp only [kindOk, Bool.false_eq_true] at hkind
    rename_i t
    simp only [cOp, Option.bind_eq_bind, Option.bind_eq_some_iff, Option.pure_def, Option.some.injEq] at hc
    obtain ⟨z, hz, hzz⟩ := hc
    cases hzz
    simp only [freshA, Option.some.injEq, Prod.mk.injEq] at hf
    obtain ⟨rfl, rfl⟩ := hf
    obtain ⟨i, zv, hi, hzv, hzc⟩ := cZero_spec hz
    refine ⟨zv.cells, t, VR_cells (VR_ofConst hzc), ?_⟩
    refine (run_v _ _).trans ?_
    simp [Instr.alloc, run_zeroValue' hi hzv, newVar, newRow, Fr.real]
  case box x =>
    cases oo <;> simp only [kindOk, Bool.false_eq_true] at hkind
    rename_i t y
    simp only [cOp, Option.bind_eq_bind, Option.bind_eq_some_iff, Option.pure_def, Option.some.injEq] at hc
    obtain ⟨x', hx, hzz⟩ := hc
    cases hzz
    simp only [freshA, Option.some.injEq, Prod.mk.injEq] at hf
    obtain ⟨rfl, rfl⟩ := hf
    refine ⟨(a.eval y).cells, t, VR_cells (opd_ok ht hg hx), ?_⟩
    refine (run_v _ _).trans ?_
    simp [Instr.box, newVar, newRow, Fr.real]
  case buildSlice zero sz len parts =>
    cases oo <;> simp only [kindOk, Bool.false_eq_true] at hkind
    rename_i t ln ps
    simp only [cOp] at hc
    split at hc
    · rename_i e hu
      simp only [Option.bind_eq_bind, Option.bind_eq_some_iff] at hc
      obtain ⟨j, hj, z, hz, hc⟩ := hc
      split at hc
      · simp at hc
      · rename_i hsz
        simp only [Option.bind_eq_some_iff, Option.pure_def, Option.some.injEq] at hc
        obtain ⟨ps', hps, hzz⟩ := hc
        cases hzz
        simp only [freshA, Option.map_eq_some_iff, Prod.mk.injEq] at hf
        obtain ⟨cs', hcs, rfl, rfl⟩ := hf
        obtain ⟨i, zv, hi, hzv, hzc⟩ := cZero_spec hz
        rw [hj] at hi; cases hi
        have hzl := zcells_size hzc
        have hs0 : j.size ≠ 0 := fun h => hsz (.inl h)
        have hs1 : ¬ len * j.size > 2 ^ 20 := fun h => hsz (.inr (.inl h))
        have hs2 : z.cells.length = j.size := Classical.byContradiction fun h => hsz (.inr (.inr h))
        have hzs : zv.cells.size = j.size := by omega
        obtain ⟨hl, hp⟩ := partsI_ok ht hg _ hps
        have hrep := rep_ok (V := V) (μ := μ) (VR_cells (VR_ofConst hzc)) len
        rw [hzs] at hrep
        obtain ⟨c', hc1, hc2, hc3⟩ := fill_ok (V := V) (μ := μ) (fun i => some (i * j.size, j.size)) ((ps.map fun (i, x) => (i, a.eval x)).toList) _ _ cs' _ hrep hcs (by simp [hl]) (by
          intro jj o s x i v hj hk
          exact hp jj o s x i v hj (by simpa using hk))
        have hne : ¬ len * j.size > 2 ^ 24 := by omega
        refine ⟨c', e, hc2, ?_⟩
        refine (run_v _ _).trans ?_
        by_cases h0 : len * j.size = 0
        · have hlen : len = 0 := by
            rcases Nat.mul_eq_zero.1 h0 with h | h
            · exact h
            · exact absurd h hs0
          subst hlen
          rw [Nat.zero_mul] at hc1
          have e0 : ((Array.range 0).map fun i => zv.cells[i % j.size]!) = #[] := by simp
          rw [e0] at hc1
          have e2 : ¬ (0 * j.size > 2 ^ 24) := by omega
          simp only [Instr.buildSlice, Sem.run_bind, run_underlying hu, run_sizeOf' hj, Result.andThen_ok]
          rw [if_neg e2]
          simp only [Nat.zero_mul, if_true, Sem.run_bind, Sem.run_pure, Result.andThen_ok]
          rw [show ((Array.range 0).map fun i => (#[] : Array Value)[i % (#[] : Array Value).size]!) = #[] from by simp, hc1]
          simp [newRow, Fr.real]
        · simp only [Instr.buildSlice, Sem.run_bind, run_underlying hu, run_sizeOf' hj, Result.andThen_ok]
          simp only [hne, h0, if_false, Sem.run_bind, run_zeroValue' hj hzv, Result.andThen_ok, Sem.run_pure, hzs, hc1]
          simp [newRow, Fr.real]
    · simp at hc
  case makeSlice zero sz bytes l c =>
    cases oo <;> simp only [kindOk, Bool.false_eq_true] at hkind
    rename_i t l' c'
    simp only [cOp] at hc
    split at hc
    · rename_i e hu
      simp only [Option.bind_eq_bind, Option.bind_eq_some_iff] at hc
      obtain ⟨i, hi, z, hz, hc⟩ := hc
      split at hc
      · simp at hc
      · rename_i hcond
        simp only [Option.bind_eq_some_iff, Option.pure_def, Option.some.injEq] at hc
        obtain ⟨x', hx, y', hy, hzz⟩ := hc
        cases hzz
        have vx := opd_ok ht hg hx
        have vy := opd_ok ht hg hy
        simp only [freshA] at hf
        split at hf
        · rename_i kl l0 kc c0 hl0 hc0
          split at hf
          · rename_i hb
            simp only [Option.some.injEq, Prod.mk.injEq] at hf
            obtain ⟨rfl, rfl⟩ := hf
            rw [hl0] at vx; rw [hc0] at vy
            have ex := VR_int.1 vx
            have ey := VR_int.1 vy
            have hs : i.size ≠ 0 := fun hh => hcond (.inl hh)
            have hzl : z.cells.length = i.size := Classical.byContradiction fun hh => hcond (.inr hh)
            obtain ⟨b1, b2, b3, b4⟩ := hb
            obtain ⟨i', zv, hi', hzv, hzc⟩ := cZero_spec hz
            rw [hi] at hi'; cases hi'
            have hzs : zv.cells.size = i.size := by rw [← hzl, zcells_size hzc]
            have hrep := rep_ok (V := V) (μ := μ) (VR_cells (VR_ofConst hzc)) c0.toNat
            rw [hzs] at hrep
            refine ⟨_, e, hrep, ?_⟩
            refine (run_v _ _).trans ?_
            rw [ex, ey]
            have w1 := wrap_i64' l0 b1 (by omega)
            have w2 := wrap_i64' c0 (by omega) b4
            have hbb : ¬ (281474976710656 : Int) < i.bytes * c0 := by omega
            have hc0 : ¬ c0 < 0 := by omega
            have hl0 : ¬ l0 < 0 := by omega
            have hlc : ¬ c0 < l0 := by omega
            by_cases h0 : c0.toNat * i.size = 0
            · have hc : c0 = 0 := by
                rcases Nat.mul_eq_zero.1 h0 with h | h
                · omega
                · exact absurd h hs
              subst hc
              have hl : l0 = 0 := by omega
              subst hl
              simp [Instr.makeSlice, run_underlying hu, asInt, asIntOf, run_typeInfo' hi, run_sizeOf' hi, w1, askRoom, newRow, Fr.real]
              have er : ∀ f : Nat → Value, (Array.range 0).map f = #[] := fun f => by simp
              rw [er, er]
            · simp [Instr.makeSlice, run_underlying hu, asInt, asIntOf, run_typeInfo' hi, run_sizeOf' hi, w1, w2, hbb, hc0, hl0, hlc, askRoom, newRow, run_zeroValue' hi hzv, h0, hzs, hs, Fr.real]
          · simp at hf
        · simp at hf
    · simp at hc
end Go.Ev
namespace Go.Ev
open Go Go.RowKit
variable {V : Vn} {P : Program} {gs : List Nat}
/-- the compiled operations stand for the region's -/
structure Rel (P : Program) (gs : List Nat) (N : Nat) (ops : Array Oper) (l : List AOper) : Prop where
  len : l.length = ops.size
  at_ : ∀ (i : Nat) (o : Oper), ops[i]? = some o → ∃ x : AOper, l[i]? = some x ∧ x.dst = o.dst.map Pos.ofNat ∧ cOpK P gs o = some x.op ∧ cGuard ops o = some x.guard ∧ ∀ d, o.dst = some d → d < N
theorem cOpers_spec : ∀ {os : List Oper} {l : List (Oper × AOp)}, cOpers P gs os = some l → l.length = os.length ∧ ∀ (i : Nat) (o : Oper), os[i]? = some o → ∃ A, l[i]? = some (o, A) ∧ cOpK P gs o = some A
  | [], l, h => by simp only [cOpers] at h; cases h; exact ⟨rfl, fun i o ho => by simp at ho⟩
  | o :: os, l, h => by
    simp only [cOpers, Option.bind_eq_bind, Option.bind_eq_some_iff, Option.pure_def, Option.some.injEq] at h
    obtain ⟨A, hA, r, hr, rfl⟩ := h
    obtain ⟨h1, h2⟩ := cOpers_spec hr
    refine ⟨by simp [h1], fun i o' ho => ?_⟩
    cases i with
    | zero => simp at ho; subst ho; exact ⟨A, rfl, hA⟩
    | succ i => exact h2 i o' (by simpa using ho)
theorem cOperAll_spec {ops : Array Oper} {bf : Array Nat} {chain : List Nat} : ∀ {l : List (Oper × AOp)} {k : Nat} {r : List AOper}, cOperAll ops bf chain l k = some r → r.length = l.length ∧ ∀ (i : Nat) (x : Oper × AOp), l[i]? = some x → ∃ y, r[i]? = some y ∧ cOper ops bf chain (x, k + i) = some y
  | [], k, r, h => by simp only [cOperAll] at h; cases h; exact ⟨rfl, fun i o ho => by simp at ho⟩
  | x :: l, k, r, h => by
    simp only [cOperAll, Option.bind_eq_bind, Option.bind_eq_some_iff, Option.pure_def, Option.some.injEq] at h
    obtain ⟨y, hy, r', hr, rfl⟩ := h
    obtain ⟨h1, h2⟩ := cOperAll_spec hr
    refine ⟨by simp [h1], fun i x' hx => ?_⟩
    cases i with
    | zero => simp at hx; subst hx; exact ⟨y, rfl, hy⟩
    | succ i =>
      obtain ⟨y', q1, q2⟩ := h2 i x' (by simpa using hx)
      exact ⟨y', by simpa using q1, by rw [show k + (i + 1) = k + 1 + i by omega]; exact q2⟩
theorem cOper_spec {ops : Array Oper} {bf : Array Nat} {chain : List Nat} {o : Oper} {A : AOp} {i : Nat} {y : AOper} (h : cOper ops bf chain ((o, A), i) = some y) :
    y.dst = o.dst.map Pos.ofNat ∧ y.op = A ∧ cGuard ops o = some y.guard ∧ y.lo = (chain.filter fun c => (bf.getD i 0).testBit c).length ∧ y.hi = (chain.filter fun c => c != i && !(bf.getD c 0).testBit i).length ∧ y.pre = bf.getD i 0 := by
  unfold cOper at h
  simp only [Option.bind_eq_bind, Option.bind_eq_some_iff, Option.pure_def, Option.some.injEq] at h
  obtain ⟨g, hg, rfl⟩ := h
  exact ⟨rfl, rfl, hg, rfl, rfl, rfl⟩
theorem wanted_ok {μ : Map} {tm : PT AVal} {a : Act} (ht : TR V μ tm a) {ops : Array Oper} {o : Oper} {g : Option (Pos × Bool)} (hg : cGuard ops o = some g) {b : Bool} (hw : wantA g tm = some b) : Region.wanted o (yielded ops a.tmps) = b := by
  unfold cGuard at hg
  unfold Region.wanted
  split at hg
  · rename_i h0
    cases hg
    rw [h0]
    simp only [wantA] at hw
    cases hw; rfl
  · rename_i j w h0
    rw [h0]
    split at hg
    · rename_i d hd
      cases hg
      simp only
      have htd := ht d
      unfold wantA at hw
      have hy : yielded ops a.tmps j = (match a.tmps[d]? with | some (.bool b) => some b | _ => none) := by
        unfold yielded; rw [hd]; rfl
      rw [hy]
      simp only at hw
      have hgd : a.tmps.getD d undef = a.tmps[d]?.getD undef := by simp
      rw [hgd] at htd
      split at hw
      · rename_i bb hbb
        cases hw
        rw [hbb] at htd
        simp only [Option.getD_some] at htd
        have := VR_bool.1 htd
        cases hq : a.tmps[d]? with
        | none => rw [hq] at this; simp [undef] at this
        | some v => rw [hq] at this; simp at this; subst this; cases bb <;> cases w <;> rfl
      · rename_i hbb
        cases hw
        rw [hbb] at htd
        simp only [Option.getD_some] at htd
        rw [VR] at htd
        obtain ⟨c, hc, _⟩ := htd
        cases hq : a.tmps[d]? with
        | none => simp
        | some v => rw [hq] at hc; simp at hc; subst hc; simp
      · rename_i hbb
        cases hw
        rw [hbb] at htd
        simp only [Option.getD_none, AVal.undef] at htd
        rw [VR] at htd
        obtain ⟨c, hc, _⟩ := htd
        cases hq : a.tmps[d]? with
        | none => simp
        | some v => rw [hq] at hc; simp at hc; subst hc; simp
      · simp at hw
    · simp at hg
theorem runOps_ok {E : Env} (hB : BOk V E.bnds) (hH : HookOk V P gs E) (hF : FnsOk P gs E) {ih : Run} (hI : RunOk V P gs ih) {N : Nat} {ops : Array Oper} {l : List AOper} (hr : Rel P gs N ops l) {Q : Exit → Act → World → Prop} : ∀ (m k : Nat) (s s' : St) (μ : Map) (a : Act) (w : World), k + m = ops.size →
    runOps E ih (l.drop k) s = some s' → TR V μ s.tm a → Sz N a → a.defers = [] → GlOk gs μ → HR V μ s.hp w →
    (∀ a' w' μ', TR V μ' s'.tm a' → Sz N a' → a'.defers = [] → HR V μ' s'.hp w' → Ext μ s.hp w μ' s'.hp w' → Q .normal a' w') → wpOps P ops Q (List.range' k m) a w
  | 0, k, s, s', μ, a, w, hk, e, ht, hs, hd, hg, k0, hQ => by
    have : l.drop k = [] := by apply List.drop_eq_nil_of_le; rw [hr.len]; omega
    rw [this] at e
    simp only [runOps] at e; cases e
    simp only [List.range'_zero, wpOps]
    exact hQ a w μ ht hs hd k0 (.refl _ _ _)
  | m + 1, k, s, s', μ, a, w, hk, e, ht, hs, hd, hg, k0, hQ => by
    have hlt : k < ops.size := by omega
    have hok : ops[k]? = some ops[k] := by simp [hlt]
    obtain ⟨x, hx, hxd, hxo, hxg, hxn⟩ := hr.at_ k _ hok
    have hdrop : l.drop k = x :: l.drop (k + 1) := by
      have hlen : k < l.length := by rw [hr.len]; exact hlt
      rw [List.drop_eq_getElem_cons hlen]
      congr 1
      rw [List.getElem?_eq_getElem hlen] at hx
      exact Option.some.inj hx
    rw [hdrop] at e
    simp only [runOps] at e
    have hsz : ∀ t, (ops[k]).dst = some t → t < a.tmps.size := fun t h => Nat.lt_of_lt_of_le (hxn t h) hs
    rw [List.range'_succ]
    simp only [wpOps, hok]
    split at e
    · rename_i hw
      rw [wanted_ok ht hxg hw, if_pos rfl]
      split at e
      · rename_i v h1 ho
        refine .inl (opA_ok hB hH hF hI hxo ho ht hg k0 ?_)
        intro v' w' μ' h2 h3 h4
        refine runOps_ok hB hH hF hI hr m (k + 1) _ s' μ' _ w' (by omega) e ?_ (by simpa [Sz, put_size] using hs) (by rw [put_defers']; exact hd) (hg.mono h4.le) h3 ?_
        · rw [hxd]; exact (ht.mono h4.le).put h2 hsz
        · intro a'' w'' μ'' q1 q2 q3 q4 q5
          exact hQ a'' w'' μ'' q1 q2 q3 q4 (h4.trans q5)
      · simp at e
    · rename_i hw
      rw [wanted_ok ht hxg hw, if_neg (by simp)]
      refine runOps_ok hB hH hF hI hr m (k + 1) _ s' μ _ w (by omega) e ?_ (by simpa [Sz, put_size] using hs) (by rw [put_defers']; exact hd) hg k0 hQ
      rw [hxd]; exact ht.put VR_undef hsz
    · simp at e
/-- a region that draws -/
def DrawsOk (V : Vn) (P : Program) (gs : List Nat) (E : Env) (ih : Run) : Prop :=
  ∀ N id ops l tm h d μ a w Q, cRegion P gs N ops true = some (.region l true) → drawRun E ih l 0 { tm := tm, h := { h with nx := keep l h.nx }, rid := h.nx, pend := [], hs := [{ h with nx := keep l h.nx }], fs := [] } = some d →
    d.fs.all (flOk E.bnds d.hs.reverse 0) = true → TR V μ tm a → Sz N a → a.defers = [] → GlOk gs μ → HR V μ h w →
    (∀ a' w' μ', TR V μ' d.tm a' → Sz N a' → a'.defers = [] → HR V μ' { d.h with t := plus d.h.t d.pend } w' → Ext μ h w μ' { d.h with t := plus d.h.t d.pend } w' → Q Exit.normal a' w') → (Code.region id ops true).wp P Q a w
theorem cRegion_rel {N : Nat} {ops : Array Oper} {dr : Bool} {c : ACode} (h : cRegion P gs N ops dr = some c) : ∃ l, c = .region l dr ∧ Rel P gs N ops l := by
  unfold cRegion at h
  simp only [Option.bind_eq_bind, Option.bind_eq_some_iff] at h
  obtain ⟨l0, hl0, h⟩ := h
  split at h
  · simp at h
  · rename_i hN
    simp only [Option.bind_eq_some_iff] at h
    obtain ⟨l, hl, h⟩ := h
    have hc : ACode.region l dr = c := by
      cases dr
      · simp only [Bool.false_and, Bool.false_eq_true, if_false, Option.pure_def, Option.some.injEq] at h
        exact h
      · simp only [Bool.true_and, if_true] at h
        split at h
        · simp at h
        · simpa using h
    · subst hc
      refine ⟨l, rfl, ?_⟩
      obtain ⟨a1, a2⟩ := cOpers_spec hl0
      obtain ⟨b1, b2⟩ := cOperAll_spec hl
      refine ⟨by rw [b1, a1, Array.length_toList], fun i o ho => ?_⟩
      have ho' : ops.toList[i]? = some o := by simpa using ho
      obtain ⟨A, q1, q2⟩ := a2 i o ho'
      obtain ⟨y, q3, q4⟩ := b2 i _ q1
      obtain ⟨r1, r2, r3, r4, r5, r6⟩ := cOper_spec q4
      refine ⟨y, q3, r1, by rw [r2]; exact q2, r3, fun d hd => ?_⟩
      have hall := hN
      simp only [Bool.not_eq_true', Bool.not_eq_false] at hall
      rw [List.all_eq_true] at hall
      have := hall o (List.mem_of_getElem? ho')
      rw [hd] at this
      simpa using this
theorem runOk_step {E : Env} (hB : BOk V E.bnds) (hH : HookOk V P gs E) (hF : FnsOk P gs E) {ih : Run} (hI : RunOk V P gs ih) (hD : DrawsOk V P gs E ih) : RunOk V P gs (stepC E ih) := by
  intro N code c tm h ex tm' h' μ a w Q hc e ht hs hd hg k hQ
  cases code with
  | skip =>
    simp only [cCode] at hc; cases hc
    simp only [stepC] at e; cases e
    exact wp_skip (P := P) (hQ a w μ ht hs hd k (.refl _ _ _))
  | region id ops dr =>
    simp only [cCode] at hc; cases hc
    cases hcr : cRegion P gs N ops dr with
    | none => rw [hcr] at e; simp [stepC] at e
    | some c =>
      rw [hcr] at e
      simp only [Option.getD_some] at e
      obtain ⟨l, rfl, hrel⟩ := cRegion_rel hcr
      cases dr with
      | false =>
        simp only [stepC, Option.map_eq_some_iff, Prod.mk.injEq] at e
        obtain ⟨s, hrun, rfl, rfl⟩ := e
        show (Code.region id ops false).wp P Q a w
        refine wp_region ?_
        rw [List.range_eq_range']
        exact runOps_ok hB hH hF hI hrel ops.size 0 ⟨tm, h⟩ _ μ a w (by omega) hrun ht hs hd hg k hQ
      | true =>
        simp only [stepC] at e
        split at e
        · rename_i d hdr
          split at e
          · rename_i hfl
            cases e
            exact hD N id ops l tm h d μ a w Q hcr hdr hfl ht hs hd hg k hQ
          · simp at e
        · simp at e
  | seq x y =>
    simp only [cCode, Option.bind_eq_bind, Option.bind_eq_some_iff, Option.pure_def, Option.some.injEq] at hc
    obtain ⟨cx, hx, cy, hy, rfl⟩ := hc
    simp only [stepC] at e
    show (Code.seq x y).wp P Q a w
    refine wp_seq ?_
    split at e
    · rename_i s h1
      refine WpL.wp (hI N x cx tm h .normal s.tm s.hp μ a w _ hx h1 ht hs hd hg k ?_)
      intro a1 w1 μ1 ht1 hs1 hd1 k1 x1
      exact WpL.wp (hI N y cy s.tm s.hp ex tm' h' μ1 a1 w1 Q hy e ht1 hs1 hd1 (hg.mono x1.le) k1 (fun a2 w2 μ2 q1 q2 q3 q4 q5 => hQ a2 w2 μ2 q1 q2 q3 q4 (x1.trans q5)))
    · rename_i hne
      refine WpL.wp (hI N x cx tm h ex tm' h' μ a w _ hx e ht hs hd hg k ?_)
      intro a1 w1 μ1 ht1 hs1 hd1 k1 x1
      cases ex with
      | normal => exact (hne _ e).elim
      | ret => exact hQ a1 w1 μ1 ht1 hs1 hd1 k1 x1
      | exit id => exact hQ a1 w1 μ1 ht1 hs1 hd1 k1 x1
  | cond c x y =>
    simp only [cCode, Option.bind_eq_bind, Option.bind_eq_some_iff, Option.pure_def, Option.some.injEq] at hc
    obtain ⟨cc, hcc, cx, hx, cy, hy, rfl⟩ := hc
    simp only [stepC] at e
    have vc := opd_ok ht hg hcc
    split at e
    · rename_i hb
      rw [hb] at vc
      exact wp_cond_true (VR_bool.1 vc) (WpL.wp (hI N x cx tm h ex tm' h' μ a w Q hx e ht hs hd hg k hQ))
    · rename_i hb
      rw [hb] at vc
      exact wp_cond_false (VR_bool.1 vc) (WpL.wp (hI N y cy tm h ex tm' h' μ a w Q hy e ht hs hd hg k hQ))
    · simp at e
  | block id x =>
    simp only [cCode, Option.bind_eq_bind, Option.bind_eq_some_iff, Option.pure_def, Option.some.injEq] at hc
    obtain ⟨cx, hx, rfl⟩ := hc
    simp only [stepC] at e
    show (Code.block id x).wp P Q a w
    refine wp_block ?_
    split at e
    · rename_i j s h1
      refine WpL.wp (hI N x cx tm h (.exit j) s.tm s.hp μ a w _ hx h1 ht hs hd hg k ?_)
      intro a1 w1 μ1 ht1 hs1 hd1 k1 x1
      simp only [Ex.real, Exit.inBlock]
      split at e
      · rename_i hj; cases e; rw [if_pos hj]; exact hQ a1 w1 μ1 ht1 hs1 hd1 k1 x1
      · rename_i hj; cases e; rw [if_neg hj]; exact hQ a1 w1 μ1 ht1 hs1 hd1 k1 x1
    · rename_i hne
      refine WpL.wp (hI N x cx tm h ex tm' h' μ a w _ hx e ht hs hd hg k ?_)
      intro a1 w1 μ1 ht1 hs1 hd1 k1 x1
      cases ex with
      | normal => exact hQ a1 w1 μ1 ht1 hs1 hd1 k1 x1
      | ret => exact hQ a1 w1 μ1 ht1 hs1 hd1 k1 x1
      | exit id => exact (hne _ _ e).elim
  | loop x =>
    simp only [cCode, Option.bind_eq_bind, Option.bind_eq_some_iff, Option.pure_def, Option.some.injEq] at hc
    obtain ⟨cx, hx, rfl⟩ := hc
    simp only [stepC] at e
    -- one round, then the loop anew
    have hloop : x.wp P (Exit.then (WpL P (.loop x) Q) Q) a w := by
      split at e
      · rename_i s h1
        refine WpL.wp (hI N x cx tm h .normal s.tm s.hp μ a w _ hx h1 ht hs hd hg k ?_)
        intro a1 w1 μ1 ht1 hs1 hd1 k1 x1
        exact hI N (.loop x) (.loop cx) s.tm s.hp ex tm' h' μ1 a1 w1 Q (by simp only [cCode, hx]; rfl) e ht1 hs1 hd1 (hg.mono x1.le) k1 (fun a2 w2 μ2 q1 q2 q3 q4 q5 => hQ a2 w2 μ2 q1 q2 q3 q4 (x1.trans q5))
      · rename_i hne
        refine WpL.wp (hI N x cx tm h ex tm' h' μ a w _ hx e ht hs hd hg k ?_)
        intro a1 w1 μ1 ht1 hs1 hd1 k1 x1
        cases ex with
        | normal => exact (hne _ e).elim
        | ret => exact hQ a1 w1 μ1 ht1 hs1 hd1 k1 x1
        | exit id => exact hQ a1 w1 μ1 ht1 hs1 hd1 k1 x1
    -- the loop out of its round
    intro b kk cs
    obtain ⟨e1, a1, w1, hq, harr⟩ := hloop b (.inLoop x :: kk) cs
    cases e1 with
    | normal =>
      obtain ⟨e2, a2, w2, hq2, harr2⟩ := hq b kk cs
      exact ⟨e2, a2, w2, hq2, .of_steps (Steps.trans harr (.one step_inLoop)) harr2⟩
    | exit id => exact ⟨_, a1, w1, hq, .pass (x := .inLoop x) rfl (fun _ _ => .inl (by simp)) harr⟩
    | goto l => exact ⟨_, a1, w1, hq, .pass (x := .inLoop x) rfl (fun _ _ => .inl (by simp)) harr⟩
    | ret => exact ⟨_, a1, w1, hq, .pass (x := .inLoop x) rfl (fun _ _ => .inl (by simp)) harr⟩
    | panic ch => exact ⟨_, a1, w1, hq, .pass (x := .inLoop x) rfl (fun _ _ => .inl (by simp)) harr⟩
    | outgrown => exact ⟨_, a1, w1, hq, .pass (x := .inLoop x) rfl (fun _ _ => .inl (by simp)) harr⟩
  | exit id =>
    simp only [cCode] at hc; cases hc
    simp only [stepC] at e; cases e
    exact wp_exit (hQ a w μ ht hs hd k (.refl _ _ _))
  | ret =>
    simp only [cCode] at hc; cases hc
    simp only [stepC] at e; cases e
    exact wp_ret (hQ a w μ ht hs hd k (.refl _ _ _))
  | _ => simp only [cCode] at hc; cases hc; simp [stepC] at e
end Go.Ev
