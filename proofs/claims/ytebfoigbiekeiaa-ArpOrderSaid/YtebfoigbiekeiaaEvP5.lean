/-
  The evaluator over a larger heap.
-/
import Derived.Test.YtebfoigbiekeiaaEvP2
set_option linter.unusedVariables false
set_option linter.unusedSimpArgs false
namespace Go.Ev
open Go
/-- H is h and the blocks of X. -/
structure Ov (X : Pos → Option ABlk) (h H : Hp) : Prop where
  nx : h.nx = H.nx
  get : ∀ id, H.t.get id = (h.t.get id).or (X id)
  low : ∀ id b, X id = some b → h.t.get id = none ∧ id.toNat < h.nx.toNat
variable {X : Pos → Option ABlk} {h H : Hp}
theorem Ov.at_ (k : Ov X h H) {id b} (e : h.t.get id = some b) : H.t.get id = some b := by rw [k.get, e]; rfl
theorem Ov.notX (k : Ov X h H) {id b} (e : h.t.get id = some b) : X id = none := by
  cases hx : X id with
  | none => rfl
  | some c => have := (k.low id c hx).1; rw [this] at e; cases e
theorem Ov.load (k : Ov X h H) {id off n r} (e : h.load id off n = some r) : H.load id off n = some r := by
  unfold Hp.load at *
  cases hg : h.t.get id with
  | none => rw [hg] at e; simp at e
  | some b => rw [hg] at e; rw [k.at_ hg]; exact e
theorem Ov.load1 (k : Ov X h H) {id off r} (e : h.load1 id off = some r) : H.load1 id off = some r := by
  unfold Hp.load1 at *
  cases hg : h.t.get id with
  | none => rw [hg] at e; simp at e
  | some b => rw [hg] at e; rw [k.at_ hg]; exact e
theorem Ov.set (k : Ov X h H) {id c} (e : h.t.get id = some c) (b : ABlk) : Ov X { h with t := h.t.set b id } { H with t := H.t.set b id } := by
  have hx := k.notX e
  refine ⟨k.nx, fun i => ?_, fun i c' hi => ?_⟩
  · by_cases hid : i = id
    · subst hid; simp only [PT.get_set]; rfl
    · simp only [PT.get_set_ne _ _ _ _ (Ne.symm hid)]; exact k.get i
  · have hid : i ≠ id := fun h => by subst h; rw [hx] at hi; cases hi
    simp only [PT.get_set_ne _ _ _ _ (Ne.symm hid)]; exact k.low i c' hi
theorem Ov.alloc (k : Ov X h H) (b : ABlk) : Ov X (h.alloc b).2 (H.alloc b).2 := by
  have hx : X h.nx = none := by
    cases hx : X h.nx with
    | none => rfl
    | some c => have := (k.low _ c hx).2; omega
  simp only [Hp.alloc]
  refine ⟨by simp [k.nx], fun i => ?_, fun i c' hi => ?_⟩
  · rw [← k.nx]
    by_cases hid : i = h.nx
    · subst hid; simp only [PT.get_set]; rfl
    · simp only [PT.get_set_ne _ _ _ _ (Ne.symm hid)]; exact k.get i
  · have hid : i ≠ h.nx := fun hh => by subst hh; rw [hx] at hi; cases hi
    simp only [PT.get_set_ne _ _ _ _ (Ne.symm hid)]
    obtain ⟨a, b⟩ := k.low i c' hi
    exact ⟨a, by rw [Pos.toNat_succ]; omega⟩
theorem Ov.moved (k : Ov X h H) {id c} (e : h.t.get id = some c) (b : ABlk) : Ov X { t := (h.t.del id).set b h.nx, nx := h.nx.succ } { t := (H.t.del id).set b H.nx, nx := H.nx.succ } := by
  have hx := k.notX e
  have base : Ov X { h with t := h.t.del id } { H with t := H.t.del id } := by
    refine ⟨k.nx, fun i => ?_, fun i c' hi => ?_⟩
    · by_cases hid : i = id
      · subst hid; simp only [PT.get_del, hx]; rfl
      · simp only [PT.get_del_ne _ _ _ (Ne.symm hid)]; exact k.get i
    · have hid : i ≠ id := fun h => by subst h; rw [hx] at hi; cases hi
      simp only [PT.get_del_ne _ _ _ (Ne.symm hid)]; exact k.low i c' hi
  exact base.alloc b
theorem Ov.store (k : Ov X h H) {id off vs h'} (e : h.store id off vs = some h') : ∃ H', H.store id off vs = some H' ∧ Ov X h' H' := by
  unfold Hp.store at *
  cases hg : h.t.get id with
  | none => rw [hg] at e; simp at e
  | some b =>
    rw [hg] at e; rw [k.at_ hg]
    cases b with
    | map es => simp at e
    | cells cs ro =>
      cases ro with
      | true => simp at e
      | false =>
        simp only [Option.map_eq_some_iff] at e ⊢
        obtain ⟨ds, hd, rfl⟩ := e
        exact ⟨_, ⟨ds, hd, rfl⟩, k.set hg _⟩
theorem Ov.src (k : Ov X h H) {sz x r} (e : srcCells h sz x = some r) : srcCells H sz x = some r := by
  unfold srcCells at *
  split at e
  · exact e
  · split at e
    · rename_i hz
      simp only [Option.map_eq_some_iff] at e
      obtain ⟨a, ha, rfl⟩ := e
      simp [hz] at *
      simp [k.load ha]
    · simp at e
  · exact e
  · simp at e
theorem Ov.append (k : Ov X h H) {sz bytes s new n v h'} (e : appendA h sz bytes s new n = some (v, h')) : ∃ H', appendA H sz bytes s new n = some (v, H') ∧ Ov X h' H' := by
  unfold appendA at *
  split at e
  · split at e
    · rename_i hn; cases e; exact ⟨H, by simp [hn], k⟩
    · rename_i hn
      split at e
      · simp at e
      · rename_i hb; cases e
        exact ⟨_, by simp only [hn, hb, if_false]; simp [Hp.alloc, k.nx], k.alloc _⟩
  · split at e
    · simp at e
    · rename_i hz
      simp only [hz, if_false]
      split at e
      · split at e
        · rename_i hf
          simp only [hf, if_true]
          split at e
          · rename_i hn; cases e; exact ⟨H, by simp [hn], k⟩
          · rename_i hn
            simp only [Option.map_eq_some_iff, Prod.mk.injEq] at e
            obtain ⟨h1, hst, rfl, rfl⟩ := e
            obtain ⟨H1, a, b⟩ := k.store hst
            exact ⟨H1, by simp [hn, a], b⟩
        · rename_i hf
          simp only [hf, if_false]
          split at e
          · simp at e
          · rename_i hb
            simp only [hb]
            split at e
            · simp at e
            · rename_i old hold
              cases e
              exact ⟨_, by simp [k.load hold, Hp.alloc, k.nx], k.alloc _⟩
      · split at e
        · rename_i hn; cases e; exact ⟨H, by simp [hn], k⟩
        · rename_i hn
          simp only [hn, if_false]
          split at e
          · rename_i cs hg
            rw [k.at_ hg]
            simp only
            split at e
            · rename_i hin
              simp only [hin, if_true]
              simp only [Option.map_eq_some_iff, Prod.mk.injEq] at e
              obtain ⟨h1, hst, rfl, rfl⟩ := e
              obtain ⟨H1, a, b⟩ := k.store hst
              exact ⟨H1, by simp [a], b⟩
            · rename_i hin
              simp only [hin, if_false]
              split at e
              · simp at e
              · rename_i hend
                simp only [hend, if_false]
                split at e
                · simp at e
                · rename_i hbig
                  cases e
                  exact ⟨_, by simp only [hbig]; simp [k.nx], k.moved hg _⟩
          · simp at e
  · simp at e
theorem Ov.copy (k : Ov X h H) {sz cs n d v h'} (e : copyA h sz cs n d = some (v, h')) : ∃ H', copyA H sz cs n d = some (v, H') ∧ Ov X h' H' := by
  unfold copyA at *
  split at e
  · cases e; exact ⟨H, rfl, k⟩
  · split at e
    · simp at e
    · rename_i hz
      simp only [hz, if_false]
      split at e
      · rename_i h0; cases e; exact ⟨H, by simp [h0], k⟩
      · rename_i h0
        simp only [h0, if_false]
        simp only [Option.map_eq_some_iff, Prod.mk.injEq] at e
        obtain ⟨h1, hst, rfl, rfl⟩ := e
        obtain ⟨H1, a, b⟩ := k.store hst
        exact ⟨H1, by simp [a], b⟩
  · simp at e
theorem Ov.toStr (k : Ov X h H) {x r} (e : toStrA h x = some r) : toStrA H x = some r := by
  unfold toStrA at *
  split at e
  · exact e
  · split at e
    · rename_i cs hcs; simp only [k.load hcs]; exact e
    · simp at e
  · simp at e
theorem Ov.mapEs (k : Ov X h H) {x r} (e : mapEs h x = some r) : mapEs H x = some r := by
  unfold Ev.mapEs at *
  split at e
  · exact e
  · split at e
    · rename_i es hg; simp only [k.at_ hg]; exact e
    · simp at e
  · simp at e
theorem Ov.upd (k : Ov X h H) {kk id key v es h'} (hg : h.t.get id = some (.map es)) (e : updA h kk id key v es = some h') : ∃ H', updA H kk id key v es = some H' ∧ Ov X h' H' := by
  unfold updA at *
  split at e
  · simp at e
  · cases e; exact ⟨_, rfl, k.set hg _⟩
  · cases e; exact ⟨_, rfl, k.set hg _⟩
theorem Ov.del (k : Ov X h H) {kk id key es h'} (hg : h.t.get id = some (.map es)) (e : delA h kk id key es = some h') : ∃ H', delA H kk id key es = some H' ∧ Ov X h' H' := by
  unfold delA at *
  split at e
  · simp at e
  · cases e; exact ⟨_, rfl, k.set hg _⟩
  · cases e; exact ⟨_, rfl, k.set hg _⟩
theorem Ov.loadA (k : Ov X h H) {n id off r} (e : loadA h n id off = some r) : loadA H n id off = some r := by
  unfold Ev.loadA at *
  cases n with
  | none => exact k.load1 e
  | some n =>
    simp only [Option.map_eq_some_iff] at e ⊢
    obtain ⟨a, ha, rfl⟩ := e
    exact ⟨a, k.load ha, rfl⟩
end Go.Ev
namespace Go.Ev
open Go
variable {X : Pos → Option ABlk} {h H : Hp}
set_option maxHeartbeats 1000000 in
theorem Ov.evOp (k : Ov X h H) {B : Bnds} {op : AOp} {tm : PT AVal} {v h'} (e : evOp B op tm h = some (v, h')) : ∃ H', evOp B op tm H = some (v, H') ∧ Ov X h' H' := by
  have same : ∀ r, (v, h') = (r, h) → ∃ H', some (r, H) = some (v, H') ∧ Ov X h' H' := fun r hr => by cases hr; exact ⟨H, rfl, k⟩
  cases op <;> simp only [Ev.evOp] at e ⊢
  case move x => cases e; exact ⟨H, rfl, k⟩
  case pick c a b => split at e <;> first | (simp at e; done) | (cases e; exact ⟨H, rfl, k⟩)
  case alloc z => cases e; exact ⟨_, by simp [Hp.alloc, k.nx], k.alloc _⟩
  case box x => cases e; exact ⟨_, by simp [Hp.alloc, k.nx], k.alloc _⟩
  case build z ps =>
    simp only [Option.map_eq_some_iff, Prod.mk.injEq] at e
    obtain ⟨cs, hcs, rfl, rfl⟩ := e
    exact ⟨H, by simp [hcs], k⟩
  case buildSlice z sz len ps =>
    split at e
    · rename_i cs hcs; cases e; exact ⟨_, by simp [hcs, Hp.alloc, k.nx], k.alloc _⟩
    · simp at e
  case load n a =>
    split at e
    · simp only [Option.map_eq_some_iff, Prod.mk.injEq] at e
      obtain ⟨r, hr, rfl, rfl⟩ := e
      exact ⟨H, by simp [k.loadA hr], k⟩
    · simp at e
  case store n a x =>
    split at e
    · split at e
      · rename_i hn
        simp only [Option.map_eq_some_iff, Prod.mk.injEq] at e
        obtain ⟨h1, hst, rfl, rfl⟩ := e
        obtain ⟨H1, a, b⟩ := k.store hst
        exact ⟨H1, by simp [hn, a], b⟩
      · simp at e
    · simp at e
  case nilCheck x => split at e <;> first | (simp at e; done) | (cases e; exact ⟨H, rfl, k⟩)
  case bin op x y => simp only [Option.map_eq_some_iff, Prod.mk.injEq] at e; obtain ⟨r, hr, rfl, rfl⟩ := e; exact ⟨H, by simp [hr], k⟩
  case eq neg K x y => simp only [Option.map_eq_some_iff, Prod.mk.injEq] at e; obtain ⟨r, hr, rfl, rfl⟩ := e; exact ⟨H, by simp [hr], k⟩
  case un op x => simp only [Option.map_eq_some_iff, Prod.mk.injEq] at e; obtain ⟨r, hr, rfl, rfl⟩ := e; exact ⟨H, by simp [hr], k⟩
  case toInt kk x => simp only [Option.map_eq_some_iff, Prod.mk.injEq] at e; obtain ⟨r, hr, rfl, rfl⟩ := e; exact ⟨H, by simp [hr], k⟩
  case same x => split at e <;> first | (simp at e; done) | (cases e; exact ⟨H, rfl, k⟩)
  case mark x =>
    split at e
    · split at e
      · rename_i cs hg; cases e; exact ⟨H, by rw [k.at_ hg], k⟩
      · simp at e
    · simp at e
  case toBytes x =>
    split at e
    · cases e; exact ⟨_, by simp [Hp.alloc, k.nx], k.alloc _⟩
    · simp at e
  case toStr x => simp only [Option.map_eq_some_iff, Prod.mk.injEq] at e; obtain ⟨r, hr, rfl, rfl⟩ := e; exact ⟨H, by simp [k.toStr hr], k⟩
  case makeFunc f a c => cases e; exact ⟨H, rfl, k⟩
  case makeMap => cases e; exact ⟨_, by simp [Hp.alloc, k.nx], k.alloc _⟩
  case makeSlice z sz b l c =>
    split at e
    · split at e
      · rename_i hb; cases e; exact ⟨_, by simp only [hb]; simp [Hp.alloc, k.nx], k.alloc _⟩
      · simp at e
    · simp at e
  case sliceStr x lo hi =>
    split at e
    · simp only [Option.map_eq_some_iff] at e
      obtain ⟨⟨l, t, m⟩, hr, e⟩ := e
      cases e
      exact ⟨H, by simp [hr], k⟩
    · simp at e
  case sliceSl sz x lo hi mx => simp only [Option.map_eq_some_iff, Prod.mk.injEq] at e; obtain ⟨r, hr, rfl, rfl⟩ := e; exact ⟨H, by simp [hr], k⟩
  case sliceArr n sz x lo hi mx =>
    split at e
    · simp only [Option.map_eq_some_iff] at e
      obtain ⟨⟨l, t, m⟩, hr, e⟩ := e
      cases e
      exact ⟨H, by simp [hr], k⟩
    · simp at e
  case fieldAddr o x => split at e <;> first | (simp at e; done) | (cases e; exact ⟨H, rfl, k⟩)
  case part o n x =>
    split at e
    · simp only [Option.map_eq_some_iff, Prod.mk.injEq] at e; obtain ⟨r, hr, rfl, rfl⟩ := e; exact ⟨H, by simp [hr], k⟩
    · simp at e
  case indexAddrArr len sz x i => split at e <;> first | (simp at e; done) | (cases e; exact ⟨H, rfl, k⟩)
  case indexAddrSl sz x i =>
    split at e
    · split at e
      · split at e
        · rename_i hz; cases e; exact ⟨H, by simp [hz], k⟩
        · simp at e
      · simp at e
    · simp at e
  case indexArr len sz n x i =>
    split at e
    · simp only [Option.map_eq_some_iff, Prod.mk.injEq] at e; obtain ⟨r, hr, rfl, rfl⟩ := e; exact ⟨H, by simp [hr], k⟩
    · simp at e
  case indexStr x i =>
    split at e
    · split at e
      · simp only [Option.map_eq_some_iff, Prod.mk.injEq] at e; obtain ⟨r, hr, rfl, rfl⟩ := e; exact ⟨H, by simp [hr], k⟩
      · simp at e
    · simp at e
  case lookup kk z x key ok =>
    split at e
    · rename_i es hes
      simp only [Option.map_eq_some_iff, Prod.mk.injEq] at e
      obtain ⟨r, hr, rfl, rfl⟩ := e
      exact ⟨H, by simp [k.mapEs hes, hr], k⟩
    · simp at e
  case mapUpdate kk m key x =>
    split at e
    · split at e
      · rename_i es hg
        simp only [Option.map_eq_some_iff, Prod.mk.injEq] at e
        obtain ⟨h1, hst, rfl, rfl⟩ := e
        obtain ⟨H1, a, b⟩ := k.upd hg hst
        exact ⟨H1, by simp [k.at_ hg, a], b⟩
      · simp at e
    · simp at e
  case extract i x =>
    split at e
    · simp only [Option.map_eq_some_iff, Prod.mk.injEq] at e; obtain ⟨r, hr, rfl, rfl⟩ := e; exact ⟨H, by simp [hr], k⟩
    · simp at e
  case call f as => simp at e
  case append sz b s x =>
    split at e
    · rename_i new n hs
      obtain ⟨H1, a, b⟩ := k.append e
      exact ⟨H1, by simp [k.src hs, a], b⟩
    · simp at e
  case appendN sz b z s n =>
    split at e
    · split at e
      · rename_i hb
        obtain ⟨H1, a, b⟩ := k.append e
        exact ⟨H1, by simp only [hb]; simpa using a, b⟩
      · simp at e
    · simp at e
  case lenStr x => split at e <;> first | (simp at e; done) | (cases e; exact ⟨H, rfl, k⟩)
  case lenSl x => split at e <;> first | (simp at e; done) | (cases e; exact ⟨H, rfl, k⟩)
  case lenMap x =>
    split at e
    · cases e; exact ⟨H, rfl, k⟩
    · split at e
      · rename_i es hg; cases e; exact ⟨H, by rw [k.at_ hg], k⟩
      · simp at e
    · simp at e
  case lenConst n => cases e; exact ⟨H, rfl, k⟩
  case cap x => split at e <;> first | (simp at e; done) | (cases e; exact ⟨H, rfl, k⟩)
  case copy sz d s =>
    split at e
    · simp at e
    · rename_i cs n hs
      obtain ⟨H1, a, b⟩ := k.copy e
      exact ⟨H1, by simp [k.src hs, a], b⟩
  case delete kk m key =>
    split at e
    · split at e
      · rename_i es hg
        simp only [Option.map_eq_some_iff, Prod.mk.injEq] at e
        obtain ⟨h1, hst, rfl, rfl⟩ := e
        obtain ⟨H1, a, b⟩ := k.del hg hst
        exact ⟨H1, by simp [k.at_ hg, a], b⟩
      · simp at e
    · simp at e
  case minmax mx xs =>
    split at e
    · simp only [Option.map_eq_some_iff, Prod.mk.injEq] at e; obtain ⟨r, hr, rfl, rfl⟩ := e; exact ⟨H, by simp [hr], k⟩
    · simp at e
/-- What looks at nothing yields the same over whatever heap. -/
theorem evOp_cls0 {B : Bnds} {op : AOp} {tm : PT AVal} {v h'} (hc : op.cls = 0) (e : evOp B op tm h = some (v, h')) : h' = h ∧ ∀ K, evOp B op tm K = some (v, K) := by
  cases op <;> simp only [AOp.cls] at hc <;> first | (exact absurd hc (by decide)) | skip
  all_goals simp only [Ev.evOp] at e ⊢
  all_goals first
    | (cases e; exact ⟨rfl, fun K => rfl⟩)
    | (simp at e; done)
    | (simp only [Option.map_eq_some_iff, Prod.mk.injEq] at e; obtain ⟨r, hr, rfl, rfl⟩ := e; exact ⟨rfl, fun K => by simp [hr]⟩)
    | (split at e <;> first | (simp at e; done) | (cases e; exact ⟨rfl, fun K => rfl⟩))
    | (split at e
       · simp only [Option.map_eq_some_iff, Prod.mk.injEq] at e; obtain ⟨r, hr, rfl, rfl⟩ := e; exact ⟨rfl, fun K => by simp [hr]⟩
       · simp at e)
    | (split at e
       · simp only [Option.map_eq_some_iff] at e
         obtain ⟨⟨l, t, m⟩, hr, e⟩ := e
         cases e
         exact ⟨rfl, fun K => by simp [hr]⟩
       · simp at e)
    | (split at e
       · split at e
         · split at e
           · rename_i hz; cases e; exact ⟨rfl, fun K => by simp [hz]⟩
           · simp at e
         · simp at e
       · simp at e)
    | (split at e
       · split at e
         · simp only [Option.map_eq_some_iff, Prod.mk.injEq] at e; obtain ⟨r, hr, rfl, rfl⟩ := e; exact ⟨rfl, fun K => by simp [hr]⟩
         · simp at e
       · simp at e)
theorem evOp_cls1 {B : Bnds} {op : AOp} {tm : PT AVal} {v h'} (hc : op.cls = 1) (e : evOp B op tm h = some (v, h')) : h' = h := by
  cases op <;> simp only [AOp.cls] at hc <;> first | (exact absurd hc (by decide)) | skip
  all_goals simp only [Ev.evOp] at e
  all_goals first
    | (simp only [Option.map_eq_some_iff, Prod.mk.injEq] at e; obtain ⟨r, hr, rfl, rfl⟩ := e; rfl)
    | (split at e
       · simp only [Option.map_eq_some_iff, Prod.mk.injEq] at e; obtain ⟨r, hr, rfl, rfl⟩ := e; rfl
       · simp at e)
    | (split at e
       · cases e; rfl
       · split at e
         · cases e; rfl
         · simp at e
       · simp at e)
theorem same1_eq {a b : AVal} (h : AVal.same1 a b = true) : a = b := by
  cases a <;> cases b <;> simp [AVal.same1] at h <;> first | rfl | (obtain ⟨h1, h2⟩ := h; subst h1; subst h2; rfl) | (subst h; rfl) | (obtain ⟨⟨⟨⟨h1, h2⟩, h3⟩, h4⟩, h5⟩ := h; subst h1; subst h2; subst h3; subst h4; subst h5; rfl) | (obtain ⟨⟨h1, h2⟩, h3⟩ := h; subst h1; subst h2; subst h3; rfl)
theorem same1s_eq : ∀ {a b : List AVal}, same1s a b = true → a = b
  | [], [], _ => rfl
  | [], _ :: _, h => by simp [same1s] at h
  | _ :: _, [], h => by simp [same1s] at h
  | x :: xs, y :: ys, h => by simp [same1s] at h; rw [same1_eq h.1, same1s_eq h.2]
theorem same2_eq {a b : AVal} (h : AVal.same2 a b = true) : a = b := by
  unfold AVal.same2 at h
  split at h
  · rw [same1s_eq h]
  · exact same1_eq h
theorem same2s_eq : ∀ {a b : List AVal}, same2s a b = true → a = b
  | [], [], _ => rfl
  | [], _ :: _, h => by simp [same2s] at h
  | _ :: _, [], h => by simp [same2s] at h
  | x :: xs, y :: ys, h => by simp [same2s] at h; rw [same2_eq h.1, same2s_eq h.2]
theorem same_eq {a b : AVal} (h : AVal.same a b = true) : a = b := by
  unfold AVal.same at h
  split at h
  · rw [same2s_eq h]
  · exact same2_eq h
end Go.Ev
namespace Go.Ev
open Go
variable {X : Pos → Option ABlk} {h H : Hp}
inductive All2 {α : Type} (R : α → α → Prop) : List α → List α → Prop
  | nil : All2 R [] []
  | cons {a b x y} (h : R a b) (t : All2 R x y) : All2 R (a :: x) (b :: y)
/-- a run over a larger heap -/
def OvRun (ih : Run) : Prop := ∀ X c tm h H ex tm' h', Ov X h H → ih c ⟨tm, h⟩ = some (ex, ⟨tm', h'⟩) → ∃ H', ih c ⟨tm, H⟩ = some (ex, ⟨tm', H'⟩) ∧ Ov X h' H'
def OvHook (E : Env) : Prop := ∀ X f k args h H v h', E.hook f = some k → Ov X h H → k args h = some (v, h') → ∃ H', k args H = some (v, H') ∧ Ov X h' H'
theorem Ov.res (k : Ov X h H) {tm : PT AVal} : ∀ {rs : List ARes} {vs}, resA h tm rs = some vs → resA H tm rs = some vs
  | [], vs, e => e
  | .tmp p :: r, vs, e => by
    simp only [resA, Option.map_eq_some_iff] at e ⊢
    obtain ⟨a, ha, rfl⟩ := e
    exact ⟨a, k.res ha, rfl⟩
  | .cell p n :: r, vs, e => by
    simp only [resA] at e ⊢
    split at e
    · rename_i id off hp
      split at e
      · rename_i v vs' h1 h2
        rw [k.loadA h1, k.res h2]; exact e
      · simp at e
    · simp at e
section
variable {E : Env} (hE : OvHook E) {ih : Run} (hI : OvRun ih)
include hE hI
theorem Ov.callA (k : Ov X h H) {f args v h'} (e : callA E ih f args h = some (v, h')) : ∃ H', callA E ih f args H = some (v, H') ∧ Ov X h' H' := by
  unfold Ev.callA at *
  split at e
  · rename_i kk hk
    exact hE X f kk args h H v h' hk k e
  · split at e
    · simp at e
    · rename_i fn hfn
      split at e
      · simp at e
      · simp at e
      · rename_i ex s hne hrun
        split at e
        · rename_i vs hvs
          cases e
          obtain ⟨H', q1, q2⟩ := hI X fn.body _ h H ex s.tm s.hp k hrun
          rw [q1]
          refine ⟨H', ?_, q2⟩
          cases ex with
          | exit id => exact (hne id rfl).elim
          | normal => simp only [q2.res hvs]
          | ret => simp only [q2.res hvs]
        · simp at e
theorem Ov.opA (k : Ov X h H) {op tm v h'} (e : opA E ih op tm h = some (v, h')) : ∃ H', opA E ih op tm H = some (v, H') ∧ Ov X h' H' := by
  unfold Ev.opA at *
  split at e
  · split at e
    · rename_i f first cap hf
      obtain ⟨H', q1, q2⟩ := k.callA hE hI e
      exact ⟨H', by simp only [q1], q2⟩
    · simp at e
  · obtain ⟨H', q1, q2⟩ := k.evOp e
    exact ⟨H', q1, q2⟩
theorem Ov.runOps : ∀ {l : List AOper} {s : St} {s'} {h H} (k : Ov X h H), runOps E ih l ⟨s.tm, h⟩ = some s' → ∃ H', runOps E ih l ⟨s.tm, H⟩ = some ⟨s'.tm, H'⟩ ∧ Ov X s'.hp H'
  | [], s, s', h, H, k, e => by simp only [Ev.runOps] at e ⊢; cases e; exact ⟨H, rfl, k⟩
  | o :: r, s, s', h, H, k, e => by
    simp only [Ev.runOps] at e ⊢
    split at e
    · rename_i hw
      split at e
      · rename_i v h1 ho
        obtain ⟨H1, q1, q2⟩ := k.opA hE hI ho
        obtain ⟨H', q3, q4⟩ := Ov.runOps (s := ⟨putD o.dst v s.tm, h1⟩) q2 e
        exact ⟨H', by simp only [q1]; exact q3, q4⟩
      · simp at e
    · rename_i hw
      exact Ov.runOps (s := ⟨putD o.dst .undef s.tm, h⟩) k e
    · simp at e
end
/-- new blocks are laid on either heap -/
theorem Ov.plus : ∀ {l : List Pd} {h H : Hp} (k : Ov X h H) (hx : ∀ p ∈ l, X p.id = none), Ov X { h with t := plus h.t l } { H with t := plus H.t l }
  | [], h, H, k, _ => k
  | p :: r, h, H, k, hx => by
    have hp := hx p (by simp)
    have base : Ov X { h with t := h.t.set (.cells p.cs false) p.id } { H with t := H.t.set (.cells p.cs false) p.id } := by
      refine ⟨k.nx, fun i => ?_, fun i c hi => ?_⟩
      · by_cases hid : i = p.id
        · subst hid; simp only [PT.get_set]; rfl
        · simp only [PT.get_set_ne _ _ _ _ (Ne.symm hid)]; exact k.get i
      · have hid : i ≠ p.id := fun hh => by subst hh; rw [hp] at hi; cases hi
        simp only [PT.get_set_ne _ _ _ _ (Ne.symm hid)]; exact k.low i c hi
    exact Ov.plus (h := { h with t := h.t.set (.cells p.cs false) p.id }) (H := { H with t := H.t.set (.cells p.cs false) p.id }) base (fun q hq => hx q (by simp [hq]))
/-- two states of a region that draws, over two heaps -/
structure DrOv (X : Pos → Option ABlk) (d D : Dr) : Prop where
  tm : d.tm = D.tm
  h : Ov X d.h D.h
  rid : d.rid = D.rid
  pend : d.pend = D.pend
  hs : All2 (Ov X) d.hs D.hs
  fs : d.fs = D.fs
  low : ∀ id, X id ≠ none → id.toNat < d.rid.toNat
  pl : ∀ p ∈ d.pend, X p.id = none
section
variable {E : Env} (hE : OvHook E) {ih : Run} (hI : OvRun ih)
include hE hI
theorem DrOv.step {i o d D d'} (k : DrOv X d D) (e : drawStep E ih i o d = some d') : ∃ D', drawStep E ih i o D = some D' ∧ DrOv X d' D' := by
  unfold drawStep at *
  unfold drawDo at *
  rw [← k.tm, ← k.pend, ← k.rid]
  have hneed : ∀ pre, ∀ p ∈ needs pre d.pend, X p.id = none := fun pre p hp => k.pl p (List.mem_filter.1 hp).1
  have hrest : ∀ pre, ∀ p ∈ rests pre d.pend, X p.id = none := fun pre p hp => k.pl p (List.mem_filter.1 hp).1
  split at e
  · rename_i v d1 hdo
    cases e
    split at hdo
    · split at hdo
      · split at hdo
        · rename_i cs fr hf
          cases hdo
          have hxr : X d.rid = none := by
            cases hx : X d.rid with
            | none => rfl
            | some b => have := k.low d.rid (by rw [hx]; simp); omega
          refine ⟨_, rfl, ⟨rfl, k.h, rfl, rfl, k.hs, k.fs, fun id hid => by have := k.low id hid; simp only [Pos.toNat_succ]; omega, fun p hp => ?_⟩⟩
          rcases List.mem_cons.1 hp with rfl | hp
          · exact hxr
          · exact k.pl p hp
        · simp at hdo
      · split at hdo
        · rename_i v' h1 ho
          cases hdo
          obtain ⟨H1, q1, q2⟩ := (Ov.plus (l := needs o.pre d.pend) k.h (hneed _)).opA hE hI ho
          rw [q1]
          exact ⟨_, rfl, ⟨(by simp [k.tm]), q2, (by first | rfl | exact k.rid), rfl, .cons q2 k.hs, k.fs, k.low, hrest _⟩⟩
        · simp at hdo
      · split at hdo
        · rename_i hlh
          split at hdo
          · rename_i v' h1 ho
            cases hdo
            obtain ⟨H1, q1, q2⟩ := (Ov.plus (l := needs o.pre d.pend) k.h (hneed _)).evOp ho
            simp only [hlh, if_true, q1]
            exact ⟨_, rfl, ⟨(by simp [k.tm]), k.h, (by first | rfl | exact k.rid), (by first | rfl | exact k.pend), k.hs, k.fs, k.low, k.pl⟩⟩
          · simp at hdo
        · rename_i hlh
          split at hdo
          · rename_i v' h1 ho
            cases hdo
            obtain ⟨H1, q1, q2⟩ := k.h.evOp ho
            simp only [hlh, if_false, q1]
            exact ⟨_, rfl, ⟨(by simp [k.tm]), k.h, (by first | rfl | exact k.rid), (by first | rfl | exact k.pend), k.hs, by simp [k.fs], k.low, k.pl⟩⟩
          · simp at hdo
      · split at hdo
        · rename_i v' h1 ho
          cases hdo
          obtain ⟨H1, q1, q2⟩ := k.h.evOp ho
          rw [q1]
          exact ⟨_, rfl, ⟨(by simp [k.tm]), k.h, (by first | rfl | exact k.rid), (by first | rfl | exact k.pend), k.hs, k.fs, k.low, k.pl⟩⟩
        · simp at hdo
    · cases hdo
      refine ⟨_, rfl, ⟨rfl, k.h, rfl, rfl, ?_, k.fs, fun id hid => ?_, k.pl⟩⟩
      · dsimp only
        split
        · exact .cons k.h k.hs
        · exact k.hs
      · have := k.low id hid
        dsimp only
        split
        · rw [Pos.toNat_succ]; omega
        · exact this
    · simp at hdo
  · simp at e
theorem DrOv.run : ∀ {l : List AOper} {i d D d'} (k : DrOv X d D), drawRun E ih l i d = some d' → ∃ D', drawRun E ih l i D = some D' ∧ DrOv X d' D'
  | [], i, d, D, d', k, e => by simp only [drawRun] at e ⊢; cases e; exact ⟨D, rfl, k⟩
  | o :: r, i, d, D, d', k, e => by
    simp only [drawRun] at e ⊢
    split at e
    · rename_i d1 h1
      obtain ⟨D1, q1, q2⟩ := k.step hE hI h1
      obtain ⟨D', q3, q4⟩ := DrOv.run q2 e
      exact ⟨D', by rw [q1]; exact q3, q4⟩
    · simp at e
end
theorem flOk1_ov {B : Bnds} {f : Fl} {n : Nat} (k : Ov X h H) (e : flOk1 B f n h = true) : flOk1 B f n H = true := by
  unfold flOk1 at *
  split at e
  · rename_i hlh
    rw [if_pos hlh]
    split at e
    · rename_i v h1 ho
      obtain ⟨H1, q1, q2⟩ := k.evOp ho
      rw [q1]; exact e
    · simp at e
  · rename_i hlh; rw [if_neg hlh]
theorem flOk_ov {B : Bnds} {f : Fl} : ∀ {hs Hs : List Hp} {n : Nat}, All2 (Ov X) hs Hs → flOk B hs n f = true → flOk B Hs n f = true
  | _, _, n, .nil, e => e
  | _, _, n, .cons k r, e => by
    simp only [flOk, Bool.and_eq_true] at e ⊢
    exact ⟨flOk1_ov k e.1, flOk_ov r e.2⟩
theorem forall2_reverse {α : Type} {R : α → α → Prop} {a b : List α} (h : All2 R a b) : All2 R a.reverse b.reverse := by
  have app : ∀ {x y u v : List α}, All2 R x y → All2 R u v → All2 R (x ++ u) (y ++ v) := by
    intro x y u v hx hu
    induction hx with
    | nil => exact hu
    | cons a b ih => exact .cons a ih
  induction h with
  | nil => exact .nil
  | cons a b ih => rw [List.reverse_cons, List.reverse_cons]; exact app ih (.cons a .nil)
theorem keep_le : ∀ (l : List AOper) (p : Pos), p.toNat ≤ (keep l p).toNat
  | [], p => Nat.le_refl _
  | o :: r, p => by
    simp only [keep]
    refine Nat.le_trans ?_ (keep_le r _)
    split
    · rw [Pos.toNat_succ]; omega
    · exact Nat.le_refl _
theorem ovRun_step {E : Env} (hE : OvHook E) {ih : Run} (hI : OvRun ih) : OvRun (stepC E ih) := by
  intro X c tm h H ex tm' h' k e
  cases c with
  | skip => simp only [stepC] at e ⊢; cases e; exact ⟨H, rfl, k⟩
  | region ops dr =>
    cases dr with
    | false =>
      simp only [stepC, Option.map_eq_some_iff, Prod.mk.injEq] at e ⊢
      obtain ⟨s, hs, rfl, rfl⟩ := e
      obtain ⟨H', q1, q2⟩ := Ov.runOps hE hI (s := ⟨tm, h⟩) k hs
      exact ⟨H', ⟨_, q1, rfl, rfl⟩, q2⟩
    | true =>
      simp only [stepC] at e ⊢
      split at e
      · rename_i d hd
        split at e
        · rename_i hfl
          cases e
          have k0 : Ov X { h with nx := keep ops h.nx } { H with nx := keep ops H.nx } := by
            refine ⟨by simp [k.nx], k.get, fun id b hb => ⟨(k.low id b hb).1, ?_⟩⟩
            have := (k.low id b hb).2
            have := keep_le ops h.nx
            dsimp only; omega
          have kd : DrOv X { tm := tm, h := { h with nx := keep ops h.nx }, rid := h.nx, pend := [], hs := [{ h with nx := keep ops h.nx }], fs := [] } { tm := tm, h := { H with nx := keep ops H.nx }, rid := H.nx, pend := [], hs := [{ H with nx := keep ops H.nx }], fs := [] } :=
            ⟨rfl, k0, k.nx, rfl, .cons k0 .nil, rfl, fun id hid => by
              cases hx : X id with
              | none => exact absurd hx hid
              | some b => exact (k.low id b hx).2, fun p hp => by simp at hp⟩
          obtain ⟨D, q1, q2⟩ := kd.run hE hI hd
          rw [q1]
          have hfl2 : D.fs.all (flOk E.bnds D.hs.reverse 0) = true := by
            rw [← q2.fs]
            rw [List.all_eq_true] at hfl ⊢
            exact fun f hf => flOk_ov (forall2_reverse q2.hs) (hfl f hf)
          refine ⟨{ D.h with t := plus D.h.t D.pend }, ?_, ?_⟩
          · simp only [hfl2, if_true, q2.tm]
          · rw [← q2.pend]; exact q2.h.plus q2.pl
        · simp at e
      · simp at e
  | seq a b =>
    simp only [stepC] at e ⊢
    split at e
    · rename_i s hs
      obtain ⟨H1, q1, q2⟩ := hI X a tm h H .normal s.tm s.hp k hs
      obtain ⟨H', q3, q4⟩ := hI X b s.tm s.hp H1 ex tm' h' q2 e
      exact ⟨H', by rw [q1]; exact q3, q4⟩
    · rename_i hne
      obtain ⟨H1, q1, q2⟩ := hI X a tm h H ex tm' h' k e
      refine ⟨H1, ?_, q2⟩
      rw [q1]
      cases ex with
      | normal => exact (hne _ e).elim
      | ret => rfl
      | exit id => rfl
  | cond c a b =>
    simp only [stepC] at e ⊢
    split at e
    · exact hI X a tm h H ex tm' h' k e
    · exact hI X b tm h H ex tm' h' k e
    · simp at e
  | block id b =>
    simp only [stepC] at e ⊢
    split at e
    · rename_i j s hs
      obtain ⟨H1, q1, q2⟩ := hI X b tm h H (.exit j) s.tm s.hp k hs
      rw [q1]
      simp only
      split at e
      · rename_i hj; cases e; exact ⟨H1, by simp [hj], q2⟩
      · rename_i hj; cases e; exact ⟨H1, by simp [hj], q2⟩
    · rename_i hne
      obtain ⟨H1, q1, q2⟩ := hI X b tm h H ex tm' h' k e
      refine ⟨H1, ?_, q2⟩
      rw [q1]
      cases ex with
      | normal => rfl
      | ret => rfl
      | exit id => exact (hne _ _ e).elim
  | loop b =>
    simp only [stepC] at e ⊢
    split at e
    · rename_i s hs
      obtain ⟨H1, q1, q2⟩ := hI X b tm h H .normal s.tm s.hp k hs
      obtain ⟨H', q3, q4⟩ := hI X (.loop b) s.tm s.hp H1 ex tm' h' q2 e
      exact ⟨H', by rw [q1]; exact q3, q4⟩
    · rename_i hne
      obtain ⟨H1, q1, q2⟩ := hI X b tm h H ex tm' h' k e
      refine ⟨H1, ?_, q2⟩
      rw [q1]
      cases ex with
      | normal => exact (hne _ e).elim
      | ret => rfl
      | exit id => rfl
  | exit id => simp only [stepC] at e ⊢; cases e; exact ⟨H, rfl, k⟩
  | ret => simp only [stepC] at e ⊢; cases e; exact ⟨H, rfl, k⟩
  | none => simp [stepC] at e
theorem ovRun_exec {E : Env} (hE : OvHook E) : ∀ n, OvRun (exec E n)
  | 0 => fun X c tm h H ex tm' h' k e => by simp [exec] at e
  | n + 1 => ovRun_step hE (ovRun_exec hE n)
end Go.Ev
