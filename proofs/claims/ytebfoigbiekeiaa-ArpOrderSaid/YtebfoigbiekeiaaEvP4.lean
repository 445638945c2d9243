/-
  Operations: maps, rows, the rest.
-/
import Derived.Test.YtebfoigbiekeiaaEvP3
import Derived.MapKept
import Derived.Laws.BytesString
set_option linter.unusedVariables false
set_option linter.unusedSimpArgs false
namespace Go.Ev
open Go Go.RowKit
variable {V : Vn} {P : Program} {μ : Map}
set_option maxHeartbeats 1000000 in
theorem good_copy {h w} (k : HR V μ h w) {dT elem ty : TypeId} {ts : List TypeId} {i : TypeInfo} (hu : P.underlying dT = some (.slice elem)) (hi : P.info? elem = some i) (hsz : i.size ≠ 0) {d s : AVal} {dv sv : Value} (hd : VR V μ d dv) (hs : VR V μ s sv) {cs : List AVal} {n : Nat}
    (e1 : srcCells h i.size s = some (cs, n)) {r : AVal} {h' : Hp}
    (e : copyA h i.size cs n d = some (r, h')) :
    Good V μ h w ((Builtin.copy_ (dT :: ts).toArray ty #[dv, sv]).run P w) r h' := by
  unfold copyA at e
  obtain ⟨us, hus, hul, hcnt, hcells⟩ := src_spec (P := P) k e1 hs
  have hun : ∀ (base : Option Addr) (dLen dCap : Nat), dv = .slice base dLen dCap → ∀ w' v', (match base with | some a => storeCells a (us.take (min n dLen * i.size)) | none => pure ()).run P w = .ok () w' → v' = goInt (min n dLen : Nat) →
      (Builtin.copy_ (dT :: ts).toArray ty #[dv, sv]).run P w = .ok v' w' := by
    rintro base dLen dCap rfl w' v' hst rfl
    have hc := hcells (min n dLen) (Nat.min_le_left _ _)
    have e2 : Nat.min n dLen = min n dLen := rfl
    cases base with
    | none =>
      simp only [Sem.run_pure, Result.ok.injEq, true_and] at hst
      subst hst
      simp [Builtin.copy_, run_underlying hu, hcnt, run_sizeOf' hi, hc, e2]
    | some a =>
      simp only at hst
      simp [Builtin.copy_, run_underlying hu, hcnt, run_sizeOf' hi, hc, e2, hst]
  cases d with
  | nilslice =>
    simp only at e
    cases e
    rw [VR] at hd
    subst hd
    exact Good.pure k (hun none 0 0 rfl w _ rfl rfl) (by rw [VR]; simp [goInt])
  | slice id off len cap z =>
    simp only at e
    split at e
    · simp at e
    · rename_i hz
      have hz : z = i.size := by simpa using hz
      subst hz
      obtain ⟨l, rc, o, hl, rfl, ha, hb⟩ := VR_slice hd
      split at e
      · rename_i h0
        cases e
        refine Good.pure k (hun _ _ _ rfl w _ ?_ rfl) (by rw [VR, h0]; rfl)
        rw [h0]; simp [storeCells]
      · rename_i h0
        simp only [Option.map_eq_some_iff, Prod.mk.injEq] at e
        obtain ⟨h1, hst, rfl, rfl⟩ := e
        have hcl : cs.length = n * i.size := by rw [hus.length, hul]
        have hne : cs.take (min n len * i.size) ≠ [] := fun hh => by
          have := congrArg List.length hh
          simp only [List.length_take, hcl, List.length_nil] at this
          have h5 : 0 < min n len * i.size := Nat.mul_pos (by omega) (by omega)
          have h6 : min n len * i.size ≤ n * i.size := Nat.mul_le_mul_right _ (Nat.min_le_left _ _)
          omega
        obtain ⟨l', hl', hrun, hr, he⟩ := k.store hst hne (VRs_take _ hus)
        rw [hl] at hl'; cases hl'
        have ho : o = l.s + off := by
          cases cap with
          | some c => exact (ha c rfl).2
          | none => rcases hb rfl with hb | hb
                    · exact hb.2.1
                    · exfalso; rw [hb.1] at h0; simp at h0
        subst ho
        exact ⟨_, _, μ, hun _ _ _ rfl _ _ (hrun P) rfl, by rw [VR]; rfl, hr, he⟩
  | _ => simp at e
/-! ### maps -/
def Scal (d : TypeDesc) : Prop := (∃ k, d = .int k) ∨ d = .string
theorem checkKey_scal {t : TypeId} {d : TypeDesc} (hd : P.underlying t = some d) (hs : Scal d) (e : Bool) (v : Value) (w : World) : (Instr.checkKey e 10000 t v).run P w = .ok () w := by
  have : Instr.checkKey e (9999 + 1) t v = Instr.checkKey e 10000 t v := rfl
  rw [← this]
  generalize 9999 = n
  rw [Instr.checkKey, Sem.run_bind, run_underlying hd]
  rcases hs with ⟨k, rfl⟩ | rfl <;> rfl
/-- a key's kind, and its type's -/
def KindOf (kk : SK) (d : TypeDesc) : Prop := (kk = .i ∧ ∃ k, d = .int k) ∨ (kk = .s ∧ d = .string)
theorem KindOf.scal {kk d} (h : KindOf kk d) : Scal d := by
  rcases h with ⟨_, k, rfl⟩ | ⟨_, rfl⟩
  · exact .inl ⟨k, rfl⟩
  · exact .inr rfl
theorem str_eq_of {b b' : ByteArray} (h : b.data.toList = b'.data.toList) : b = b' := by
  cases b; cases b'; simp at h; rw [h]
theorem idxK_spec {kk : SK} {d : TypeDesc} (hs : KindOf kk d) {key : AVal} {kv : Value} (hk : VR V μ key kv) : ∀ (es : List (AVal × AVal)) (l : List MapEntry) (i : Nat) (r : Option Nat), idxK kk key es = some r → MR V μ es l →
    (match r with
     | none => Instr.findNow d kv l i = some none
     | some j => ∃ u v e, Instr.findNow d kv l i = some (some (i + j, u)) ∧ nthE j es = some v ∧ VR V μ v u ∧ l[j]? = some e ∧ e.key = kv ∧ e.val = u)
  | [], l, i, r, h, m => by
    simp only [MR] at m; subst m
    have : r = none := by
      unfold idxK at h
      split at h <;> first | (cases h; rfl) | (simp at h; done)
    subst this
    rfl
  | (a, v) :: es, l, i, r, h, m => by
    obtain ⟨e, ls, rfl, ma, mv, mr⟩ := m
    unfold idxK at h
    split at h
    · rename_i k n k' n'
      rcases hs with ⟨_, k0, rfl⟩ | ⟨hh, _⟩
      · split at h
        · rename_i hkk
          subst hkk
          rw [VR] at hk; rw [VR] at ma
          subst hk
          split at h
          · rename_i hb
            have hn : n = n' := by simpa using hb
            subst hn
            cases h
            refine ⟨e.val, v, e, ?_, rfl, mv, rfl, ma, rfl⟩
            simp [Instr.findNow, ma, Instr.sameNow]
          · rename_i hb
            have hn : (n == n') = false := by simpa using hb
            simp only [Option.map_eq_some_iff] at h
            obtain ⟨r', h, rfl⟩ := h
            have ih := idxK_spec (kk := .i) (.inl ⟨rfl, k0, rfl⟩) (key := .int k n) (by rw [VR]) es ls (i + 1) r' h mr
            cases r' with
            | none => simpa [Instr.findNow, ma, Instr.sameNow, hn] using ih
            | some j =>
              obtain ⟨u, v', e', q1, q1', q2, q3, q4, q5⟩ := ih
              refine ⟨u, v', e', ?_, q1', q2, by simpa using q3, q4, q5⟩
              simp [Instr.findNow, ma, Instr.sameNow, hn, q1]; omega
        · simp at h
      · cases hh
    · rename_i s s'
      rcases hs with ⟨hh, _⟩ | ⟨_, rfl⟩
      · cases hh
      · rw [VR] at hk; rw [VR] at ma
        obtain ⟨b, rfl, hb⟩ := hk
        obtain ⟨b', ma, hb'⟩ := ma
        have hbeq : (b == b') = (s == s') := by rw [str_beq, hb, hb']
        split at h
        · rename_i hh
          cases h
          have hbt : (b == b') = true := by rw [hbeq]; exact hh
          have hbb : b = b' := str_eq_of (by rw [hb, hb']; simpa using hh)
          refine ⟨e.val, v, e, ?_, rfl, mv, rfl, by rw [ma, hbb], rfl⟩
          simp [Instr.findNow, ma, Instr.sameNow, hbt]
        · rename_i hh
          have hbb : (b == b') = false := by rw [hbeq]; simpa using hh
          simp only [Option.map_eq_some_iff] at h
          obtain ⟨r', h, rfl⟩ := h
          have ih := idxK_spec (kk := .s) (.inr ⟨rfl, rfl⟩) (key := .str s) (by rw [VR]; exact ⟨b, rfl, hb⟩) es ls (i + 1) r' h mr
          cases r' with
          | none => simpa [Instr.findNow, ma, Instr.sameNow, hbb] using ih
          | some j =>
            obtain ⟨u, v', e', q1, q1', q2, q3, q4, q5⟩ := ih
            refine ⟨u, v', e', ?_, q1', q2, by simpa using q3, q4, q5⟩
            simp [Instr.findNow, ma, Instr.sameNow, hbb, q1]; omega
    · simp at h
theorem findKey_run {kt : TypeId} {kk : SK} {d : TypeDesc} (hd : P.underlying kt = some d) {kv : Value} {l : List MapEntry} {r : Option (Nat × Value)} (h : Instr.findNow d kv l 0 = some r) (w : World) : (Instr.findKey kt kv l).run P w = .ok r w := by
  simp only [Instr.findKey, Sem.run_bind, run_underlying hd, Result.andThen_ok, h]; rfl
theorem MR_snoc {k v : AVal} {e : MapEntry} (hk : VR V μ k e.key) (hv : VR V μ v e.val) : ∀ {es l}, MR V μ es l → MR V μ (es ++ [(k, v)]) (l ++ [e])
  | [], l, h => by simp only [MR] at h; subst h; exact ⟨e, [], rfl, hk, hv, rfl⟩
  | (a, b) :: es, l, ⟨e', ls, q, x, y, z⟩ => ⟨e', ls ++ [e], by rw [q]; rfl, x, y, MR_snoc hk hv z⟩
theorem MR_set {k v : AVal} {kv vv : Value} (hk : VR V μ k kv) (hv : VR V μ v vv) : ∀ {es l} (j : Nat), MR V μ es l → MR V μ (setE k v j es) (l.modify j fun e => { e with key := kv, val := vv })
  | [], l, j, h => by simp only [MR] at h; subst h; cases j <;> simp [setE, MR]
  | (a, b) :: es, l, 0, ⟨e', ls, q, x, y, z⟩ => by subst q; exact ⟨_, ls, rfl, hk, hv, z⟩
  | (a, b) :: es, l, j + 1, ⟨e', ls, q, x, y, z⟩ => by subst q; exact ⟨e', _, rfl, x, y, MR_set hk hv j z⟩
theorem MR_del : ∀ {es l} (j : Nat), MR V μ es l → MR V μ (delE j es) (l.eraseIdx j)
  | [], l, j, h => by simp only [MR] at h; subst h; cases j <;> simp [delE, MR]
  | (a, b) :: es, l, 0, ⟨e', ls, q, x, y, z⟩ => by subst q; exact z
  | (a, b) :: es, l, j + 1, ⟨e', ls, q, x, y, z⟩ => by subst q; exact ⟨e', _, rfl, x, y, MR_del j z⟩
theorem HR.mapOf {h w} (k : HR V μ h w) {id : Pos} {es} (hg : h.t.get id = some (.map es)) : ∃ l es' ck, μ id = some l ∧ w.heap[l.b]? = some (.map es' ck) ∧ MR V μ es es'.toList := by
  obtain ⟨l, p, es', ck, q, r, _⟩ := k.blk id _ hg
  exact ⟨l, es', ck, p, q, r⟩
theorem HR.born {h w} (k : HR V μ h w) {id : Pos} {es} {l : Loc} {es' : Array MapEntry} {ck : Nat} (hg : h.t.get id = some (.map es)) (hl : μ id = some l) (hw : w.heap[l.b]? = some (.map es' ck)) : Born es'.toList ck := by
  obtain ⟨l', p, es2, ck2, q, r, b⟩ := k.blk id _ hg
  rw [hl] at p; cases p
  rw [hw] at q; cases q
  exact b
theorem HR.turnMap {h w} (k : HR V μ h w) {id : Pos} {es es1 : List (AVal × AVal)} {l : Loc} {es' es2 : Array MapEntry} {ck ck' : Nat} (hg : h.t.get id = some (.map es)) (hl : μ id = some l) (hw : w.heap[l.b]? = some (.map es' ck)) (hm : MR V μ es1 es2.toList) (hb : Born es2.toList ck') :
    HR V μ { h with t := h.t.set (.map es1) id } { w with heap := w.heap.setIfInBounds l.b (.map es2 ck') } ∧ Ext μ h w μ { h with t := h.t.set (.map es1) id } { w with heap := w.heap.setIfInBounds l.b (.map es2 ck') } := by
  have hlt : l.b < w.heap.size := k.inW _ _ hl
  refine k.turn hg rfl hl (b := .map es1) ⟨es2, ck', ?_, hm, hb⟩ (fun i hi => ?_) (by simp) rfl rfl rfl rfl
  · show (w.heap.setIfInBounds l.b _)[l.b]? = _
    simp [hlt]
  · show (w.heap.setIfInBounds l.b _)[i]? = _
    rw [Array.getElem?_setIfInBounds_ne (Ne.symm hi)]
theorem VR_tuple_mk {cs : List AVal} {a : Array Value} (h : VRs V μ cs a.toList) : VR V μ (.tuple cs) (.tuple a) := by rw [VR]; exact ⟨_, rfl, h⟩
theorem getObj_map {w : World} {r : Nat} {es : Array MapEntry} {ck : Nat} (h : w.heap[r]? = some (.map es ck)) : (getObj r).run P w = .ok (.map es ck) w := by simp [getObj, Sem.run, h]
theorem setObj_map {w : World} {r : Nat} {es : Array MapEntry} {ck : Nat} (o : Obj) (h : w.heap[r]? = some (.map es ck)) : (setObj r o).run P w = .ok () { w with heap := w.heap.setIfInBounds r o } := by simp [setObj, Sem.run, h]
theorem good_lookup {h w} (k : HR V μ h w) {t kt elem : TypeId} {d : TypeDesc} {kk : SK} {z : AVal} (hu : P.underlying t = some (.map kt elem)) (hd : P.underlying kt = some d) (hkk : KindOf kk d) (hz : cZero P elem = some z) {x key : AVal} {xv kv : Value} (hx : VR V μ x xv) (hk : VR V μ key kv) {es : List (AVal × AVal)}
    (hes : mapEs h x = some es) (ok : Bool) {r : AVal}
    (e : lookA kk z key ok es = some r) : Good V μ h w ((Instr.lookup t xv kv ok).run P w) r h := by
  unfold mapEs at hes
  unfold lookA at e
  obtain ⟨i, zv, hi, hzv, hc⟩ := cZero_spec hz
  have hzr : VR V μ z zv := VR_ofConst hc
  have hck := fun e => checkKey_scal (P := P) hd hkk.scal e kv w
  have hgo : ∀ es' : Array MapEntry, MR V μ es es'.toList → ∃ fr v', (Instr.findKey kt kv es'.toList).run P w = .ok fr w ∧ VR V μ r v' ∧
      (fr = none ∧ v' = (if ok then Value.tuple #[zv, .bool false] else zv) ∨ ∃ j u, fr = some (j, u) ∧ v' = (if ok then Value.tuple #[u, .bool true] else u)) := by
    intro es' hm
    split at e
    · simp at e
    · rename_i hi'
      have hs := idxK_spec hkk hk es es'.toList 0 none hi' hm
      have hf := findKey_run (P := P) (kt := kt) (kk := kk) hd hs w
      cases e
      refine ⟨none, _, hf, ?_, .inl ⟨rfl, rfl⟩⟩
      cases ok
      · exact hzr
      · exact VR_tuple_mk (VRs_cons hzr (VRs_cons (VR_bool.2 rfl) VRs_nil))
    · rename_i j hi'
      obtain ⟨u, v, en, q1, q2, q3, q4, q5, q6⟩ := idxK_spec hkk hk es es'.toList 0 (some j) hi' hm
      have hf := findKey_run (P := P) (kt := kt) (kk := kk) hd q1 w
      simp only [q2] at e
      cases e
      refine ⟨_, _, hf, ?_, .inr ⟨_, _, rfl, rfl⟩⟩
      cases ok
      · exact q3
      · exact VR_tuple_mk (VRs_cons q3 (VRs_cons (VR_bool.2 rfl) VRs_nil))
  cases x with
  | nilmap =>
    simp only at hes
    cases hes
    rw [VR] at hx; subst hx
    obtain ⟨fr, v', hf, hv', hh⟩ := hgo #[] rfl
    refine Good.pure k (v' := v') ?_ hv'
    have hf' : (Instr.findKey kt kv []).run P w = .ok fr w := hf
    rcases hh with ⟨rfl, rfl⟩ | ⟨j, u, rfl, rfl⟩
    · cases ok <;> simp [Instr.lookup, run_underlying hu, hck, hf', run_zeroValue' hi hzv]
    · cases ok <;> simp [Instr.lookup, run_underlying hu, hck, hf', run_zeroValue' hi hzv]
  | map id =>
    simp only at hes
    split at hes
    · rename_i es0 hg
      cases hes
      rw [VR] at hx
      obtain ⟨l, hl, rfl⟩ := hx
      obtain ⟨l', es', ck, hl', hw, hm⟩ := k.mapOf hg
      rw [hl] at hl'; cases hl'
      obtain ⟨fr, v', hf, hv', hh⟩ := hgo es' hm
      refine Good.pure k (v' := v') ?_ hv'
      have hob := getObj_map (P := P) hw
      rcases hh with ⟨rfl, rfl⟩ | ⟨j, u, rfl, rfl⟩
      · cases ok <;> simp [Instr.lookup, run_underlying hu, hob, hck, hf, run_zeroValue' hi hzv]
      · cases ok <;> simp [Instr.lookup, run_underlying hu, hob, hck, hf, run_zeroValue' hi hzv]
    · simp at hes
  | _ => simp at hes
theorem idxK_key {kk : SK} {key : AVal} {es : List (AVal × AVal)} {j : Option Nat} (h : idxK kk key es = some j) : (∃ k n, key = .int k n) ∨ ∃ s, key = .str s := by
  cases es with
  | nil => unfold idxK at h; split at h <;> first | exact .inl ⟨_, _, rfl⟩ | exact .inr ⟨_, rfl⟩ | (simp at h; done)
  | cons e r => unfold idxK at h; split at h <;> first | exact .inl ⟨_, _, rfl⟩ | exact .inr ⟨_, rfl⟩ | (simp at h; done)
theorem keyStays {key : AVal} (h : (∃ k n, key = .int k n) ∨ ∃ s, key = .str s) {kv : Value} (hk : VR V μ key kv) (w : World) : (Instr.keyThatStays kv kv).run P w = .ok kv w := by
  have hs : Instr.sameBits 10000 kv kv = true := by
    rcases h with ⟨k, n, rfl⟩ | ⟨s, rfl⟩
    · rw [VR] at hk; subst hk; simp [Instr.sameBits]
    · rw [VR] at hk
      obtain ⟨b, rfl, hb⟩ := hk
      simp only [Instr.sameBits]
      rw [str_beq]; simp
  simp [Instr.keyThatStays, hs]
theorem good_mapUpdate {h w} (k : HR V μ h w) {t kt elem : TypeId} {d : TypeDesc} {kk : SK} (hu : P.underlying t = some (.map kt elem)) (hd : P.underlying kt = some d) (hkk : KindOf kk d) {id : Pos} {key v : AVal} {xv kv vv : Value} (hx : VR V μ (.map id) xv) (hk : VR V μ key kv) (hv : VR V μ v vv) {es : List (AVal × AVal)}
    (hg : h.t.get id = some (.map es)) {h' : Hp}
    (e : updA h kk id key v es = some h') : ∃ w', (Instr.mapUpdate t xv kv vv).run P w = .ok () w' ∧ HR V μ h' w' ∧ Ext μ h w μ h' w' := by
  unfold updA at e
  have hck := fun e => checkKey_scal (P := P) hd hkk.scal e kv w
  rw [VR] at hx
  obtain ⟨l, hl, rfl⟩ := hx
  obtain ⟨l', es', ck, hl', hw, hm⟩ := k.mapOf hg
  rw [hl] at hl'; cases hl'
  have hgo := getObj_map (P := P) hw
  split at e
  · simp at e
  · rename_i hi'
    have hs := idxK_spec hkk hk es es'.toList 0 none hi' hm
    have hf := findKey_run (P := P) (kt := kt) (kk := kk) hd hs w
    cases e
    have hst := setObj_map (P := P) (.map (es'.push { key := kv, val := vv, born := ck }) (ck + 1)) hw
    obtain ⟨a, b⟩ := k.turnMap (es1 := es ++ [(key, v)]) (es2 := es'.push { key := kv, val := vv, born := ck }) (ck' := ck + 1) hg hl hw (by rw [Array.toList_push]; exact MR_snoc hk hv hm) (by
      rw [Array.toList_push]; intro e he
      rcases List.mem_append.1 he with he | he
      · have := k.born hg hl hw e he; omega
      · simp at he; subst he; simp)
    exact ⟨_, by simp [Instr.mapUpdate, run_underlying hu, hgo, hck, hf, hst], a, b⟩
  · rename_i j hi'
    obtain ⟨u, v', en, q1, q2, q3, q4, q5, q6⟩ := idxK_spec hkk hk es es'.toList 0 (some j) hi' hm
    have hf := findKey_run (P := P) (kt := kt) (kk := kk) hd q1 w
    rw [Nat.zero_add] at hf
    cases e
    have hj : es'[j]? = some en := by simpa using q4
    have hks : (Instr.keyThatStays (((es'[j]?).map (·.key)).getD kv) kv).run P w = .ok kv w := by
      rw [hj]; simp only [Option.map_some, Option.getD_some, q5]; exact keyStays (idxK_key hi') hk w
    have hst := setObj_map (P := P) (.map (es'.modify j fun e => { e with key := kv, val := vv }) ck) hw
    obtain ⟨a, b⟩ := k.turnMap (es1 := setE key v j es) (es2 := es'.modify j fun e => { e with key := kv, val := vv }) (ck' := ck) hg hl hw (by rw [Array.toList_modify]; exact MR_set hk hv j hm) (by
      intro e he
      obtain ⟨i, hi⟩ := List.getElem?_of_mem he
      have hi2 : (es'.modify j fun e => { e with key := kv, val := vv })[i]? = some e := by rw [← Array.getElem?_toList]; exact hi
      rw [Array.getElem?_modify] at hi2
      split at hi2
      · simp only [Option.map_eq_some_iff] at hi2
        obtain ⟨e0, h0, rfl⟩ := hi2
        exact k.born hg hl hw e0 (Array.mem_toList_iff.2 (Array.mem_of_getElem? h0))
      · exact k.born hg hl hw e (Array.mem_toList_iff.2 (Array.mem_of_getElem? hi2)))
    refine ⟨_, ?_, a, b⟩
    simp only [Instr.mapUpdate, Sem.run_bind, run_underlying hu, hgo, hck, hf, Result.andThen_ok, hks, hst]
theorem good_delete {h w} (k : HR V μ h w) {t kt elem ty : TypeId} {ts : List TypeId} {d : TypeDesc} {kk : SK} (hu : P.underlying t = some (.map kt elem)) (hd : P.underlying kt = some d) (hkk : KindOf kk d) {id : Pos} {key : AVal} {xv kv : Value} (hx : VR V μ (.map id) xv) (hk : VR V μ key kv) {es : List (AVal × AVal)}
    (hg : h.t.get id = some (.map es)) {h' : Hp}
    (e : delA h kk id key es = some h') : ∃ w', (Builtin.delete_ (t :: ts).toArray ty #[xv, kv]).run P w = .ok (.tuple #[]) w' ∧ HR V μ h' w' ∧ Ext μ h w μ h' w' := by
  unfold delA at e
  have hck := fun e => checkKey_scal (P := P) hd hkk.scal e kv w
  rw [VR] at hx
  obtain ⟨l, hl, rfl⟩ := hx
  obtain ⟨l', es', ck, hl', hw, hm⟩ := k.mapOf hg
  rw [hl] at hl'; cases hl'
  have hgo := getObj_map (P := P) hw
  split at e
  · simp at e
  · rename_i hi'
    have hs := idxK_spec hkk hk es es'.toList 0 none hi' hm
    have hf := findKey_run (P := P) (kt := kt) (kk := kk) hd hs w
    cases e
    have hst := setObj_map (P := P) (.map es' ck) hw
    obtain ⟨a, b⟩ := k.turnMap (es1 := es) (es2 := es') (ck' := ck) hg hl hw hm (k.born hg hl hw)
    exact ⟨_, by simp [Builtin.delete_, run_underlying hu, hgo, hck, hf, hst], a, b⟩
  · rename_i j hi'
    obtain ⟨u, v', en, q1, q2, q3, q4, q5, q6⟩ := idxK_spec hkk hk es es'.toList 0 (some j) hi' hm
    have hf := findKey_run (P := P) (kt := kt) (kk := kk) hd q1 w
    rw [Nat.zero_add] at hf
    cases e
    have hst := setObj_map (P := P) (.map (es'.eraseIdxIfInBounds j) ck) hw
    have hjl : j < es'.size := by
      have := (List.getElem?_eq_some_iff.1 q4).1
      simpa using this
    obtain ⟨a, b⟩ := k.turnMap (es1 := delE j es) (es2 := es'.eraseIdxIfInBounds j) (ck' := ck) hg hl hw (by
      have : (es'.eraseIdxIfInBounds j).toList = es'.toList.eraseIdx j := by
        simp [Array.eraseIdxIfInBounds, hjl]
      rw [this]; exact MR_del j hm) (by
      intro e he
      have : (es'.eraseIdxIfInBounds j).toList = es'.toList.eraseIdx j := by
        simp [Array.eraseIdxIfInBounds, hjl]
      rw [this] at he
      exact k.born hg hl hw e (List.mem_of_mem_eraseIdx he))
    exact ⟨_, by simp [Builtin.delete_, run_underlying hu, hgo, hck, hf, hst], a, b⟩
end Go.Ev
namespace Go.Ev
open Go Go.RowKit
variable {V : Vn} {P : Program} {μ : Map} {gs : List Nat}
/-- the temporaries -/
def TR (V : Vn) (μ : Map) (tm : PT AVal) (a : Act) : Prop := ∀ t, VR V μ ((tm.get (.ofNat t)).getD .undef) (a.tmps.getD t undef)
/-- the variables of the package that the code names -/
def GlOk (gs : List Nat) (μ : Map) : Prop := ∀ g, g ∈ gs → ∃ m, μ (.ofNat g) = some ⟨g, 0, m⟩
theorem TR.mono {μ ν : Map} (h : μ.le ν) {tm a} (k : TR V μ tm a) : TR V ν tm a := fun t => VR.mono h _ _ (k t)
theorem GlOk.mono {μ ν : Map} (h : μ.le ν) (k : GlOk gs μ) : GlOk gs ν := fun g hg => let ⟨m, e⟩ := k g hg; ⟨m, h _ _ e⟩
theorem ev_tmp (tm : PT AVal) (p : Pos) : (AOpd.tmp p).ev tm = (tm.get p).getD .undef := by
  simp only [AOpd.ev]; cases tm.get p <;> rfl
theorem opd_ok {tm : PT AVal} {a : Act} (ht : TR V μ tm a) (hg : GlOk gs μ) {x : Operand} {y : AOpd} (h : cOpd gs x = some y) : VR V μ (y.ev tm) (a.eval x) := by
  cases x with
  | tmp t => simp only [cOpd] at h; cases h; rw [ev_tmp]; exact ht t
  | const v =>
    simp only [cOpd, Option.map_eq_some_iff] at h
    obtain ⟨c, hc, rfl⟩ := h
    exact VR_ofConst hc
  | global g =>
    simp only [cOpd] at h
    split at h
    · rename_i hm
      cases h
      obtain ⟨m, e⟩ := hg g (by simpa using hm)
      simp only [AOpd.ev, Act.eval]
      rw [VR_ptr]; exact ⟨_, e, rfl⟩
    · simp at h
  | func f =>
    simp only [cOpd] at h; cases h
    simp only [AOpd.ev, Act.eval]
    rw [VR]; exact ⟨#[], #[], rfl, VRs_nil, VRs_nil⟩
theorem opds_ok {tm : PT AVal} {a : Act} (ht : TR V μ tm a) (hg : GlOk gs μ) : ∀ {xs : List Operand} {ys : List AOpd}, cOpds gs xs = some ys → VRs V μ (evs tm ys) (xs.map a.eval)
  | [], ys, h => by simp only [cOpds] at h; cases h; exact VRs_nil
  | x :: xs, ys, h => by
    simp only [cOpds, Option.bind_eq_bind, Option.bind_eq_some_iff, Option.pure_def, Option.some.injEq] at h
    obtain ⟨y, hy, ys', hys, rfl⟩ := h
    exact VRs_cons (opd_ok ht hg hy) (opds_ok ht hg hys)
theorem opt_ok {tm : PT AVal} {a : Act} (ht : TR V μ tm a) (hg : GlOk gs μ) {x : Option Operand} {y : Option AOpd} (h : cOpt gs x = some y) : VRo V μ (optEv tm y) (x.map a.eval) := by
  cases x with
  | none => simp only [cOpt] at h; cases h; trivial
  | some x =>
    simp only [cOpt, Option.map_eq_some_iff] at h
    obtain ⟨c, hc, rfl⟩ := h
    exact opd_ok ht hg hc
def GoodN (V : Vn) (μ : Map) (h : Hp) (w : World) (r : Result Next) (v : AVal) (h' : Hp) : Prop :=
  ∃ v' w' μ', (r = .ok (.value v') w' ∨ (r = .ok .skip w' ∧ v' = undef)) ∧ VR V μ' v v' ∧ HR V μ' h' w' ∧ Ext μ h w μ' h' w'
theorem Good.next {h w} {s : Sem Value} {v h'} (k : Good V μ h w (s.run P w) v h') {r : Result Next} (hr : r = (s.run P w).andThen fun v w' => .ok (.value v) w') : GoodN V μ h w r v h' := by
  obtain ⟨v', w', μ', e, a, b, c⟩ := k
  rw [e] at hr
  exact ⟨v', w', μ', .inl hr, a, b, c⟩
theorem GoodN.skip {h w} {s : Sem Unit} {w' h'} (hs : s.run P w = .ok () w') (hr : HR V μ h' w') (he : Ext μ h w μ h' w') {r : Result Next} (e : r = (s.run P w).andThen fun _ w' => .ok .skip w') : GoodN V μ h w r .undef h' := by
  rw [hs] at e
  exact ⟨undef, w', μ, .inr ⟨e, rfl⟩, VR_undef, hr, he⟩
theorem run_v (s : Sem Value) (w : World) : (do pure (Next.value (← s)) : Sem Next).run P w = (s.run P w).andThen fun v w' => .ok (.value v) w' := by
  simp only [Sem.run_bind]; rfl
theorem run_u (s : Sem Unit) (w : World) : (do s; pure Next.skip : Sem Next).run P w = (s.run P w).andThen fun _ w' => .ok .skip w' := by
  simp only [Sem.run_bind]; rfl
end Go.Ev
namespace Go.Ev
open Go Go.RowKit
variable {V : Vn} {P : Program} {μ : Map} {gs : List Nat}
/-- A live block's frozen range turns, or nothing does. -/
theorem HR.touch {h w w' id a l} (k : HR V μ h w) (hg : h.t.get id = some a) (ha : a.ro = false) (hl : μ id = some l) (hb : BR V μ w' a l)
    (ho : ∀ i, i ≠ l.b → w'.heap[i]? = w.heap[i]?) (hs : w'.heap.size = w.heap.size) (hos : w'.os = w.os) (ht : w'.tape = w.tape) (hout : w'.output = w.output) :
    HR V μ h w' ∧ Ext μ h w μ h w' := by
  refine ⟨⟨?_, k.apart, k.fresh, fun i j e => hs ▸ k.inW i j e⟩, ⟨.refl _, by omega, ?_, hos, ht, hout, Nat.le_refl _, fun _ _ => rfl⟩⟩
  · intro i c hc
    by_cases hi : i = id
    · subst hi
      rw [hg] at hc; cases hc
      exact ⟨l, hl, hb⟩
    · obtain ⟨m, hm, r⟩ := k.blk i c hc
      exact ⟨m, hm, BR.world (ho _ (k.apart i id c a m l hc hg hm hl hi)) r⟩
  · intro i hi hw
    exact ⟨ho i (fun e => hw ⟨id, a, l, hg, ha, hl, e.symm⟩), hw⟩
theorem freeze_end {w : World} {b n : Nat} {c : Array Value} {e : TypeId} {lo hi : Nat} (h : w.heap[b]? = some (.cells c e (lo, hi))) (hn : n = c.size) (hf : lo = hi ∨ c.size ≤ lo) :
    ∃ lo' hi', (w.freeze ⟨b, n, none⟩ 1).heap[b]? = some (.cells c e (lo', hi')) ∧ (lo' = hi' ∨ c.size ≤ lo') ∧ (∀ i, i ≠ b → (w.freeze ⟨b, n, none⟩ 1).heap[i]? = w.heap[i]?) := by
  have e1 : (w.freeze ⟨b, n, none⟩ 1).heap[b]? = some (.cells c e (if lo == hi then (n, n + 1) else (min lo n, max hi (n + 1)))) := by
    simp [World.freeze, Array.getElem?_modify, h]
  have e2 : ∀ i, i ≠ b → (w.freeze ⟨b, n, none⟩ 1).heap[i]? = w.heap[i]? := by
    intro i hi
    simp only [World.freeze]
    rw [if_neg (by omega), Array.getElem?_modify, if_neg (Ne.symm hi)]
  by_cases hq : lo = hi
  · subst hq
    simp at e1
    exact ⟨n, n + 1, e1, .inr (by omega), e2⟩
  · have : (lo == hi) = false := by simpa using hq
    rw [this] at e1
    rcases hf with hf | hf
    · exact absurd hf hq
    · refine ⟨_, _, e1, .inr ?_, e2⟩
      simp only [Nat.le_min]
      omega
theorem range_rep (z : Array Value) : ∀ n, ((List.range (n * z.size)).map fun i => z[i % z.size]!) = (List.replicate n z.toList).flatten
  | 0 => by simp
  | n + 1 => by
    have e : (n + 1) * z.size = z.size + n * z.size := by rw [Nat.add_mul, Nat.one_mul, Nat.add_comm]
    rw [e, List.range_add, List.map_append, List.replicate_succ, List.flatten_cons, ← range_rep z n]
    congr 1
    · apply List.ext_getElem?
      intro i
      by_cases hi : i < z.size
      · simp [hi, Nat.mod_eq_of_lt hi]
      · simp [hi]
    · rw [List.map_map]
      apply List.map_congr_left
      intro i _
      simp
theorem rep_flat {zs : List AVal} {l : List Value} (h : VRs V μ zs l) : ∀ n, VRs V μ (rep zs n) (List.replicate n l).flatten
  | 0 => VRs_nil
  | n + 1 => by rw [rep, List.replicate_succ, List.flatten_cons]; exact VRs_append h (rep_flat h n)
theorem rep_ok {zs : List AVal} {z : Array Value} (h : VRs V μ zs z.toList) (n : Nat) : VRs V μ (rep zs n) ((Array.range (n * z.size)).map fun i => z[i % z.size]!).toList := by
  rw [Array.toList_map, Array.toList_range, range_rep]
  exact rep_flat h n
theorem rep_length (zs : List AVal) (n : Nat) : (rep zs n).length = n * zs.length := by
  induction n with
  | zero => simp [rep]
  | succ n ih => simp [rep, ih, Nat.add_mul, Nat.add_comm]
theorem run_mapM_list {α β : Type} (f : α → Sem β) (g : α → β) (w : World) : ∀ (l : List α), (∀ x ∈ l, (f x).run P w = .ok (g x) w) → (l.mapM f).run P w = .ok (l.map g) w
  | [], _ => by simp
  | x :: l, h => by
    rw [List.mapM_cons]
    simp [h x (by simp), run_mapM_list f g w l (fun y hy => h y (by simp [hy]))]
theorem run_mapM_array {α β : Type} (f : α → Sem β) (g : α → β) (w : World) (l : Array α) (h : ∀ x ∈ l, (f x).run P w = .ok (g x) w) : (l.mapM f).run P w = .ok (l.map g) w := by
  rw [Array.mapM_eq_mapM_toList, Sem.run_map, run_mapM_list f g w l.toList (fun x hx => h x (by simpa using hx))]
  simp only [Result.andThen_ok]
  congr 1
  apply Array.ext'
  simp
/-- parts of a literal -/
theorem parts_ok {tm : PT AVal} {a : Act} (ht : TR V μ tm a) (hg : GlOk gs μ) (f : Nat → Option (Nat × Nat)) : ∀ {ps : List (Nat × Operand)} {qs : List (Nat × Nat × AOpd)}, cParts gs f ps = some qs →
    qs.length = ps.length ∧ ∀ (j : Nat) (o s : Nat) (x : AVal) (i : Nat) (v : Value), (qs.map fun (o, s, x) => (o, s, x.ev tm))[j]? = some (o, s, x) → (ps.map fun (i, x) => (i, a.eval x))[j]? = some (i, v) → f i = some (o, s) ∧ VR V μ x v
  | [], qs, h => by simp only [cParts] at h; cases h; exact ⟨rfl, fun j o s x i v hj => by simp at hj⟩
  | (i0, x0) :: ps, qs, h => by
    simp only [cParts, Option.bind_eq_bind, Option.bind_eq_some_iff, Option.pure_def, Option.some.injEq] at h
    obtain ⟨⟨o0, s0⟩, hf, h⟩ := h
    simp only [Option.bind_eq_some_iff] at h
    obtain ⟨y, hy, qs', hqs, h⟩ := h
    cases h
    obtain ⟨hl, ih⟩ := parts_ok ht hg f hqs
    refine ⟨by simp [hl], fun j o s x i v hj hk => ?_⟩
    cases j with
    | zero =>
      simp at hj hk
      obtain ⟨rfl, rfl, rfl⟩ := hj
      obtain ⟨rfl, rfl⟩ := hk
      exact ⟨hf, opd_ok ht hg hy⟩
    | succ j => exact ih j o s x i v (by simpa using hj) (by simpa using hk)
theorem partsI_ok {tm : PT AVal} {a : Act} (ht : TR V μ tm a) (hg : GlOk gs μ) (sz : Nat) : ∀ {ps : List (Nat × Operand)} {qs : List (Nat × AOpd)}, cPartsI gs sz ps = some qs →
    qs.length = ps.length ∧ ∀ (j : Nat) (o s : Nat) (x : AVal) (i : Nat) (v : Value), (qs.map fun (o, x) => (o, sz, x.ev tm))[j]? = some (o, s, x) → (ps.map fun (i, x) => (i, a.eval x))[j]? = some (i, v) → (some (i * sz, sz) : Option (Nat × Nat)) = some (o, s) ∧ VR V μ x v
  | [], qs, h => by simp only [cPartsI] at h; cases h; exact ⟨rfl, fun j o s x i v hj => by simp at hj⟩
  | (i0, x0) :: ps, qs, h => by
    simp only [cPartsI, Option.bind_eq_bind, Option.bind_eq_some_iff, Option.pure_def, Option.some.injEq] at h
    obtain ⟨y, hy, qs', hqs, h⟩ := h
    cases h
    obtain ⟨hl, ih⟩ := partsI_ok ht hg sz hqs
    refine ⟨by simp [hl], fun j o s x i v hj hk => ?_⟩
    cases j with
    | zero =>
      simp at hj hk
      obtain ⟨rfl, rfl, rfl⟩ := hj
      obtain ⟨rfl, rfl⟩ := hk
      exact ⟨rfl, opd_ok ht hg hy⟩
    | succ j => exact ih j o s x i v (by simpa using hj) (by simpa using hk)
end Go.Ev
namespace Go.Ev
open Go Go.RowKit
variable {V : Vn} {P : Program} {μ : Map} {gs : List Nat}
theorem VR_str {s : List UInt8} {v : Value} : VR V μ (.str s) v ↔ ∃ b : ByteArray, v = .string b ∧ b.data.toList = s := by rw [VR]
theorem VR_agg {cs : List AVal} {v : Value} : VR V μ (.agg cs) v ↔ ∃ a, v = .agg a ∧ VRs V μ cs a.toList := by rw [VR]
theorem good_build {h w} (k : HR V μ h w) {tm : PT AVal} {a : Act} (ht : TR V μ tm a) (hg : GlOk gs μ) {t : TypeId} {parts : Array (Nat × Operand)} {op : AOp} {B : Bnds}
    (hc : (match P.underlying t with
    | some (.struct fs) => if !fs.all (fun f => (P.info? f.type).isSome) then none else do
      let ps ← cParts gs (fun i => (fs[i]?).bind fun f => (P.info? f.type).map fun j => (f.offset, j.size)) parts.toList
      pure (AOp.build (← cZero P t).cells ps)
    | some (.array _ e) => do
      let s := (← P.info? e).size
      pure (.build (← cZero P t).cells (← cParts gs (fun i => some (i * s, s)) parts.toList))
    | _ => none) = some op) {v h'} (he : evOp B op tm h = some (v, h')) : Good V μ h w ((Instr.build t (parts.map fun (i, x) => (i, a.eval x))).run P w) v h' := by
  split at hc
  · rename_i fs hu
    split at hc
    · simp at hc
    · rename_i hall
      simp only [Option.bind_eq_bind, Option.bind_eq_some_iff, Option.pure_def, Option.some.injEq] at hc
      obtain ⟨ps, hps, z, hz, rfl⟩ := hc
      simp only [evOp, Option.map_eq_some_iff] at he
      obtain ⟨cs, hcs, he⟩ := he
      cases he
      obtain ⟨i, zv, hi, hzv, hzc⟩ := cZero_spec hz
      obtain ⟨hl, hp⟩ := parts_ok ht hg _ hps
      have hall1 : fs.all (fun f => (P.info? f.type).isSome) = true := by
        rcases hb : fs.all (fun f => (P.info? f.type).isSome) with _ | _
        · rw [hb] at hall; simp at hall
        · rfl
      have hall' : ∀ f ∈ fs, (P.info? f.type).isSome = true := Array.all_eq_true_iff_forall_mem.1 hall1
      have hm := run_mapM_array (P := P) (fun f : Field => (do pure (f.offset, ← sizeOf f.type) : Sem (Nat × Nat))) (fun f => (f.offset, ((P.info? f.type).map (·.size)).getD 0)) w fs (fun f hf => by
        obtain ⟨j, hj⟩ := Option.isSome_iff_exists.1 (hall' f hf)
        simp [run_sizeOf' hj, hj])
      obtain ⟨c', hc1, hc2, hc3⟩ := fill_ok (V := V) (μ := μ) (fun i => (fs.map fun f => (f.offset, ((P.info? f.type).map (·.size)).getD 0))[i]?) ((parts.map fun (i, x) => (i, a.eval x)).toList) _ z.cells cs zv.cells (VR_cells (VR_ofConst hzc)) hcs (by simp [hl]) (by
        intro j o s x i v hj hk
        have := hp j o s x i v hj (by simpa using hk)
        refine ⟨?_, this.2⟩
        have h1 := this.1
        simp only [Option.bind_eq_some_iff, Option.map_eq_some_iff] at h1
        obtain ⟨f, hf, jj, hjj, hh⟩ := h1
        cases hh
        simp [hf, hjj])
      refine Good.pure k (v' := .agg c') ?_ (VR_agg.2 ⟨_, rfl, hc2⟩)
      simp only [Instr.build, Sem.run_bind, run_zeroValue' hi hzv, run_underlying hu, Result.andThen_ok, hm, hc1]
      rfl
  · rename_i n e hu
    simp only [Option.bind_eq_bind, Option.bind_eq_some_iff, Option.pure_def, Option.some.injEq] at hc
    obtain ⟨j, hj, z, hz, ps, hps, rfl⟩ := hc
    simp only [evOp, Option.map_eq_some_iff] at he
    obtain ⟨cs, hcs, he⟩ := he
    cases he
    obtain ⟨i, zv, hi, hzv, hzc⟩ := cZero_spec hz
    obtain ⟨hl, hp⟩ := parts_ok ht hg _ hps
    obtain ⟨c', hc1, hc2, hc3⟩ := fill_ok (V := V) (μ := μ) (fun i => some (i * j.size, j.size)) ((parts.map fun (i, x) => (i, a.eval x)).toList) _ z.cells cs zv.cells (VR_cells (VR_ofConst hzc)) hcs (by simp [hl]) (by
        intro jj o s x i v hj hk
        exact hp jj o s x i v hj (by simpa using hk))
    refine Good.pure k (v' := .agg c') ?_ (VR_agg.2 ⟨_, rfl, hc2⟩)
    simp only [Instr.build, Sem.run_bind, run_zeroValue' hi hzv, run_underlying hu, Result.andThen_ok, run_sizeOf' hj, hc1]
    rfl
  · simp at hc
theorem zcells_size {z : AVal} {zv : Value} (h : ofConst zv = some z) : z.cells.length = zv.cells.size := by
  have := (VR_cells (V := ⟨fun _ => 0, fun _ => undef⟩) (μ := fun _ => none) (VR_ofConst h)).length
  rw [this]; exact Array.length_toList
theorem good_buildSlice {h w} (k : HR V μ h w) {tm : PT AVal} {a : Act} (ht : TR V μ tm a) (hg : GlOk gs μ) {t : TypeId} {len : Nat} {parts : Array (Nat × Operand)} {op : AOp} {B : Bnds}
    (hc : (match P.underlying t with
    | some (.slice e) => do
      let s := (← P.info? e).size
      let z ← cZero P e
      if s = 0 ∨ len * s > 2 ^ 20 ∨ z.cells.length ≠ s then none else
      pure (AOp.buildSlice (rep z.cells len) s len (← cPartsI gs s parts.toList))
    | _ => none) = some op) {v h'} (he : evOp B op tm h = some (v, h')) : Good V μ h w ((Instr.buildSlice t len (parts.map fun (i, x) => (i, a.eval x))).run P w) v h' := by
  split at hc
  · rename_i e hu
    simp only [Option.bind_eq_bind, Option.bind_eq_some_iff] at hc
    obtain ⟨j, hj, z, hz, hc⟩ := hc
    split at hc
    · simp at hc
    · rename_i hsz
      simp only [Option.bind_eq_some_iff, Option.pure_def, Option.some.injEq] at hc
      obtain ⟨ps, hps, rfl⟩ := hc
      simp only [evOp] at he
      split at he
      · rename_i cs hcs
        cases he
        obtain ⟨i, zv, hi, hzv, hzc⟩ := cZero_spec hz
        rw [hj] at hi; cases hi
        have hzl := zcells_size hzc
        have hs0 : j.size ≠ 0 := fun h => hsz (.inl h)
        have hs1 : ¬ len * j.size > 2 ^ 20 := fun h => hsz (.inr (.inl h))
        have hs2 : z.cells.length = j.size := Classical.byContradiction fun h => hsz (.inr (.inr h))
        have hzs : zv.cells.size = j.size := by omega
        obtain ⟨hl, hp⟩ := partsI_ok ht hg _ hps
        have hrep := rep_ok (V := V) (μ := μ) (VR_cells (VR_ofConst hzc)) len
        rw [hzs] at hrep
        obtain ⟨c', hc1, hc2, hc3⟩ := fill_ok (V := V) (μ := μ) (fun i => some (i * j.size, j.size)) ((parts.map fun (i, x) => (i, a.eval x)).toList) _ _ cs _ hrep hcs (by simp [hl]) (by
          intro jj o s x i v hj hk
          exact hp jj o s x i v hj (by simpa using hk))
        obtain ⟨g1, g2⟩ := k.allocCells (c := c') e (VRs_take_self hc2)
        have hne : ¬ len * j.size > 2 ^ 24 := by omega
        refine ⟨.slice (some ⟨w.heap.size, 0, none⟩) len len, _, _, ?_, VR_slice_mk (rc := len) (cap := some len) (Map.add_same _ _ _) (fun c hc => by cases hc; exact ⟨rfl, rfl⟩) (fun hc => by cases hc), g1, g2⟩
        by_cases h0 : len * j.size = 0
        · have hlen : len = 0 := by
            rcases Nat.mul_eq_zero.1 h0 with h | h
            · exact h
            · exact absurd h hs0
          subst hlen
          rw [Nat.zero_mul] at hc1
          have e0 : ((Array.range 0).map fun i => zv.cells[i % j.size]!) = #[] := by simp
          rw [e0] at hc1
          have e1 : ∀ z' : Array Value, ((Array.range (0 * j.size)).map fun i => z'[i % z'.size]!) = #[] := fun z' => by rw [Nat.zero_mul]; simp
          have e2 : ¬ (0 * j.size > 2 ^ 24) := by omega
          simp only [Instr.buildSlice, Sem.run_bind, run_underlying hu, run_sizeOf' hj, Result.andThen_ok]
          rw [if_neg e2]
          simp only [Nat.zero_mul, if_true, Sem.run_bind, Sem.run_pure, Result.andThen_ok]
          rw [show ((Array.range 0).map fun i => (#[] : Array Value)[i % (#[] : Array Value).size]!) = #[] from by simp, hc1]
          simp [newRow]
        · simp only [Instr.buildSlice, Sem.run_bind, run_underlying hu, run_sizeOf' hj, Result.andThen_ok]
          simp only [hne, h0, if_false, Sem.run_bind, run_zeroValue' hj hzv, Result.andThen_ok, Sem.run_pure, hzs, hc1]
          simp [newRow]
      · simp at he
  · simp at hc
end Go.Ev
namespace Go.Ev
open Go Go.RowKit
variable {V : Vn} {P : Program} {μ : Map} {gs : List Nat}
theorem wrap_i64' (n : Int) (h0 : 0 ≤ n) (h : n ≤ 2 ^ 40) : IntKind.i64.wrap n = n := wrap_in _ _ (by simp [IntKind.min, IntKind.max, IntKind.signed, IntKind.bits]; omega)
theorem good_makeSlice {h w} (k : HR V μ h w) {t e : TypeId} {i : TypeInfo} {z : AVal} (hu : P.underlying t = some (.slice e)) (hi : P.info? e = some i) (hz : cZero P e = some z) (hs : i.size ≠ 0) (hzl : z.cells.length = i.size) {kl kc : IntKind} {l c : Int} (hb : 0 ≤ l ∧ l ≤ c ∧ i.bytes * c ≤ 2 ^ 40 ∧ c ≤ 2 ^ 40) :
    Good V μ h w ((Instr.makeSlice t (.int kl l) (.int kc c)).run P w) (.slice (h.alloc (.cells (rep z.cells c.toNat) false)).1 0 l.toNat (some c.toNat) i.size) (h.alloc (.cells (rep z.cells c.toNat) false)).2 := by
  obtain ⟨b1, b2, b3, b4⟩ := hb
  obtain ⟨i', zv, hi', hzv, hzc⟩ := cZero_spec hz
  rw [hi] at hi'; cases hi'
  have hzs : zv.cells.size = i.size := by rw [← hzl, zcells_size hzc]
  have hrep := rep_ok (V := V) (μ := μ) (VR_cells (VR_ofConst hzc)) c.toNat
  rw [hzs] at hrep
  obtain ⟨g1, g2⟩ := k.allocCells (c := (Array.range (c.toNat * i.size)).map fun j => zv.cells[j % i.size]!) e (VRs_take_self hrep)
  have w1 := wrap_i64' l b1 (by omega)
  have w2 := wrap_i64' c (by omega) b4
  refine ⟨.slice (some ⟨w.heap.size, 0, none⟩) l.toNat c.toNat, _, _, ?_, VR_slice_mk (rc := c.toNat) (cap := some c.toNat) (Map.add_same _ _ _) (fun c hc => by cases hc; exact ⟨rfl, rfl⟩) (fun hc => by cases hc), g1, g2⟩
  have hbb : ¬ (281474976710656 : Int) < i.bytes * c := by omega
  have hc0 : ¬ c < 0 := by omega
  have hl0 : ¬ l < 0 := by omega
  have hlc : ¬ c < l := by omega
  by_cases h0 : c.toNat * i.size = 0
  · have hc : c = 0 := by
      rcases Nat.mul_eq_zero.1 h0 with h | h
      · omega
      · exact absurd h hs
    subst hc
    have hl : l = 0 := by omega
    subst hl
    simp [Instr.makeSlice, run_underlying hu, asInt, asIntOf, run_typeInfo' hi, run_sizeOf' hi, w1, askRoom, newRow]
    have er : ∀ f : Nat → Value, (Array.range 0).map f = #[] := fun f => by simp
    rw [er, er]
  · simp [Instr.makeSlice, run_underlying hu, asInt, asIntOf, run_typeInfo' hi, run_sizeOf' hi, w1, w2, hbb, hc0, hl0, hlc, askRoom, newRow, run_zeroValue' hi hzv, h0, hzs, hs]
theorem cut_ge (n old : Nat) (e : TypeId) (t : Nat) : n ≤ Question.cut (.appendCap n old e) t := by
  simp only [Question.cut]
  exact Nat.le_add_right _ _
theorem toBytes_aux {h w} (k : HR V μ h w) {e : TypeId} (b : ByteArray) (nc : Nat) (hle : b.size ≤ nc) (W : World) (hW : W = w.drew.alloc (.cells ((b.data.map fun x => Value.int .u8 x.toNat) ++ Array.replicate (nc - b.size) (.int .u8 0)) e)) :
    ∃ w' μ', w' = W.freeze ⟨w.heap.size, nc, none⟩ 1 ∧ W.shape? w.heap.size = some (e, nc) ∧ VR V μ' (.slice (h.alloc (.cells (ofBytes b.data.toList) false)).1 0 b.data.toList.length none 1) (.slice (some ⟨w.heap.size, 0, none⟩) b.data.toList.length nc) ∧
      HR V μ' (h.alloc (.cells (ofBytes b.data.toList) false)).2 w' ∧ Ext μ h w μ' (h.alloc (.cells (ofBytes b.data.toList) false)).2 w' := by
  have es : b.size = b.data.toList.length := by rw [Array.length_toList]; rfl
  have hcells : (b.data.map fun x => Value.int .u8 x.toNat).toList = b.data.toList.map fun x => Value.int .u8 x.toNat := by rw [Array.toList_map]
  have hv : VRs V μ (ofBytes b.data.toList) (b.data.map fun x => Value.int .u8 x.toNat).toList := by rw [hcells]; exact VRs_ofBytes _
  have hsz : ((b.data.map fun x => Value.int .u8 x.toNat) ++ Array.replicate (nc - b.size) (Value.int .u8 0)).size = nc := by
    rw [Array.size_append, Array.size_map, Array.size_replicate]
    have : b.data.size = b.size := rfl
    omega
  have hh : ((b.data.map fun x => Value.int .u8 x.toNat) ++ Array.replicate (nc - b.size) (Value.int .u8 0)).toList.take (ofBytes b.data.toList).length = (b.data.map fun x => Value.int .u8 x.toNat).toList := by
    have hl : (ofBytes b.data.toList).length = (b.data.map fun x => Value.int .u8 x.toNat).toList.length := hv.length
    rw [Array.toList_append, hl, List.take_append_of_le_length (Nat.le_refl _), List.take_length]
  generalize hA : (b.data.map fun x => Value.int .u8 x.toNat) ++ Array.replicate (nc - b.size) (Value.int .u8 0) = A at *
  obtain ⟨g1, g2⟩ := k.drew.allocCells (c := A) e (by rw [hh]; exact hv)
  have hg : (h.alloc (.cells (ofBytes b.data.toList) false)).2.t.get h.nx = some (.cells (ofBytes b.data.toList) false) := PT.get_set _ _ _
  have hl := Map.add_same μ h.nx ⟨w.heap.size, 0, A.size⟩
  have hw : W.heap[w.heap.size]? = some (.cells A e (0, 0)) := by
    rw [hW]; show (w.heap.push _)[w.heap.size]? = _; simp
  obtain ⟨lo', hi', f1, f2, f3⟩ := freeze_end (n := nc) hw hsz.symm (.inl rfl)
  obtain ⟨l', c, t, lo, hi, hl', hw', hcs, hsl, hvs, hfz⟩ := g1.cells hg
  have hl'' := hl
  have e1 : (μ.add h.nx ⟨w.drew.heap.size, 0, A.size⟩) h.nx = some l' := hl'
  have e2 : l' = ⟨w.heap.size, 0, A.size⟩ := by rw [Map.add_same] at e1; exact (Option.some.inj e1).symm
  subst e2
  have hcA : c = A := by
    have h1 : W.heap[w.heap.size]? = some (.cells c t (lo, hi)) := by rw [hW]; exact hw'
    rw [hw] at h1
    simp only [Option.some.injEq, Obj.cells.injEq] at h1
    exact h1.1.symm
  subst hcA
  have hsize : (W.freeze ⟨w.heap.size, nc, none⟩ 1).heap.size = (w.drew.alloc (.cells c e)).heap.size := by rw [hW]; simp [World.freeze]
  obtain ⟨t1, t2⟩ := g1.touch hg rfl hl' (w' := W.freeze ⟨w.heap.size, nc, none⟩ 1) ⟨c, e, lo', hi', f1, hcs, hsl, hvs, fun _ => f2⟩ (by rw [← hW]; exact f3) hsize (by rw [hW]; simp [World.freeze]) (by rw [hW]; simp [World.freeze]) (by rw [hW]; simp [World.freeze])
  refine ⟨_, _, rfl, ?_, ?_, t1, (Ext.drew _ _ _).trans (g2.trans t2)⟩
  · simp only [World.shape?, hw, hsz]
  · have := VR_slice_mk (V := V) (sz := 1) (off := 0) (len := b.data.toList.length) (cap := none) (rc := nc) (o := 0) (l := ⟨w.heap.size, 0, c.size⟩) hl (fun c hc => by cases hc) (fun _ => .inl ⟨by omega, rfl, by simp [hsz]⟩)
    exact this
theorem good_toBytes {h w} (k : HR V μ h w) {e : TypeId} (b : ByteArray) :
    Good V μ h w ((Conv.stringToBytes e b).run P w) (.slice (h.alloc (.cells (ofBytes b.data.toList) false)).1 0 b.data.toList.length none 1) (h.alloc (.cells (ofBytes b.data.toList) false)).2 := by
  have es : b.size = b.data.toList.length := by rw [Array.length_toList]; rfl
  have hf : (Question.appendCap b.size 0 e).forced = false := rfl
  have hle := cut_ge b.size 0 e (w.tape w.drawn (.appendCap b.size 0 e))
  generalize hnc : Question.cut (.appendCap b.size 0 e) (w.tape w.drawn (.appendCap b.size 0 e)) = nc at hle
  obtain ⟨w', μ', rfl, h1, h2, h3, h4⟩ := toBytes_aux k (e := e) b nc hle _ rfl
  refine ⟨_, _, μ', ?_, h2, h3, h4⟩
  simp only [Conv.stringToBytes, Sem.run_bind, run_choose_drew, hf, Bool.false_eq_true, if_false, Result.andThen_ok, hnc, newRow, run_newObj_alloc, Sem.run_pure, markStringish, run_shape]
  have hds : w.drew.heap.size = w.heap.size := rfl
  simp only [hds, h1, ← es]
  rfl
theorem bytesOf_spec : ∀ {cs : List AVal} {l : List UInt8} {us : List Value}, bytesOf cs = some l → VRs V μ cs us → ∃ ns : List Int, us = ns.map (Value.int .u8) ∧ l = ns.map fun n => UInt8.ofNat n.toNat
  | [], l, us, h, hv => by
    simp only [bytesOf] at h; cases h
    rw [VRs] at hv; subst hv
    exact ⟨[], rfl, rfl⟩
  | x :: cs, l, us, h, hv => by
    rw [VRs] at hv
    obtain ⟨v, vs, rfl, hx, hv⟩ := hv
    unfold bytesOf at h
    split at h
    · rename_i e; cases e
    · rename_i n r e
      cases e
      simp only [Option.map_eq_some_iff] at h
      obtain ⟨l', h, rfl⟩ := h
      rw [VR] at hx; subst hx
      obtain ⟨ns, rfl, rfl⟩ := bytesOf_spec h hv
      exact ⟨n :: ns, rfl, rfl⟩
    · simp at h
theorem foldl_push (ns : List Int) : ∀ b : ByteArray, (ns.foldl (fun (r : ByteArray) n => r.push (UInt8.ofNat n.toNat)) b).data.toList = b.data.toList ++ ns.map fun n => UInt8.ofNat n.toNat := by
  induction ns with
  | nil => intro b; simp
  | cons n ns ih => intro b; rw [List.foldl_cons, ih]; simp [ByteArray.data_push]
theorem good_toStr {h w} (k : HR V μ h w) {x : AVal} {xv : Value} (hx : VR V μ x xv) {r : AVal}
    (e : toStrA h x = some r) : Good V μ h w ((Conv.bytesToString xv).run P w) r h := by
  unfold toStrA at e
  cases x with
  | nilslice =>
    simp only at e; cases e
    rw [VR] at hx; subst hx
    exact Good.pure k (v' := .string .empty) rfl (VR_str.2 ⟨_, rfl, rfl⟩)
  | slice id off len cap sz =>
    simp only at e
    split at e
    · rename_i cs hcs
      simp only [Option.map_eq_some_iff] at e
      obtain ⟨b, hb, rfl⟩ := e
      obtain ⟨l, rc, o, hl, rfl, ha, hbb⟩ := VR_slice hx
      obtain ⟨l', us, hl', hu, hlen, hc⟩ := k.load hcs
      rw [hl] at hl'; cases hl'
      obtain ⟨ns, rfl, rfl⟩ := bytesOf_spec hb hu
      have hlp := load_prefix (P := P) hc (o := o) (n := (ns.map (Value.int .u8)).length) (fun h0 => by
        cases cap with
        | some c => exact (ha c rfl).2
        | none =>
          rcases hbb rfl with hbb | hbb
          · exact hbb.2.1
          · rw [hlen, hbb.1] at h0; simp at h0) (Nat.le_refl _)
      rw [List.take_length, hlen] at hlp
      refine Good.pure k (run_bytesToString w _ len rc ns hlp) (VR_str.2 ⟨_, rfl, ?_⟩)
      rw [foldl_push]; rfl
    · simp at e
  | _ => simp at e
theorem run_unary {op : UnOp} {x r : AVal} {xv : Value} (h : unA op x = some r) (hx : VR V μ x xv) (w : World) : ∃ v', (Op.unary op xv).run P w = .ok v' w ∧ VR V μ r v' := by
  cases op <;> cases x <;> simp only [unA] at h <;> first | (simp at h; done) | skip
  · cases h; rw [VR] at hx; subst hx; exact ⟨_, by simp only [Op.unary, Op.intArith]; rfl, by rw [VR]⟩
  · rw [VR] at hx; subst hx
    simp only [binInt] at h
    cases h
    exact ⟨_, by simp only [Op.unary, Op.intBits]; rfl, by rw [VR]⟩
  · cases h; rw [VR] at hx; subst hx; exact ⟨_, by simp only [Op.unary]; rfl, by rw [VR]⟩
theorem run_minmax (mx : Bool) (k : IntKind) (w : World) : ∀ (xs : List AVal) (vs : List Value) (a : Int) (r : AVal), evOp.mm k mx a xs = some r → VRs V μ xs vs →
    ∃ v', (vs.foldlM (if mx then Builtin.max2 else Builtin.min2) (.int k a)).run P w = .ok v' w ∧ VR V μ r v'
  | [], vs, a, r, h, hv => by
    rw [VRs] at hv; subst hv
    simp only [evOp.mm] at h; cases h
    exact ⟨.int k a, by simp, by rw [VR]⟩
  | x :: xs, vs, a, r, h, hv => by
    rw [VRs] at hv
    obtain ⟨v, vs', rfl, hx, hv⟩ := hv
    cases x <;> simp only [evOp.mm] at h <;> first | (simp at h; done) | skip
    rename_i j b
    split at h
    · rename_i hj
      subst hj
      rw [VR] at hx; subst hx
      obtain ⟨v', h1, h2⟩ := run_minmax mx j w xs vs' _ r h hv
      refine ⟨v', ?_, h2⟩
      rw [List.foldlM_cons, Sem.run_bind]
      cases mx
      · simp only [Bool.false_eq_true, if_false] at h1 ⊢
        simp only [Builtin.min2, Sem.run_pure, Result.andThen_ok]; exact h1
      · simp only [if_true] at h1 ⊢
        simp only [Builtin.max2, Sem.run_pure, Result.andThen_ok]; exact h1
    · simp at h
theorem run_sliceStr {t : TypeId} (hu : P.underlying t = some .string) (b : ByteArray) {lo hi : Option AVal} {lo' hi' : Option Value} (h1 : VRo V μ lo lo') (h2 : VRo V μ hi hi') {l tt m : Nat} (h : bounds b.data.toList.length b.data.toList.length lo hi none = some (l, tt, m)) (w : World) :
    ∃ v', (Instr.sliceAt t (.string b) lo' hi' none).run P w = .ok v' w ∧ VR V μ (.str ((b.data.toList.take tt).drop l)) v' := by
  have e : b.size = b.data.toList.length := by rw [Array.length_toList]; rfl
  obtain ⟨e1, e2, e3, e4⟩ := bounds_spec (P := P) h h1 h2 (mx' := none) trivial false w (Nat.le_refl _)
  refine ⟨.string (b.extract l tt), ?_, VR_str.2 ⟨_, rfl, ?_⟩⟩
  · rw [← e] at e1
    simp only [Instr.sliceAt, Instr.slice, Sem.run_bind, run_underlying hu, Result.andThen_ok, Option.isSome_none, Bool.false_eq_true, if_false, e1]
    rfl
  · rw [ByteArray.data_extract, Array.toList_extract, List.extract_eq_take_drop, List.drop_take]
theorem run_sliceArr {t e : TypeId} {n : Nat} {j : TypeInfo} (hu : P.underlying t = some (.array n e) ∨ ∃ a, P.underlying t = some (.pointer a) ∧ P.underlying a = some (.array n e)) (hj : P.info? e = some j) {id off} {lo hi mx : Option AVal} {lo' hi' mx' : Option Value} {xv : Value} (hx : VR V μ (.ptr id off) xv)
    (h1 : VRo V μ lo lo') (h2 : VRo V μ hi hi') (h3 : VRo V μ mx mx') {l tt m : Nat} (h : bounds n n lo hi mx = some (l, tt, m)) (w : World) :
    ∃ v', (Instr.sliceAt t xv lo' hi' mx').run P w = .ok v' w ∧ VR V μ (.slice id (if m = l then off else off + l * j.size) (tt - l) (some (m - l)) j.size) v' := by
  obtain ⟨lc, hl, rfl⟩ := VR_ptr.1 hx
  obtain ⟨e1, e2, e3, e4⟩ := bounds_spec (P := P) h h1 h2 h3 false w (Nat.le_refl _)
  refine ⟨.slice (some ⟨lc.b, if m = l then lc.s + off else lc.s + off + l * j.size, none⟩) (tt - l) (m - l), ?_, VR_slice_mk hl (fun c hc => ?_) (fun hc => by cases hc)⟩
  · rcases hu with hu | ⟨a, hu, hu2⟩
    · simp only [Instr.sliceAt, Sem.run_bind, run_underlying hu, Result.andThen_ok, Instr.sureAddr, Sem.run_pure, e1, run_sizeOf' hj]
      by_cases hm : m = l <;> simp [hm, add_none]
    · simp only [Instr.sliceAt, Instr.slice, Sem.run_bind, run_underlying hu, run_underlying hu2, Result.andThen_ok, asAddr, Sem.run_pure, e1, run_sizeOf' hj]
      by_cases hm : m = l <;> simp [hm, add_none]
  · cases hc
    refine ⟨rfl, ?_⟩
    by_cases hm : m = l <;> simp [hm, Nat.add_assoc]
end Go.Ev
namespace Go.Ev
open Go Go.RowKit
variable {V : Vn} {P : Program} {μ : Map} {gs : List Nat}
theorem GoodN.pure {h w} (k : HR V μ h w) {v : AVal} {v' : Value} (hv : VR V μ v v') {r : Result Next} (e : r = .ok (.value v') w) : GoodN V μ h w r v h :=
  ⟨v', w, μ, .inl e, hv, k, .refl _ _ _⟩
theorem VRs_args {l : List Value} {a b : AVal} (h : VRs V μ [a, b] l) : ∃ x y, l = [x, y] ∧ VR V μ a x ∧ VR V μ b y := by
  rw [VRs] at h; obtain ⟨x, xs, rfl, hx, h⟩ := h
  rw [VRs] at h; obtain ⟨y, ys, rfl, hy, h⟩ := h
  rw [VRs] at h; subst h
  exact ⟨x, y, rfl, hx, hy⟩
theorem toList_two {α} {a : Array α} {x y : α} (h : a.toList = [x, y]) : a = #[x, y] := Array.ext' (by simpa using h)
theorem toList_one {α} {a : Array α} {x : α} (h : a.toList = [x]) : a = #[x] := Array.ext' (by simpa using h)
theorem toList_cons {α} {a : Array α} {x : α} {r : List α} (h : a.toList = x :: r) : a = (x :: r).toArray := Array.ext' (by simpa using h)
theorem kind_int {t : TypeId} {k : IntKind} (h : P.underlying t = some (.int k)) : KindOf .i (.int k) := .inl ⟨rfl, k, rfl⟩
theorem kind_str : KindOf .s .string := .inr ⟨rfl, rfl⟩
section
variable {B : Bnds} (hB : BOk V B) {tm : PT AVal} {a : Act} (ht : TR V μ tm a) (hg : GlOk gs μ) {h : Hp} {w : World} (k : HR V μ h w) {v : AVal} {h' : Hp}
include hB ht hg k
theorem ok_bin {op : BinOp} {xt : TypeId} {ox oy : Operand} {x y : AOpd} {A : AOp} (hx : cOpd gs ox = some x) (hy : cOpd gs oy = some y) (hc : cBin P op xt x y = some A) (he : evOp B A tm h = some (v, h')) :
    GoodN V μ h w ((do eqGuard op xt ox oy (a.eval ox) (a.eval oy); binOp op xt (a.eval ox) (a.eval oy) : Sem Value).run P w |>.andThen fun v w' => .ok (.value v) w') v h' := by
  have vx := opd_ok ht hg hx
  have vy := opd_ok ht hg hy
  have hbin : ∀ r, binA B op (x.ev tm) (y.ev tm) = some r → ∃ v', ((do eqGuard op xt ox oy (a.eval ox) (a.eval oy); binOp op xt (a.eval ox) (a.eval oy) : Sem Value).run P w) = .ok v' w ∧ VR V μ r v' := by
    intro r hr
    generalize x.ev tm = X at vx hr
    generalize y.ev tm = Y at vy hr
    unfold binA at hr
    split at hr
    · rename_i k1 n1 k2 n2
      have e1 := VR_int.1 vx
      have e2 := VR_int.1 vy
      rw [e1, e2]
      obtain ⟨v', q1, q2⟩ := run_binInt (P := P) op xt B k1 k2 n1 n2 r (by unfold binA; exact hr) μ w (V := V)
      exact ⟨v', by rw [Sem.run_bind, run_eqGuard_int, Result.andThen_ok, q1], q2⟩
    · rename_i s1 s2
      obtain ⟨b1, e1, rfl⟩ := VR_str.1 vx
      obtain ⟨b2, e2, rfl⟩ := VR_str.1 vy
      rw [e1, e2]
      obtain ⟨v', q1, q2⟩ := run_binStr (P := P) op xt B b1 b2 r (by unfold binA; exact hr) μ w (V := V)
      exact ⟨v', by rw [Sem.run_bind, run_eqGuard_str, Result.andThen_ok, q1], q2⟩
    · rename_i X Y _ _
      obtain ⟨v', q1, q2⟩ := run_binS (P := P) hB op xt hr vx vy w
      refine ⟨v', ?_, q2⟩
      unfold binS at hr
      split at hr
      · rename_i k1 a1 b1 k2 a2 b2 h1 h2
        obtain ⟨n1, e1, _⟩ := iv_spec hB h1 vx
        obtain ⟨n2, e2, _⟩ := iv_spec hB h2 vy
        rw [e1, e2] at q1 ⊢
        rw [Sem.run_bind, run_eqGuard_int, Result.andThen_ok, q1]
      · simp at hr
  have heq : ∀ (neg : Bool) (K : EqK) (b : Bool), cEqK P xt = some K → eqA K (x.ev tm) (y.ev tm) = some b → op = (if neg then .neq else .eql) →
      ((do eqGuard op xt ox oy (a.eval ox) (a.eval oy); binOp op xt (a.eval ox) (a.eval oy) : Sem Value).run P w) = .ok (.bool (b != neg)) w := by
    intro neg K b hK hb hop
    have hq := run_equal (P := P) hK hb vx vy w
    generalize hX : x.ev tm = X at vx hb
    generalize hY : y.ev tm = Y at vy hb
    have hgd : (eqGuard op xt ox oy (a.eval ox) (a.eval oy)).run P w = .ok () w := by
      cases K with
      | agg offs =>
        cases X <;> cases Y <;> simp only [eqA] at hb <;> first | (simp at hb; done) | skip
        obtain ⟨A1, e1, _⟩ := VR_agg.1 vx
        obtain ⟨A2, e2, _⟩ := VR_agg.1 vy
        rw [e1, e2]
        have hgt : P.eqGuardType P.depth xt = false := by
          unfold cEqK at hK
          split at hK <;> first | (simp at hK; done) | skip
          · split at hK
            · simp at hK
            · rename_i hh
              simp only [Bool.or_eq_true, not_or, Bool.not_eq_true] at hh
              exact hh.2
          · split at hK
            · split at hK
              · rename_i hh
                simp only [Bool.and_eq_true, Bool.not_eq_true'] at hh
                exact hh.2
              · simp at hK
            · simp at hK
        cases op <;> simp [eqGuard, hgt]
      | _ =>
        all_goals
          cases X <;> cases Y <;> simp only [eqA] at hb <;> first | (simp at hb; done) | skip
        all_goals
          first
            | (have e1 := VR_bool.1 vx; rw [e1]; cases op <;> rfl)
            | (rw [VR] at vx; rw [vx]; cases op <;> rfl)
            | (rw [VR] at vx; obtain ⟨_, _, vx⟩ := vx; rw [vx]; cases op <;> rfl)
            | (rw [VR] at vx; obtain ⟨_, _, vx, _⟩ := vx; rw [vx]; cases op <;> rfl)
            | (obtain ⟨_, _, _, _, vx, _⟩ := VR_slice vx; rw [vx]; cases op <;> rfl)
    have hbo : (binOp op xt (a.eval ox) (a.eval oy)).run P w = .ok (.bool (b != neg)) w := by
      have hfin : ∀ (u v : Value), a.eval ox = u → a.eval oy = v → binOp .eql xt u v = (do pure (.bool (← Op.equal xt u v))) → binOp .neq xt u v = (do pure (.bool (!(← Op.equal xt u v)))) →
          (binOp op xt (a.eval ox) (a.eval oy)).run P w = .ok (.bool (b != neg)) w := by
        intro u v e1 e2 e3 e4
        rw [e1, e2] at hq ⊢
        subst hop
        cases neg
        · simp only [Bool.false_eq_true, if_false, e3, Sem.run_bind, hq, Result.andThen_ok]
          cases b <;> rfl
        · simp only [if_true, e4, Sem.run_bind, hq, Result.andThen_ok]
          cases b <;> rfl
      cases K with
      | agg offs =>
        cases X <;> cases Y <;> simp only [eqA] at hb <;> first | (simp at hb; done) | skip
        obtain ⟨A1, e1, _⟩ := VR_agg.1 vx
        obtain ⟨A2, e2, _⟩ := VR_agg.1 vy
        exact hfin _ _ e1 e2 rfl rfl
      | _ =>
        all_goals
          cases X <;> cases Y <;> simp only [eqA] at hb <;> first | (simp at hb; done) | skip
        all_goals
          first
            | (exact hfin _ _ (VR_bool.1 vx) (VR_bool.1 vy) rfl rfl)
            | (rw [VR] at vx; rw [VR] at vy; exact hfin _ _ vx vy rfl rfl)
            | (rw [VR] at vx; rw [VR] at vy; obtain ⟨_, _, vx⟩ := vx; exact hfin _ _ vx vy rfl rfl)
            | (rw [VR] at vx; rw [VR] at vy; obtain ⟨_, _, vy⟩ := vy; exact hfin _ _ vx vy rfl rfl)
            | (rw [VR] at vx; rw [VR] at vy; obtain ⟨_, _, vx, _⟩ := vx; exact hfin _ _ vx vy rfl rfl)
            | (rw [VR] at vx; rw [VR] at vy; obtain ⟨_, _, vy, _⟩ := vy; exact hfin _ _ vx vy rfl rfl)
            | (rw [VR] at vy; obtain ⟨_, _, _, _, vx, _⟩ := VR_slice vx; exact hfin _ _ vx vy rfl rfl)
            | (rw [VR] at vx; obtain ⟨_, _, _, _, vy, _⟩ := VR_slice vy; exact hfin _ _ vx vy rfl rfl)
    rw [Sem.run_bind, hgd, Result.andThen_ok, hbo]
  have hB2 : ∀ o', A = .bin o' x y → o' = op → GoodN V μ h w ((do eqGuard op xt ox oy (a.eval ox) (a.eval oy); binOp op xt (a.eval ox) (a.eval oy) : Sem Value).run P w |>.andThen fun v w' => .ok (.value v) w') v h' := by
    rintro o' rfl rfl
    simp only [evOp, Option.map_eq_some_iff, Prod.mk.injEq] at he
    obtain ⟨r, hr, rfl, rfl⟩ := he
    obtain ⟨v', q1, q2⟩ := hbin r hr
    exact GoodN.pure k q2 (by rw [q1]; rfl)
  have hB3 : ∀ neg K, A = .eq neg K x y → cEqK P xt = some K → op = (if neg then .neq else .eql) → GoodN V μ h w ((do eqGuard op xt ox oy (a.eval ox) (a.eval oy); binOp op xt (a.eval ox) (a.eval oy) : Sem Value).run P w |>.andThen fun v w' => .ok (.value v) w') v h' := by
    rintro neg K rfl hK hop
    simp only [evOp, Option.map_eq_some_iff, Prod.mk.injEq] at he
    obtain ⟨r, hr, rfl, rfl⟩ := he
    exact GoodN.pure k (VR_bool.2 rfl) (by rw [heq neg K r hK hr hop]; rfl)
  have hE : ∀ neg, (match P.underlying xt with
    | some (.int _) | some .string => some (AOp.bin op x y)
    | _ => (cEqK P xt).map fun k => .eq neg k x y) = some A → op = (if neg then .neq else .eql) → GoodN V μ h w ((do eqGuard op xt ox oy (a.eval ox) (a.eval oy); binOp op xt (a.eval ox) (a.eval oy) : Sem Value).run P w |>.andThen fun v w' => .ok (.value v) w') v h' := by
    intro neg hA hop
    split at hA
    · cases hA; exact hB2 _ rfl rfl
    · cases hA; exact hB2 _ rfl rfl
    · simp only [Option.map_eq_some_iff] at hA
      obtain ⟨K, hK, rfl⟩ := hA
      exact hB3 neg K rfl hK hop
  cases op <;> simp only [cBin] at hc <;> first
    | (cases hc; exact hB2 _ rfl rfl)
    | (exact hE false hc rfl)
    | (exact hE true hc rfl)
end
end Go.Ev
namespace Go.Ev
open Go Go.RowKit
variable {V : Vn} {P : Program} {μ : Map} {gs : List Nat}
section
variable {B : Bnds} (hB : BOk V B) {tm : PT AVal} {a : Act} (ht : TR V μ tm a) (hg : GlOk gs μ) {h : Hp} {w : World} (k : HR V μ h w) {v : AVal} {h' : Hp}
theorem getD_idx {α} {fs : Array α} {f : Nat} {g : α} (h : fs[f]? = some g) : fs[f]? = some g := h
include hB ht hg k
theorem ok_convert {src dst : TypeId} {ox : Operand} {A : AOp} (hc : (match P.underlying src, P.underlying dst with
    | some (.int _), some (.int k) => do pure (AOp.toInt k (← cOpd gs ox))
    | some .string, some .string => do pure (.same (← cOpd gs ox))
    | some .string, some (.slice e) => match P.underlying e with
      | some (.int .u8) => do if (← P.info? e).size = 1 then pure (.toBytes (← cOpd gs ox)) else none
      | _ => none
    | some (.slice _), some (.slice e) => match P.underlying e with
      | some (.int .u8) => do if src = dst then pure (.mark (← cOpd gs ox)) else none
      | _ => none
    | some (.slice e), some .string => match P.underlying e with
      | some (.int .u8) => do pure (.toStr (← cOpd gs ox))
      | _ => none
    | _, _ => none) = some A) (he : evOp B A tm h = some (v, h')) : GoodN V μ h w (((convert src dst (a.eval ox)).run P w).andThen fun v w' => .ok (.value v) w') v h' := by
  split at hc
  · rename_i k1 k2 h1 h2
    simp only [Option.bind_eq_bind, Option.bind_eq_some_iff, Option.pure_def, Option.some.injEq] at hc
    obtain ⟨x, hx, rfl⟩ := hc
    have vx := opd_ok ht hg hx
    simp only [evOp, Option.map_eq_some_iff, Prod.mk.injEq] at he
    obtain ⟨r, hr, rfl, rfl⟩ := he
    obtain ⟨j, n, e, hv⟩ := run_toInt hB hr vx
    refine GoodN.pure k hv ?_
    rw [e]
    simp [convert, run_underlying h1, run_underlying h2, Conv.intToInt]
  · rename_i h1 h2
    simp only [Option.bind_eq_bind, Option.bind_eq_some_iff, Option.pure_def, Option.some.injEq] at hc
    obtain ⟨x, hx, rfl⟩ := hc
    have vx := opd_ok ht hg hx
    simp only [evOp] at he
    split at he
    · rename_i s hs
      cases he
      rw [hs] at vx
      obtain ⟨b, e, hb⟩ := VR_str.1 vx
      refine GoodN.pure k vx ?_
      rw [e]
      simp [convert, run_underlying h1, run_underlying h2]
    · simp at he
  · rename_i e h1 h2
    split at hc
    · rename_i h3
      simp only [Option.bind_eq_bind, Option.bind_eq_some_iff] at hc
      obtain ⟨i, hi, hc⟩ := hc
      split at hc
      · simp only [Option.bind_eq_some_iff, Option.pure_def, Option.some.injEq] at hc
        obtain ⟨x, hx, rfl⟩ := hc
        have vx := opd_ok ht hg hx
        simp only [evOp] at he
        split at he
        · rename_i s hs
          cases he
          rw [hs] at vx
          obtain ⟨b, e1, rfl⟩ := VR_str.1 vx
          refine (good_toBytes (P := P) k (e := e) b).next ?_
          rw [e1]
          congr 1
          simp [convert, run_underlying h1, run_underlying h2, run_underlying h3]
        · simp at he
      · simp at hc
    · simp at hc
  · rename_i e0 e h1 h2
    split at hc
    · rename_i h3
      split at hc
      · rename_i hsd
        simp only [Option.bind_eq_bind, Option.bind_eq_some_iff, Option.pure_def, Option.some.injEq] at hc
        obtain ⟨x, hx, rfl⟩ := hc
        have vx := opd_ok ht hg hx
        simp only [evOp] at he
        split at he
        · rename_i id off len cap sz hs
          split at he
          · rename_i cs hgt
            cases he
            rw [hs] at vx
            obtain ⟨l, rc, o, hl, e1, ha, hb⟩ := VR_slice vx
            obtain ⟨l', c, t, lo, hi, hl', hw, hcs, hsl, hvs, hfz⟩ := k.cells hgt
            rw [hl] at hl'; cases hl'
            obtain ⟨lo', hi', f1, f2, f3⟩ := freeze_end (n := c.size) hw rfl (by rw [hcs]; exact hfz rfl)
            rw [hcs] at f2
            have hrest : (w.freeze ⟨l.b, c.size, none⟩ 1).heap.size = w.heap.size ∧ (w.freeze ⟨l.b, c.size, none⟩ 1).os = w.os ∧ (w.freeze ⟨l.b, c.size, none⟩ 1).tape = w.tape ∧ (w.freeze ⟨l.b, c.size, none⟩ 1).output = w.output := by
              simp [World.freeze]
            obtain ⟨g1, g2⟩ := k.touch hgt rfl hl (w' := w.freeze ⟨l.b, c.size, none⟩ 1) ⟨c, t, lo', hi', f1, hcs, hsl, hvs, fun _ => f2⟩ f3 hrest.1 hrest.2.1 hrest.2.2.1 hrest.2.2.2
            refine ⟨_, _, μ, .inl ?_, vx, g1, g2⟩
            rw [e1]
            have hsh : w.shape? l.b = some (t, c.size) := by simp only [World.shape?, hw]
            subst hsd
            have hee : e0 = e := by rw [h1] at h2; cases h2; rfl
            subst hee
            simp [convert, run_underlying h1, run_underlying h3, markStringish, hsh]
          · simp at he
        · simp at he
      · simp at hc
    · simp at hc
  · rename_i e h1 h2
    split at hc
    · rename_i h3
      simp only [Option.bind_eq_bind, Option.bind_eq_some_iff, Option.pure_def, Option.some.injEq] at hc
      obtain ⟨x, hx, rfl⟩ := hc
      have vx := opd_ok ht hg hx
      simp only [evOp, Option.map_eq_some_iff, Prod.mk.injEq] at he
      obtain ⟨r, hr, rfl, rfl⟩ := he
      refine (good_toStr (P := P) k vx hr).next ?_
      congr 1
      have : ∃ u l c, a.eval ox = .slice u l c := by
        generalize x.ev tm = X at vx hr
        cases X <;> simp only [toStrA] at hr <;> first | (simp at hr; done) | skip
        · rw [VR] at vx; exact ⟨_, _, _, vx⟩
        · obtain ⟨_, _, _, _, e, _⟩ := VR_slice vx; exact ⟨_, _, _, e⟩
      obtain ⟨u, l, c, e1⟩ := this
      rw [e1]
      exact run_convert_bytes_string w src dst e u l c h1 h3 h2
    · simp at hc
  · simp at hc
end
end Go.Ev
namespace Go.Ev
open Go Go.RowKit
variable {V : Vn} {P : Program} {μ : Map} {gs : List Nat}
section
variable {B : Bnds} (hB : BOk V B) {tm : PT AVal} {a : Act} (ht : TR V μ tm a) (hg : GlOk gs μ) {h : Hp} {w : World} (k : HR V μ h w) {v : AVal} {h' : Hp}
include hB ht hg k
theorem ok_slice {t : TypeId} {ox : Operand} {olo ohi omx : Option Operand} {A : AOp} (hc : (match P.underlying t with
    | some .string => match omx with
      | none => do pure (AOp.sliceStr (← cOpd gs ox) (← cOpt gs olo) (← cOpt gs ohi))
      | some _ => none
    | some (.slice e) => do
      let i ← P.info? e
      if i.size = 0 then none else pure (.sliceSl i.size (← cOpd gs ox) (← cOpt gs olo) (← cOpt gs ohi) (← cOpt gs omx))
    | some (.array n e) => do
      let i ← P.info? e
      if i.size = 0 then none else pure (.sliceArr n i.size (← cOpd gs ox) (← cOpt gs olo) (← cOpt gs ohi) (← cOpt gs omx))
    | some (.pointer a) => match P.underlying a with
      | some (.array n e) => do
        let i ← P.info? e
        if i.size = 0 then none else pure (.sliceArr n i.size (← cOpd gs ox) (← cOpt gs olo) (← cOpt gs ohi) (← cOpt gs omx))
      | _ => none
    | _ => none) = some A) (he : evOp B A tm h = some (v, h')) : GoodN V μ h w (((Instr.sliceAt t (a.eval ox) (olo.map a.eval) (ohi.map a.eval) (omx.map a.eval)).run P w).andThen fun v w' => .ok (.value v) w') v h' := by
  have _hB := hB
  split at hc
  · rename_i hu
    cases omx with
    | some _ => simp at hc
    | none =>
      simp only [Option.bind_eq_bind, Option.bind_eq_some_iff, Option.pure_def, Option.some.injEq] at hc
      obtain ⟨x, hx, lo, hlo, hi, hhi, rfl⟩ := hc
      have vx := opd_ok ht hg hx
      have v1 := opt_ok ht hg hlo
      have v2 := opt_ok ht hg hhi
      simp only [evOp] at he
      split at he
      · rename_i s hs
        rw [hs] at vx
        obtain ⟨b, e1, rfl⟩ := VR_str.1 vx
        simp only [Option.map_eq_some_iff] at he
        obtain ⟨⟨l, t', m⟩, hbd, he⟩ := he
        cases he
        obtain ⟨v', q1, q2⟩ := run_sliceStr (P := P) hu b v1 v2 hbd w
        rw [e1]
        exact GoodN.pure k q2 (by simp only [Option.map_none]; rw [q1]; rfl)
      · simp at he
  · rename_i e hu
    simp only [Option.bind_eq_bind, Option.bind_eq_some_iff] at hc
    obtain ⟨i, hi, hc⟩ := hc
    split at hc
    · simp at hc
    · rename_i hsz
      simp only [Option.bind_eq_some_iff, Option.pure_def, Option.some.injEq] at hc
      obtain ⟨x, hx, lo, hlo, hi', hhi, mx, hmx, rfl⟩ := hc
      have vx := opd_ok ht hg hx
      have v1 := opt_ok ht hg hlo
      have v2 := opt_ok ht hg hhi
      have v3 := opt_ok ht hg hmx
      simp only [evOp, Option.map_eq_some_iff, Prod.mk.injEq] at he
      obtain ⟨r, hr, rfl, rfl⟩ := he
      generalize x.ev tm = X at vx hr
      cases X with
      | nilslice =>
        rw [VR] at vx
        rw [vx]
        simp only [sliceSlA, Option.map_eq_some_iff] at hr
        obtain ⟨⟨l, t', m⟩, hbd, rfl⟩ := hr
        obtain ⟨e1, e2, e3, e4⟩ := bounds_spec (P := P) hbd v1 v2 v3 true w (Nat.le_refl _)
        refine GoodN.pure (v' := .slice none 0 0) k (by rw [VR]) ?_
        have hm : m = l := by omega
        have ht' : t' = l := by omega
        have hl : l = 0 := by omega
        simp only [Instr.sliceAt, Instr.slice, Sem.run_bind, run_underlying hu, Result.andThen_ok, e1, run_sizeOf' hi]
        subst hl
        simp [hm, ht']
      | slice id off len cap z =>
        have hz : z = i.size := by
          by_cases hzz : z = i.size
          · exact hzz
          · simp only [sliceSlA, ne_eq] at hr
            rw [if_pos hzz] at hr
            simp at hr
        subst hz
        obtain ⟨v', q1, q2⟩ := run_sliceSl (P := P) hu hi vx v1 v2 v3 hr w
        exact GoodN.pure k q2 (by rw [q1]; rfl)
      | _ => simp [sliceSlA] at hr
  · rename_i n e hu
    simp only [Option.bind_eq_bind, Option.bind_eq_some_iff] at hc
    obtain ⟨i, hi, hc⟩ := hc
    split at hc
    · simp at hc
    · rename_i hsz
      simp only [Option.bind_eq_some_iff, Option.pure_def, Option.some.injEq] at hc
      obtain ⟨x, hx, lo, hlo, hi', hhi, mx, hmx, rfl⟩ := hc
      have vx := opd_ok ht hg hx
      simp only [evOp] at he
      split at he
      · rename_i id off hs
        rw [hs] at vx
        simp only [Option.map_eq_some_iff] at he
        obtain ⟨⟨l, t', m⟩, hbd, he⟩ := he
        cases he
        obtain ⟨v', q1, q2⟩ := run_sliceArr (P := P) (.inl hu) hi vx (opt_ok ht hg hlo) (opt_ok ht hg hhi) (opt_ok ht hg hmx) hbd w
        exact GoodN.pure k q2 (by rw [q1]; rfl)
      · simp at he
  · rename_i pa hu
    split at hc
    · rename_i n e hu2
      simp only [Option.bind_eq_bind, Option.bind_eq_some_iff] at hc
      obtain ⟨i, hi, hc⟩ := hc
      split at hc
      · simp at hc
      · rename_i hsz
        simp only [Option.bind_eq_some_iff, Option.pure_def, Option.some.injEq] at hc
        obtain ⟨x, hx, lo, hlo, hi', hhi, mx, hmx, rfl⟩ := hc
        have vx := opd_ok ht hg hx
        simp only [evOp] at he
        split at he
        · rename_i id off hs
          rw [hs] at vx
          simp only [Option.map_eq_some_iff] at he
          obtain ⟨⟨l, t', m⟩, hbd, he⟩ := he
          cases he
          obtain ⟨v', q1, q2⟩ := run_sliceArr (P := P) (.inr ⟨pa, hu, hu2⟩) hi vx (opt_ok ht hg hlo) (opt_ok ht hg hhi) (opt_ok ht hg hmx) hbd w
          exact GoodN.pure k q2 (by rw [q1]; rfl)
        · simp at he
    · simp at hc
  · simp at hc
theorem ok_addr {t : TypeId} {ox oi : Operand} {A : AOp} (hc : (match P.underlying t with
    | some (.array n e) => do
      let j ← P.info? e
      if j.size = 0 then none else pure (AOp.indexAddrArr n j.size (← cOpd gs ox) (← cOpd gs oi))
    | some (.slice e) => do
      let j ← P.info? e
      if j.size = 0 then none else pure (.indexAddrSl j.size (← cOpd gs ox) (← cOpd gs oi))
    | _ => none) = some A) (he : evOp B A tm h = some (v, h')) : GoodN V μ h w (((Instr.indexAt t (a.eval ox) (a.eval oi)).run P w).andThen fun v w' => .ok (.value v) w') v h' := by
  have _hB := hB
  split at hc
  · rename_i n e hu
    simp only [Option.bind_eq_bind, Option.bind_eq_some_iff] at hc
    obtain ⟨j, hj, hc⟩ := hc
    split at hc
    · simp at hc
    · simp only [Option.bind_eq_some_iff, Option.pure_def, Option.some.injEq] at hc
      obtain ⟨x, hx, y, hy, rfl⟩ := hc
      have vx := opd_ok ht hg hx
      have vy := opd_ok ht hg hy
      simp only [evOp] at he
      split at he
      · rename_i id off i h1 h2
        cases he
        rw [h1] at vx
        obtain ⟨l, hl, e1⟩ := VR_ptr.1 vx
        obtain ⟨kk, m, e2, b0, b1, b2⟩ := idx_spec h2 vy
        rw [e1, e2]
        refine GoodN.pure k (VR_ptr.2 ⟨l, hl, rfl⟩) ?_
        rw [run_indexArr hu hj b0 b1, add_none, b2, Nat.add_assoc]
        rfl
      · simp at he
  · rename_i e hu
    simp only [Option.bind_eq_bind, Option.bind_eq_some_iff] at hc
    obtain ⟨j, hj, hc⟩ := hc
    split at hc
    · simp at hc
    · simp only [Option.bind_eq_some_iff, Option.pure_def, Option.some.injEq] at hc
      obtain ⟨x, hx, y, hy, rfl⟩ := hc
      have vx := opd_ok ht hg hx
      have vy := opd_ok ht hg hy
      simp only [evOp] at he
      split at he
      · rename_i id off len cap z h1
        split at he
        · rename_i i h2
          split at he
          · rename_i hz
            cases he
            rw [h1] at vx
            obtain ⟨l, rc, o, hl, e1, ha, hb⟩ := VR_slice vx
            obtain ⟨kk, m, e2, b0, b1, b2⟩ := idx_spec h2 vy
            have ho : o = l.s + off := by
              cases cap with
              | some c => exact (ha c rfl).2
              | none =>
                rcases hb rfl with hb | hb
                · exact hb.2.1
                · omega
            subst ho
            rw [e1, e2]
            refine GoodN.pure k (VR_ptr.2 ⟨l, hl, rfl⟩) ?_
            rw [run_indexSl hu hj b0 b1, add_none, b2, Nat.add_assoc]
            rfl
          · simp at he
        · simp at he
      · simp at he
  · simp at hc
theorem ok_index {t : TypeId} {ox oi : Operand} {A : AOp} (hc : (match P.underlying t with
    | some (.array n e) => do pure (AOp.indexArr n (← P.info? e).size (← cAgg P e) (← cOpd gs ox) (← cOpd gs oi))
    | some .string => do pure (.indexStr (← cOpd gs ox) (← cOpd gs oi))
    | _ => none) = some A) (he : evOp B A tm h = some (v, h')) : GoodN V μ h w (((Instr.index t (a.eval ox) (a.eval oi)).run P w).andThen fun v w' => .ok (.value v) w') v h' := by
  have _hB := hB
  split at hc
  · rename_i n e hu
    simp only [Option.bind_eq_bind, Option.bind_eq_some_iff, Option.pure_def, Option.some.injEq] at hc
    obtain ⟨j, hj, m, hm, x, hx, y, hy, rfl⟩ := hc
    have vx := opd_ok ht hg hx
    have vy := opd_ok ht hg hy
    simp only [evOp] at he
    split at he
    · rename_i cs i h1 h2
      simp only [Option.map_eq_some_iff, Prod.mk.injEq] at he
      obtain ⟨r, hr, rfl, rfl⟩ := he
      rw [h1] at vx
      obtain ⟨c, e1, hcs⟩ := VR_agg.1 vx
      obtain ⟨kk, n', e2, b0, b1, b2⟩ := idx_spec h2 vy
      obtain ⟨v', q1, q2⟩ := run_part (P := P) hm hr hcs w
      rw [e1, e2]
      refine GoodN.pure k q2 ?_
      simp only [Instr.index, asIntOf, Sem.run_bind, Sem.run_pure, Result.andThen_ok, run_underlying hu]
      rw [if_pos ⟨b0, b1⟩]
      simp only [Sem.run_bind, run_sizeOf' hj, Result.andThen_ok, b2, q1]
    · simp at he
  · rename_i hu
    simp only [Option.bind_eq_bind, Option.bind_eq_some_iff, Option.pure_def, Option.some.injEq] at hc
    obtain ⟨x, hx, y, hy, rfl⟩ := hc
    have vx := opd_ok ht hg hx
    have vy := opd_ok ht hg hy
    simp only [evOp] at he
    split at he
    · rename_i s h1
      split at he
      · rename_i i h2
        simp only [Option.map_eq_some_iff, Prod.mk.injEq] at he
        obtain ⟨r, hr, rfl, rfl⟩ := he
        rw [h1] at vx
        obtain ⟨b, e1, rfl⟩ := VR_str.1 vx
        obtain ⟨kk, n', e2, b0, b1, b2⟩ := idx_spec h2 vy
        rw [e1, e2]
        refine GoodN.pure (v' := .int .u8 r.toNat) k (by rw [VR]) ?_
        have hlt : n'.toNat < b.size := by
          have e3 : b.size = b.data.toList.length := by rw [Array.length_toList]; rfl
          omega
        have hget : b[n'.toNat]? = some r := by
          rw [ByteArray.getElem?_lt' _ _ hlt]
          subst b2
          have h3 := hr
          rw [List.getElem?_eq_some_iff] at h3
          obtain ⟨h4, h5⟩ := h3
          rw [← h5]
          simp [ByteArray.getElem_eq_getElem_data]
        simp only [Instr.index, asIntOf, Sem.run_bind, Sem.run_pure, Result.andThen_ok, run_underlying hu]
        simp only [b0, if_true, hget]
        rfl
      · simp at he
    · simp at he
  · simp at hc
end
end Go.Ev
namespace Go.Ev
open Go Go.RowKit
variable {V : Vn} {P : Program} {μ : Map} {gs : List Nat}
theorem MR_length {V : Vn} {μ : Map} : ∀ {x : List (AVal × AVal)} {l : List MapEntry}, MR V μ x l → x.length = l.length
  | [], l, h => by simp only [MR] at h; subst h; rfl
  | (a, b) :: r, l, ⟨e, es, q, _, _, m⟩ => by subst q; simp [MR_length m]
section
variable {B : Bnds} (hB : BOk V B) {tm : PT AVal} {a : Act} (ht : TR V μ tm a) (hg : GlOk gs μ) {h : Hp} {w : World} (k : HR V μ h w) {v : AVal} {h' : Hp}
include hB ht hg k
theorem ok_builtin {b : Builtin} {ty : TypeId} {args : Array Operand} {argTypes : Array TypeId} {cs : Array Bool} {A : AOp} (hc : (match b, args.toList, argTypes.toList with
    | .append, [s, x], [st, xt] => match P.underlying st with
      | some (.slice e) => do
        let i ← P.info? e
        let z := (← cZero P e).cells
        if i.size = 0 || i.bytes = 0 || z.length != i.size then none else
        match P.underlying xt with
        | some (.int _) => pure (AOp.appendN i.size i.bytes z (← cOpd gs s) (← cOpd gs x))
        | some _ => pure (.append i.size i.bytes (← cOpd gs s) (← cOpd gs x))
        | none => none
      | _ => none
    | .len, [x], [t] => match P.underlying t with
      | some .string => do pure (.lenStr (← cOpd gs x))
      | some (.slice _) => do pure (.lenSl (← cOpd gs x))
      | some (.map _ _) => do pure (.lenMap (← cOpd gs x))
      | some (.array n _) => some (.lenConst n)
      | some (.pointer a) => match P.underlying a with
        | some (.array n _) => some (.lenConst n)
        | _ => none
      | _ => none
    | .cap, [x], [t] => match P.underlying t with
      | some (.slice _) => do pure (.cap (← cOpd gs x))
      | some (.array n _) => some (.lenConst n)
      | _ => none
    | .copy, [d, s], t :: _ => match P.underlying t with
      | some (.slice e) => do
        let i ← P.info? e
        if i.size = 0 then none else pure (.copy i.size (← cOpd gs d) (← cOpd gs s))
      | _ => none
    | .delete, [m, k], t :: _ => match P.underlying t with
      | some (.map kt _) => match P.underlying kt with
        | some (.int _) => do pure (.delete .i (← cOpd gs m) (← cOpd gs k))
        | some .string => do pure (.delete .s (← cOpd gs m) (← cOpd gs k))
        | _ => none
      | _ => none
    | .min, xs, _ => do pure (.minmax false (← cOpds gs xs))
    | .max, xs, _ => do pure (.minmax true (← cOpds gs xs))
    | _, _, _ => none) = some A) (he : evOp B A tm h = some (v, h')) : GoodN V μ h w ((builtin b argTypes ty cs (args.map a.eval)).run P w) v h' := by
  have _hB := hB
  split at hc
  · -- append
    rename_i s x st xt ha hat
    rw [toList_two ha, toList_two hat]
    split at hc
    · rename_i e hu
      simp only [Option.bind_eq_bind, Option.bind_eq_some_iff] at hc
      obtain ⟨i, hi, z, hz, hc⟩ := hc
      split at hc
      · simp at hc
      · rename_i hcond
        simp only [Bool.or_eq_true, decide_eq_true_eq, bne_iff_ne, ne_eq, not_or, Classical.not_not] at hcond
        obtain ⟨⟨c1, c2⟩, c3⟩ := hcond
        split at hc
        · rename_i kx hux
          simp only [Option.bind_eq_some_iff, Option.pure_def, Option.some.injEq] at hc
          obtain ⟨sa, hs, xa, hx, rfl⟩ := hc
          have vs := opd_ok ht hg hs
          have vx := opd_ok ht hg hx
          simp only [evOp] at he
          split at he
          · rename_i kn n hn
            split at he
            · rename_i hb
              obtain ⟨b0, b1, b2⟩ := hb
              rw [hn] at vx
              have e1 := VR_int.1 vx
              obtain ⟨iz, zv, hiz, hzz, hzc⟩ := cZero_spec hz
              rw [hi] at hiz; cases hiz
              have hzs : zv.cells.size = i.size := by rw [← c3, zcells_size hzc]
              have hn1 : ((n.toNat : Nat) : Int) = n := by omega
              have hnn : n.toNat ≤ 2 ^ 40 := by omega
              have hnb : n.toNat * i.bytes ≤ 2 ^ 40 := by
                have : ((n.toNat * i.bytes : Nat) : Int) = n * i.bytes := by simp [hn1]
                omega
              have hrep := rep_ok (V := V) (μ := μ) (VR_cells (VR_ofConst hzc)) n.toNat
              have hzl : ((Array.range (n.toNat * zv.cells.size)).map fun j => zv.cells[j % zv.cells.size]!) = Builtin.zeroCells zv.cells n.toNat := rfl
              rw [hzl] at hrep
              have hul : (Builtin.zeroCells zv.cells n.toNat).toList.length = n.toNat * i.size := by rw [Array.length_toList, zeroCells_size, hzs]
              refine (good_append_gen k (P := P) hzs c2 c1 vs (us := (Builtin.zeroCells zv.cells n.toNat).toList) (us' := (Builtin.zeroCells zv.cells n.toNat).toList) hrep hul hrep hul (fun sv => (Builtin.append_ #[st, xt] ty #[sv, .int kn n.toNat]).run P w)
                (fun hfit hst h0 => appendN_fits hu hi hzz hux hnn hnb rfl c1 hfit hst h0)
                (fun h3 hf hn4 hc4 => by
                  have := appendN_grows (P := P) (ty := ty) (kv := kn) hu hi hzz hux hnn hnb (us := Builtin.zeroCells zv.cells n.toNat) rfl c1 h3 hf c2 hn4 hc4
                  simpa using this) he) |> fun g => ?_
              have e2 : (#[s, x].map a.eval) = #[a.eval s, .int kn n.toNat] := by simp [e1, hn1]
              rw [e2]
              exact g.next (run_v _ _)
            · simp at he
          · simp at he
        · rename_i dx hnot hux
          simp only [Option.bind_eq_some_iff, Option.pure_def, Option.some.injEq] at hc
          obtain ⟨sa, hs, xa, hx, rfl⟩ := hc
          have vs := opd_ok ht hg hs
          have vx := opd_ok ht hg hx
          simp only [evOp] at he
          split at he
          · rename_i new n hsrc
            have e2 : (#[s, x].map a.eval) = #[a.eval s, a.eval x] := by simp
            rw [e2]
            exact (good_append (P := P) k hu hi hz c3 hux (fun kk hh => hnot kk hh) c2 c1 vs vx hsrc he).next (run_v _ _)
          · simp at he
        · simp at hc
    · simp at hc
  · -- len
    rename_i x t ha hat
    rw [toList_one ha, toList_one hat]
    have e2 : (#[x].map a.eval) = #[a.eval x] := by simp
    rw [e2]
    split at hc
    · rename_i hu
      simp only [Option.bind_eq_bind, Option.bind_eq_some_iff, Option.pure_def, Option.some.injEq] at hc
      obtain ⟨xa, hx, rfl⟩ := hc
      have vx := opd_ok ht hg hx
      simp only [evOp] at he
      split at he
      · rename_i s hs
        cases he
        rw [hs] at vx
        obtain ⟨b, e1, rfl⟩ := VR_str.1 vx
        rw [e1]
        have es : b.size = b.data.toList.length := by rw [Array.length_toList]; rfl
        refine GoodN.pure (v' := .int .i64 b.size) k (by rw [VR, es]) ?_
        refine (run_v _ _).trans ?_
        simp [Builtin.len_, run_underlying hu, goInt]
      · simp at he
    · rename_i e hu
      simp only [Option.bind_eq_bind, Option.bind_eq_some_iff, Option.pure_def, Option.some.injEq] at hc
      obtain ⟨xa, hx, rfl⟩ := hc
      have vx := opd_ok ht hg hx
      simp only [evOp] at he
      split at he
      · rename_i hs
        cases he
        rw [hs] at vx; rw [VR] at vx
        rw [vx]
        refine GoodN.pure (v' := .int .i64 0) k (by rw [VR]) ?_
        refine (run_v _ _).trans ?_
        simp [Builtin.len_, run_underlying hu, goInt]
      · rename_i id off len cap z hs
        cases he
        rw [hs] at vx
        obtain ⟨l, rc, o, hl, e1, _⟩ := VR_slice vx
        rw [e1]
        refine GoodN.pure (v' := .int .i64 len) k (by rw [VR]) ?_
        refine (run_v _ _).trans ?_
        simp [Builtin.len_, run_underlying hu, goInt]
      · simp at he
    · rename_i kt e hu
      simp only [Option.bind_eq_bind, Option.bind_eq_some_iff, Option.pure_def, Option.some.injEq] at hc
      obtain ⟨xa, hx, rfl⟩ := hc
      have vx := opd_ok ht hg hx
      simp only [evOp] at he
      split at he
      · rename_i hs
        cases he
        rw [hs] at vx; rw [VR] at vx
        rw [vx]
        refine GoodN.pure (v' := .int .i64 0) k (by rw [VR]) ?_
        refine (run_v _ _).trans ?_
        simp [Builtin.len_, run_underlying hu, goInt]
      · rename_i id hs
        split at he
        · rename_i es hgt
          cases he
          rw [hs] at vx; rw [VR] at vx
          obtain ⟨l, hl, e1⟩ := vx
          rw [e1]
          obtain ⟨l', es', ck, hl', hw, hm⟩ := k.mapOf hgt
          rw [hl] at hl'; cases hl'
          have hgo := getObj_map (P := P) hw
          refine GoodN.pure (v' := .int .i64 es'.size) k (by rw [VR, MR_length hm, Array.length_toList]) ?_
          refine (run_v _ _).trans ?_
          simp [Builtin.len_, run_underlying hu, goInt, hgo]
        · simp at he
      · simp at he
    · rename_i n e hu
      cases hc
      simp only [evOp] at he; cases he
      refine GoodN.pure (v' := .int .i64 n) k (by rw [VR]) ?_
      refine (run_v _ _).trans ?_
      cases a.eval x <;> simp [Builtin.len_, run_underlying hu, goInt]
    · rename_i pa hu
      split at hc
      · rename_i n e hu2
        cases hc
        simp only [evOp] at he; cases he
        refine GoodN.pure (v' := .int .i64 n) k (by rw [VR]) ?_
        refine (run_v _ _).trans ?_
        cases a.eval x <;> simp [Builtin.len_, run_underlying hu, run_underlying hu2, goInt]
      · simp at hc
    · simp at hc
  · -- cap
    rename_i x t ha hat
    rw [toList_one ha, toList_one hat]
    have e2 : (#[x].map a.eval) = #[a.eval x] := by simp
    rw [e2]
    split at hc
    · rename_i e hu
      simp only [Option.bind_eq_bind, Option.bind_eq_some_iff, Option.pure_def, Option.some.injEq] at hc
      obtain ⟨xa, hx, rfl⟩ := hc
      have vx := opd_ok ht hg hx
      simp only [evOp] at he
      split at he
      · rename_i hs
        cases he
        rw [hs] at vx; rw [VR] at vx
        rw [vx]
        refine GoodN.pure (v' := .int .i64 0) k (by rw [VR]) ?_
        refine (run_v _ _).trans ?_
        simp [Builtin.cap_, run_underlying hu, goInt]
      · rename_i id off len c z hs
        cases he
        rw [hs] at vx
        obtain ⟨l, rc, o, hl, e1, hcap, _⟩ := VR_slice vx
        rw [e1, (hcap c rfl).1]
        refine GoodN.pure (v' := .int .i64 c) k (by rw [VR]) ?_
        refine (run_v _ _).trans ?_
        simp [Builtin.cap_, run_underlying hu, goInt]
      · simp at he
    · rename_i n e hu
      cases hc
      simp only [evOp] at he; cases he
      refine GoodN.pure (v' := .int .i64 n) k (by rw [VR]) ?_
      refine (run_v _ _).trans ?_
      cases a.eval x <;> simp [Builtin.cap_, run_underlying hu, goInt]
    · simp at hc
  · -- copy
    rename_i d s t ts ha hat
    rw [toList_two ha, toList_cons hat]
    have e2 : (#[d, s].map a.eval) = #[a.eval d, a.eval s] := by simp
    rw [e2]
    split at hc
    · rename_i e hu
      simp only [Option.bind_eq_bind, Option.bind_eq_some_iff] at hc
      obtain ⟨i, hi, hc⟩ := hc
      split at hc
      · simp at hc
      · rename_i hsz
        simp only [Option.bind_eq_some_iff, Option.pure_def, Option.some.injEq] at hc
        obtain ⟨da, hd, sa, hs, rfl⟩ := hc
        simp only [evOp] at he
        split at he
        · simp at he
        · rename_i cs n hsrc
          exact (good_copy (P := P) k hu hi hsz (opd_ok ht hg hd) (opd_ok ht hg hs) hsrc he).next (run_v _ _)
    · simp at hc
  · -- delete
    rename_i m key t ts ha hat
    rw [toList_two ha, toList_cons hat]
    have e2 : (#[m, key].map a.eval) = #[a.eval m, a.eval key] := by simp
    rw [e2]
    split at hc
    · rename_i kt e hu
      have fin : ∀ (kk : SK) (d : TypeDesc), P.underlying kt = some d → KindOf kk d → ∀ ma ka, cOpd gs m = some ma → cOpd gs key = some ka → A = .delete kk ma ka → GoodN V μ h w ((builtin .delete (t :: ts).toArray ty cs #[a.eval m, a.eval key]).run P w) v h' := by
        rintro kk d hd hkk ma ka hm hk rfl
        have vm := opd_ok ht hg hm
        have vk := opd_ok ht hg hk
        simp only [evOp] at he
        split at he
        · rename_i id hs
          split at he
          · rename_i es hgt
            simp only [Option.map_eq_some_iff, Prod.mk.injEq] at he
            obtain ⟨h1, hdel, rfl, rfl⟩ := he
            rw [hs] at vm
            obtain ⟨w', q1, q2, q3⟩ := good_delete (P := P) (ty := ty) (ts := ts) k hu hd hkk vm vk hgt hdel
            refine ⟨.tuple #[], w', μ, .inl ?_, VR_tuple_mk VRs_nil, q2, q3⟩
            refine (run_v _ _).trans ?_
            rw [q1]; rfl
          · simp at he
        · simp at he
      split at hc
      · rename_i kx hd
        simp only [Option.bind_eq_bind, Option.bind_eq_some_iff, Option.pure_def, Option.some.injEq] at hc
        obtain ⟨ma, hm, ka, hk, rfl⟩ := hc
        exact fin .i _ hd (.inl ⟨rfl, kx, rfl⟩) ma ka hm hk rfl
      · rename_i hd
        simp only [Option.bind_eq_bind, Option.bind_eq_some_iff, Option.pure_def, Option.some.injEq] at hc
        obtain ⟨ma, hm, ka, hk, rfl⟩ := hc
        exact fin .s _ hd (.inr ⟨rfl, rfl⟩) ma ka hm hk rfl
      · simp at hc
    · simp at hc
  · -- min
    simp only [Option.bind_eq_bind, Option.bind_eq_some_iff, Option.pure_def, Option.some.injEq] at hc
    obtain ⟨ys, hys, rfl⟩ := hc
    have vs := opds_ok ht hg hys
    simp only [evOp] at he
    split at he
    · rename_i k0 a0 rest hev
      simp only [Option.map_eq_some_iff, Prod.mk.injEq] at he
      obtain ⟨r, hr, rfl, rfl⟩ := he
      rw [hev] at vs
      rw [VRs] at vs
      obtain ⟨x0, xs0, e3, vx0, vxs⟩ := vs
      rw [VR] at vx0; subst vx0
      obtain ⟨v', q1, q2⟩ := run_minmax (P := P) false k0 w rest xs0 a0 r hr vxs
      refine GoodN.pure k q2 ?_
      refine (run_v _ _).trans ?_
      have e4 : (args.map a.eval).toList = .int k0 a0 :: xs0 := by rw [Array.toList_map]; exact e3
      simp only [Builtin.min_, e4]
      simp only [Bool.false_eq_true, if_false] at q1
      rw [q1]; rfl
    · simp at he
  · -- max
    simp only [Option.bind_eq_bind, Option.bind_eq_some_iff, Option.pure_def, Option.some.injEq] at hc
    obtain ⟨ys, hys, rfl⟩ := hc
    have vs := opds_ok ht hg hys
    simp only [evOp] at he
    split at he
    · rename_i k0 a0 rest hev
      simp only [Option.map_eq_some_iff, Prod.mk.injEq] at he
      obtain ⟨r, hr, rfl, rfl⟩ := he
      rw [hev] at vs
      rw [VRs] at vs
      obtain ⟨x0, xs0, e3, vx0, vxs⟩ := vs
      rw [VR] at vx0; subst vx0
      obtain ⟨v', q1, q2⟩ := run_minmax (P := P) true k0 w rest xs0 a0 r hr vxs
      refine GoodN.pure k q2 ?_
      refine (run_v _ _).trans ?_
      have e4 : (args.map a.eval).toList = .int k0 a0 :: xs0 := by rw [Array.toList_map]; exact e3
      simp only [Builtin.max_, e4]
      simp only [if_true] at q1
      rw [q1]; rfl
    · simp at he
  · simp at hc
end
end Go.Ev
namespace Go.Ev
open Go Go.RowKit
variable {V : Vn} {P : Program} {μ : Map} {gs : List Nat}
theorem VRs_evs_array {tm : PT AVal} {a : Act} (ht : TR V μ tm a) (hg : GlOk gs μ) {xs : Array Operand} {ys : List AOpd} (h : cOpds gs xs.toList = some ys) : VRs V μ (evs tm ys) (xs.map a.eval).toList := by
  rw [Array.toList_map]; exact opds_ok ht hg h
set_option maxHeartbeats 1000000 in
theorem evOp_ok {B : Bnds} (hB : BOk V B) {tm : PT AVal} {a : Act} (ht : TR V μ tm a) (hg : GlOk gs μ) {h : Hp} {w : World} (k : HR V μ h w) {v : AVal} {h' : Hp} {o : Oper} {A : AOp} (hc : cOp P gs o = some A) (hnc : ∀ f as, A ≠ .call f as) (he : evOp B A tm h = some (v, h')) :
    GoodN V μ h w ((execOp a.eval o).run P w) v h' := by
  obtain ⟨dst, oo, ty, pos, af, gd⟩ := o
  cases oo <;> simp only [cOp] at hc <;> simp only [execOp]
  case move x =>
    simp only [Option.bind_eq_bind, Option.bind_eq_some_iff, Option.pure_def, Option.some.injEq] at hc
    obtain ⟨y, hy, rfl⟩ := hc
    simp only [evOp] at he; cases he
    exact GoodN.pure k (opd_ok ht hg hy) rfl
  case assign x =>
    simp only [Option.bind_eq_bind, Option.bind_eq_some_iff, Option.pure_def, Option.some.injEq] at hc
    obtain ⟨y, hy, rfl⟩ := hc
    simp only [evOp] at he; cases he
    exact GoodN.pure k (opd_ok ht hg hy) rfl
  case pick c x y =>
    simp only [Option.bind_eq_bind, Option.bind_eq_some_iff, Option.pure_def, Option.some.injEq] at hc
    obtain ⟨c', hc', x', hx, y', hy, rfl⟩ := hc
    have vc := opd_ok ht hg hc'
    simp only [evOp] at he
    split at he
    · rename_i hs
      cases he
      rw [hs] at vc
      exact GoodN.pure k (opd_ok ht hg hx) (by simp [VR_bool.1 vc, asBool])
    · rename_i hs
      cases he
      rw [hs] at vc
      exact GoodN.pure k (opd_ok ht hg hy) (by simp [VR_bool.1 vc, asBool])
    · simp at he
  case alloc t =>
    simp only [Option.bind_eq_bind, Option.bind_eq_some_iff, Option.pure_def, Option.some.injEq] at hc
    obtain ⟨z, hz, rfl⟩ := hc
    simp only [evOp] at he; cases he
    exact (good_alloc (P := P) k hz).next (run_v _ _)
  case box t x =>
    simp only [Option.bind_eq_bind, Option.bind_eq_some_iff, Option.pure_def, Option.some.injEq] at hc
    obtain ⟨y, hy, rfl⟩ := hc
    simp only [evOp] at he; cases he
    exact (good_box (P := P) k (opd_ok ht hg hy)).next (run_v _ _)
  case build t ps => exact (good_build k ht hg hc he).next (run_v _ _)
  case buildSlice t n ps => exact (good_buildSlice k ht hg hc he).next (run_v _ _)
  case load t x =>
    simp only [Option.bind_eq_bind, Option.bind_eq_some_iff, Option.pure_def, Option.some.injEq] at hc
    obtain ⟨n, hn, y, hy, rfl⟩ := hc
    have vy := opd_ok ht hg hy
    simp only [evOp] at he
    split at he
    · rename_i id off hs
      simp only [Option.map_eq_some_iff, Prod.mk.injEq] at he
      obtain ⟨r, hr, rfl, rfl⟩ := he
      rw [hs] at vy
      exact (good_load (P := P) k hn vy hr).next (run_v _ _)
    · simp at he
  case store t x y =>
    simp only [Option.bind_eq_bind, Option.bind_eq_some_iff, Option.pure_def, Option.some.injEq] at hc
    obtain ⟨i, hi, x', hx, y', hy, rfl⟩ := hc
    have vx := opd_ok ht hg hx
    have vy := opd_ok ht hg hy
    simp only [evOp] at he
    split at he
    · rename_i id off hs
      split at he
      · rename_i hn
        simp only [Option.map_eq_some_iff, Prod.mk.injEq] at he
        obtain ⟨h1, hst, rfl, rfl⟩ := he
        rw [hs] at vx
        obtain ⟨w', q1, q2, q3⟩ := good_store (P := P) k hi vx vy hn hst
        exact GoodN.skip q1 q2 q3 (run_u _ _)
      · simp at he
    · simp at he
  case nilCheck x =>
    simp only [Option.bind_eq_bind, Option.bind_eq_some_iff, Option.pure_def, Option.some.injEq] at hc
    obtain ⟨y, hy, rfl⟩ := hc
    have vy := opd_ok ht hg hy
    simp only [evOp] at he
    split at he
    · rename_i id off hs
      cases he
      rw [hs] at vy
      have vy' := vy
      obtain ⟨l, hl, e1⟩ := VR_ptr.1 vy
      exact GoodN.pure k vy' (by rw [e1]; rfl)
    · rename_i f a1 c1 hs
      cases he
      rw [hs] at vy
      have vy' := vy
      rw [VR] at vy
      obtain ⟨a', c', e1, _⟩ := vy
      exact GoodN.pure k vy' (by rw [e1]; rfl)
    · simp at he
  case binOp op xt x y yt =>
    simp only [Option.bind_eq_bind, Option.bind_eq_some_iff] at hc
    obtain ⟨x', hx, y', hy, hc⟩ := hc
    have := ok_bin (P := P) hB ht hg k hx hy hc he
    obtain ⟨v', w', μ', q1, q2⟩ := this
    refine ⟨v', w', μ', ?_, q2⟩
    rw [run_v]; exact q1
  case unOp op t x =>
    simp only [Option.bind_eq_bind, Option.bind_eq_some_iff, Option.pure_def, Option.some.injEq] at hc
    obtain ⟨y, hy, rfl⟩ := hc
    simp only [evOp, Option.map_eq_some_iff, Prod.mk.injEq] at he
    obtain ⟨r, hr, rfl, rfl⟩ := he
    obtain ⟨v', q1, q2⟩ := run_unary (P := P) hr (opd_ok ht hg hy) w
    exact GoodN.pure k q2 (by rw [run_v, q1]; rfl)
  case convert s d x =>
    obtain ⟨v', w', μ', q1, q2⟩ := ok_convert (P := P) hB ht hg k hc he
    exact ⟨v', w', μ', by rw [run_v]; exact q1, q2⟩
  case makeFunc fn first cap =>
    cases fn <;> simp only at hc <;> first | (simp at hc; done) | skip
    simp only [Option.bind_eq_bind, Option.bind_eq_some_iff, Option.pure_def, Option.some.injEq] at hc
    obtain ⟨x, hx, y, hy, rfl⟩ := hc
    simp only [evOp] at he; cases he
    refine GoodN.pure k (v' := .func (.func _) (first.map a.eval) (cap.map a.eval)) ?_ rfl
    rw [VR]
    exact ⟨_, _, rfl, VRs_evs_array ht hg hx, VRs_evs_array ht hg hy⟩
  case makeMap t r =>
    have hA : A = .makeMap := by
      cases r with
      | none => simp only at hc; cases hc; rfl
      | some x =>
        simp only at hc
        split at hc
        · cases hc; rfl
        · simp at hc
    have hrun : (Instr.makeMap t (r.map a.eval)).run P w = .ok (.map (some w.heap.size)) (w.alloc (.map #[] 0)) := by
      cases r with
      | none => rfl
      | some x =>
        simp only at hc
        split at hc
        · rename_i e kk n m hu
          simp [Instr.makeMap, run_underlying hu, Act.eval, asInt, asIntOf]
        · simp at hc
    subst hA
    simp only [evOp] at he; cases he
    obtain ⟨g1, g2⟩ := k.alloc (.map []) (.map #[] 0) 0 ⟨#[], 0, by show (w.heap.push _)[w.heap.size]? = _; simp, rfl, fun e he => by simp at he⟩
    refine ⟨.map (some w.heap.size), _, _, .inl ?_, ?_, g1, g2⟩
    · rw [run_v, hrun]; rfl
    · rw [VR]; exact ⟨_, Map.add_same _ _ _, rfl⟩
  case makeSlice t l c =>
    split at hc
    · rename_i e hu
      simp only [Option.bind_eq_bind, Option.bind_eq_some_iff] at hc
      obtain ⟨i, hi, z, hz, hc⟩ := hc
      split at hc
      · simp at hc
      · rename_i hcond
        simp only [Option.bind_eq_some_iff, Option.pure_def, Option.some.injEq] at hc
        obtain ⟨l', hl, c', hc', rfl⟩ := hc
        have vl := opd_ok ht hg hl
        have vc := opd_ok ht hg hc'
        simp only [evOp] at he
        split at he
        · rename_i kl ln kc cn h1 h2
          split at he
          · rename_i hb
            cases he
            rw [h1] at vl; rw [h2] at vc
            rw [VR_int.1 vl, VR_int.1 vc]
            exact (good_makeSlice (P := P) k hu hi hz (fun hh => hcond (.inl hh)) (Classical.byContradiction fun hh => hcond (.inr hh)) hb).next (run_v _ _)
          · simp at he
        · simp at he
    · simp at hc
  case slice t x lo hi mx =>
    obtain ⟨v', w', μ', q1, q2⟩ := ok_slice (P := P) hB ht hg k hc he
    exact ⟨v', w', μ', by rw [run_v]; exact q1, q2⟩
  case fieldAddr s x f =>
    split at hc
    · rename_i fs hu
      simp only [Option.bind_eq_bind, Option.bind_eq_some_iff] at hc
      obtain ⟨g, hf, j, hj, hc⟩ := hc
      split at hc
      · simp at hc
      · rename_i hs0
        simp only [Option.bind_eq_some_iff, Option.pure_def, Option.some.injEq] at hc
        obtain ⟨y, hy, rfl⟩ := hc
        have vy := opd_ok ht hg hy
        simp only [evOp] at he
        split at he
        · rename_i id off hs
          cases he
          rw [hs] at vy
          obtain ⟨l, hl, e1⟩ := VR_ptr.1 vy
          refine GoodN.pure k (VR_ptr.2 ⟨l, hl, rfl⟩) ?_
          rw [run_v, e1, run_fieldAt hu hf hj hs0, add_none, Nat.add_assoc]
          rfl
        · simp at he
    · simp at hc
  case field t x f =>
    split at hc
    · rename_i fs hu
      simp only [Option.bind_eq_bind, Option.bind_eq_some_iff, Option.pure_def, Option.some.injEq] at hc
      obtain ⟨g, hf, n, hn, y, hy, rfl⟩ := hc
      have vy := opd_ok ht hg hy
      simp only [evOp] at he
      split at he
      · rename_i cs hs
        simp only [Option.map_eq_some_iff, Prod.mk.injEq] at he
        obtain ⟨r, hr, rfl, rfl⟩ := he
        rw [hs] at vy
        obtain ⟨c, e1, hcs⟩ := VR_agg.1 vy
        obtain ⟨v', q1, q2⟩ := run_part (P := P) hn hr hcs w
        refine GoodN.pure k q2 ?_
        rw [run_v, e1]
        have : (Instr.field t (.agg c) f).run P w = .ok v' w := by
          simp only [Instr.field, Sem.run_bind, run_underlying hu, Result.andThen_ok, hf, asAgg, Sem.run_pure, q1]
        rw [this]; rfl
      · simp at he
    · simp at hc
  case indexAddr t x i =>
    obtain ⟨v', w', μ', q1, q2⟩ := ok_addr (P := P) hB ht hg k hc he
    exact ⟨v', w', μ', by rw [run_v]; exact q1, q2⟩
  case index t x i =>
    obtain ⟨v', w', μ', q1, q2⟩ := ok_index (P := P) hB ht hg k hc he
    exact ⟨v', w', μ', by rw [run_v]; exact q1, q2⟩
  case lookup t x key ok =>
    split at hc
    · rename_i kt e hu
      have fin : ∀ (kk : SK) (d : TypeDesc), P.underlying kt = some d → KindOf kk d → ∀ z ma ka, cZero P e = some z → cOpd gs x = some ma → cOpd gs key = some ka → A = .lookup kk z ma ka ok →
          GoodN V μ h w ((do pure (Next.value (← Instr.lookup t (a.eval x) (a.eval key) ok)) : Sem Next).run P w) v h' := by
        rintro kk d hd hkk z ma ka hz hm hk rfl
        simp only [evOp] at he
        split at he
        · rename_i es hes
          simp only [Option.map_eq_some_iff, Prod.mk.injEq] at he
          obtain ⟨r, hr, rfl, rfl⟩ := he
          exact (good_lookup (P := P) k hu hd hkk hz (opd_ok ht hg hm) (opd_ok ht hg hk) hes ok hr).next (run_v _ _)
        · simp at he
      split at hc
      · rename_i kx hd
        simp only [Option.bind_eq_bind, Option.bind_eq_some_iff, Option.pure_def, Option.some.injEq] at hc
        obtain ⟨z, hz, ma, hm, ka, hk, rfl⟩ := hc
        exact fin .i _ hd (.inl ⟨rfl, kx, rfl⟩) z ma ka hz hm hk rfl
      · rename_i hd
        simp only [Option.bind_eq_bind, Option.bind_eq_some_iff, Option.pure_def, Option.some.injEq] at hc
        obtain ⟨z, hz, ma, hm, ka, hk, rfl⟩ := hc
        exact fin .s _ hd (.inr ⟨rfl, rfl⟩) z ma ka hz hm hk rfl
      · simp at hc
    · simp at hc
  case mapUpdate t m key x =>
    split at hc
    · rename_i kt e hu
      have fin : ∀ (kk : SK) (d : TypeDesc), P.underlying kt = some d → KindOf kk d → ∀ ma ka va, cOpd gs m = some ma → cOpd gs key = some ka → cOpd gs x = some va → A = .mapUpdate kk ma ka va →
          GoodN V μ h w ((do Instr.mapUpdate t (a.eval m) (a.eval key) (a.eval x); pure Next.skip : Sem Next).run P w) v h' := by
        rintro kk d hd hkk ma ka va hm hk hv rfl
        have vm := opd_ok ht hg hm
        simp only [evOp] at he
        split at he
        · rename_i id hs
          split at he
          · rename_i es hgt
            simp only [Option.map_eq_some_iff, Prod.mk.injEq] at he
            obtain ⟨h1, hup, rfl, rfl⟩ := he
            rw [hs] at vm
            obtain ⟨w', q1, q2, q3⟩ := good_mapUpdate (P := P) k hu hd hkk vm (opd_ok ht hg hk) (opd_ok ht hg hv) hgt hup
            exact GoodN.skip q1 q2 q3 (run_u _ _)
          · simp at he
        · simp at he
      split at hc
      · rename_i kx hd
        simp only [Option.bind_eq_bind, Option.bind_eq_some_iff, Option.pure_def, Option.some.injEq] at hc
        obtain ⟨ma, hm, ka, hk, va, hv, rfl⟩ := hc
        exact fin .i _ hd (.inl ⟨rfl, kx, rfl⟩) ma ka va hm hk hv rfl
      · rename_i hd
        simp only [Option.bind_eq_bind, Option.bind_eq_some_iff, Option.pure_def, Option.some.injEq] at hc
        obtain ⟨ma, hm, ka, hk, va, hv, rfl⟩ := hc
        exact fin .s _ hd (.inr ⟨rfl, rfl⟩) ma ka va hm hk hv rfl
      · simp at hc
    · simp at hc
  case extract x i =>
    simp only [Option.bind_eq_bind, Option.bind_eq_some_iff, Option.pure_def, Option.some.injEq] at hc
    obtain ⟨y, hy, rfl⟩ := hc
    have vy := opd_ok ht hg hy
    simp only [evOp] at he
    split at he
    · rename_i vs hs
      simp only [Option.map_eq_some_iff, Prod.mk.injEq] at he
      obtain ⟨r, hr, rfl, rfl⟩ := he
      rw [hs] at vy; rw [VR] at vy
      obtain ⟨c, e1, hcs⟩ := vy
      obtain ⟨u, hu, q⟩ := VRs_nth hcs hr
      refine GoodN.pure k q ?_
      rw [run_v, e1]
      have : c[i]? = some u := by simpa using hu
      simp [Instr.extract, this]
    · simp at he
  case call c =>
    obtain ⟨cal, args, ats⟩ := c
    cases cal with
    | value f =>
      simp only [Option.bind_eq_bind, Option.bind_eq_some_iff, Option.pure_def, Option.some.injEq] at hc
      obtain ⟨f', hf, as, has, rfl⟩ := hc
      exact absurd rfl (hnc _ _)
    | invoke r m => simp at hc
    | builtin b =>
      have hr : (do let d ← resolve a.eval { callee := .builtin b, args, argTypes := ats } ty; invoke d.target d.args : Sem Next) = builtin b ats ty (args.map fun | .const _ => true | _ => false) (args.map a.eval) := rfl
      rw [hr]
      exact ok_builtin (P := P) hB ht hg k hc he
  all_goals (simp at hc)
end Go.Ev
