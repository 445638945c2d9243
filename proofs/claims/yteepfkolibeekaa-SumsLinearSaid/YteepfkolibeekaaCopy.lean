/-
  'copy(v[off:], src)' into the call's own row. It speaks of no program.
-/
import Derived.Test.YteepfkolibeekaaApp2
import Derived.Laws.CopyOwn
set_option linter.unusedVariables false
set_option linter.unusedSimpArgs false
namespace Go.Proofs.Yteepfkolibeekaa
open Go.RowKit

theorem splice_map (k : IntKind) (xs ys : List Int) (off : Nat) : (splice xs off ys).map (Value.int k) = splice (xs.map (Value.int k)) off (ys.map (Value.int k)) := by
  simp [splice, List.map_take, List.map_drop]
theorem wp_cp {P : Program} {w : World} {o : Oper} {a : Act} {K : Act → World → Prop} {Q : Exit → Act → World → Prop} (d s : Operand) (t e : TypeId) (k : IntKind) (bytes : Nat) (hE : Elem P t e k bytes)
    (ho : o.op = .call { callee := .builtin .copy, args := #[d, s], argTypes := #[t, t] }) (base g n c off dl dc : Nat) (xs : List Int) (hd : a.eval d = .slice (some ⟨g, off, none⟩) dl dc)
    (hown : Own w base e k (.slice (some ⟨g, 0, none⟩) n c) xs) (A : Option Addr) (m c2 : Nat) (ys : List Int) (hs : a.eval s = .slice A m c2) (hm : ys.length = m) (hR : Rd w k A ys) (hdl : dl = m) (hfit : off + m ≤ n) (hpos : 0 < m)
    (h : ∀ w', Own w' base e k (.slice (some ⟨g, 0, none⟩) n c) (splice xs off ys) → w.grownBy w' (some g) → K (a.put o.dst (goInt m)) w') : o.wp P a w K Q := by
  obtain ⟨ht, i, hi, hz, hsize, hby⟩ := hE
  subst hm hdl
  have hn := hown.len
  subst hn
  obtain ⟨b, o', rfl, _, _⟩ := hR.at_ 0 hpos
  rcases hown.2 with ⟨h', _⟩ | ⟨g', cap', cur, h', hbg, hh, h1, h2, h3, h4⟩
  · simp at h'
  · simp only [Value.slice.injEq, Option.some.injEq, Addr.mk.injEq, and_true, true_and] at h'
    obtain ⟨rfl, rfl⟩ := h'
    have hsrc : ∀ j v, (ys.map (Value.int k))[j]? = some v → w.cell? ((⟨b, o', none⟩ : Addr).add j) = some v := by
      intro j v hj
      rcases Nat.lt_or_ge j ys.length with hlt | hge
      · rw [WideShapes.add_plain, hR.cell j hlt]
        simp [List.getElem?_map, List.getElem?_eq_getElem hlt] at hj
        rw [← hj]; simp [List.getD_eq_getElem?_getD, hlt]
      · simp [List.getElem?_eq_none hge] at hj
    have hone : ∀ v ∈ ys.map (Value.int k), v.oneCell' = true := by
      intro u hu
      obtain ⟨y, _, rfl⟩ := List.mem_map.1 hu
      rfl
    have hrun := run_copy_row (P := P) w t t o.type e g off ys.length dc ⟨b, o', none⟩ ys.length c2 cur e (ys.map (Value.int k)) ht (by rw [hi]; simp [hsize]) hh (by simp) hsrc (by simp; omega) hone
    unfold Oper.wp
    simp [execOp, ho, resolve, invoke, builtin, hd, hs, hrun, Result.andThen]
    refine h _ ?_ ?_
    · refine ⟨by simp [splice], .inr ⟨g, c, _, by simp [splice]; omega, hbg, setRow_heap w g _ _ e _ hh, by simp [splice]; omega, h2, by simp; omega, ?_⟩⟩
      have hcl : cur.toList.length = c := by rw [Array.length_toList]; omega
      have h4' : cur.toList.take xs.length = xs.map (Value.int k) := by simpa using h4
      have hT : xs.map (Value.int k) ++ cur.toList.drop xs.length = cur.toList := by rw [← h4']; exact List.take_append_drop _ _
      rw [splice_map]
      have hlen : (splice xs off ys).length * 1 = xs.length := by simp [splice]; omega
      rw [hlen, ← hT]
      unfold splice
      rw [List.length_map]
      have e1 : (xs.map (Value.int k) ++ cur.toList.drop xs.length).take off = (xs.map (Value.int k)).take off := List.take_append_of_le_length (by simp; omega)
      have e2 : (xs.map (Value.int k) ++ cur.toList.drop xs.length).drop (off + ys.length) = (xs.map (Value.int k)).drop (off + ys.length) ++ cur.toList.drop xs.length := List.drop_append_of_le_length (by simp; omega)
      rw [e1, e2]
      show List.take xs.length (List.take off (xs.map (Value.int k)) ++ (ys.map (Value.int k) ++ (List.drop (off + ys.length) (xs.map (Value.int k)) ++ cur.toList.drop xs.length))) = _
      rw [← List.append_assoc (ys.map (Value.int k)), ← List.append_assoc]
      exact List.take_left' (by simp; omega)
    · exact ⟨rfl, rfl, rfl, by simp [World.setRow], fun q hq hne => setRow_other w g q _ (fun e => hne (by rw [e]))⟩
theorem wpList_cp {P : Program} {w : World} {ops : Array Oper} {rest : List Oper} {o : Oper} {a : Act} {Q : Exit → Act → World → Prop} (hw : Region.wanted o (yielded ops a.tmps) = true) (d s : Operand) (t e : TypeId) (k : IntKind) (bytes : Nat) (hE : Elem P t e k bytes)
    (ho : o.op = .call { callee := .builtin .copy, args := #[d, s], argTypes := #[t, t] }) (base g n c off dl dc : Nat) (xs : List Int) (hd : a.eval d = .slice (some ⟨g, off, none⟩) dl dc)
    (hown : Own w base e k (.slice (some ⟨g, 0, none⟩) n c) xs) (A : Option Addr) (m c2 : Nat) (ys : List Int) (hs : a.eval s = .slice A m c2) (hm : ys.length = m) (hR : Rd w k A ys) (hdl : dl = m) (hfit : off + m ≤ n) (hpos : 0 < m)
    (h : ∀ w', Own w' base e k (.slice (some ⟨g, 0, none⟩) n c) (splice xs off ys) → w.grownBy w' (some g) → wpList P ops Q rest (a.put o.dst (goInt m)) w') : wpList P ops Q (o :: rest) a w :=
  BigFrame.wpList_want hw fun _ hK => wp_cp d s t e k bytes hE ho base g n c off dl dc xs hd hown A m c2 ys hs hm hR hdl hfit hpos fun w' h1 h2 => hK _ _ (h w' h1 h2)
end Go.Proofs.Yteepfkolibeekaa
