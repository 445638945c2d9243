/-
  'string(b)' of bytes that can be read. It speaks of no program.
-/
import Derived.Test.YtebfoigbiekeiaaApp2
import Derived.Laws.BytesArg
set_option linter.unusedVariables false
set_option linter.unusedSimpArgs false
namespace Go.Proofs.Ytebfoigbiekeiaa
open Go.RowKit

theorem conv_str {P : Program} {w : World} {src dst e : TypeId} (hs : P.underlying src = some (.slice e)) (he : P.underlying e = some (.int .u8)) (hd : P.underlying dst = some .string) {A : Option Addr} {xs : List Int} (n c : Nat) (hn : xs.length = n) (hR : Rd w .u8 A xs) :
    Sem.run P (convert src dst (.slice A n c)) w = .ok (.string (strOfNums xs)) w := by
  subst hn
  cases A with
  | none =>
    have hx : xs = [] := by
      cases xs with
      | nil => rfl
      | cons x xs => obtain ⟨b, o, e, _⟩ := hR.at_ 0 (by simp); cases e
    subst hx
    exact run_convert_bytes_nil w src e hs he 0 c dst hd
  | some ad =>
    rcases Nat.eq_zero_or_pos xs.length with h0 | hp
    · have hx : xs = [] := List.length_eq_zero_iff.1 h0
      subst hx
      rw [run_convert_bytes_string w src dst e _ _ c hs he hd, run_bytesToString w _ _ c [] (by simp [loadCells, loadCellsFrom])]
      rfl
    · obtain ⟨b, o, e1, _⟩ := hR.form 0 hp
      injection e1 with e1
      subst e1
      exact run_convert_bytes_arg w src e hs he b o xs.length c xs rfl (fun i hi => hR.cell i hi) dst hd
theorem byte_inj {x y : Int} (hx : 0 ≤ x ∧ x < 256) (hy : 0 ≤ y ∧ y < 256) (h : UInt8.ofNat x.toNat = UInt8.ofNat y.toNat) : x = y := by
  have := congrArg UInt8.toNat h
  simp at this
  omega
theorem str_inj {xs ys : List Int} (hx : Bytes xs) (hy : Bytes ys) (h : strOfNums xs = strOfNums ys) : xs = ys := by
  have h1 : xs.map (fun n => UInt8.ofNat n.toNat) = ys.map (fun n => UInt8.ofNat n.toNat) := by
    rw [← strOfNums_data xs, ← strOfNums_data ys, h]
  have hl : xs.length = ys.length := by simpa using congrArg List.length h1
  apply List.ext_getElem hl
  intro i h2 h3
  have h4 := congrArg (fun l => l[i]?) h1
  simp [h2, h3] at h4
  exact byte_inj (hx _ (List.getElem_mem h2)) (hy _ (List.getElem_mem h3)) (by simpa using h4)
end Go.Proofs.Ytebfoigbiekeiaa
