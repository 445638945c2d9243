/-
  LAYER 5: the table that the rows list, and the world in which it lies.
-/
import Derived.Test.YtaieajfgcnaedaaDoorRows
import Derived.Test.YtaieajfgcnaedaaDoorLawL
import Derived.Test.YtaieajfgcnaedaaDoorHashC
import Derived.Lib.LaidTab
set_option linter.unusedVariables false
set_option linter.unusedSimpArgs false
namespace Go.Proofs.YtaieajfgcnaedaaDoor
open Go.ChangeShapes Go.WideShapes Go.ChangeAt Go.RowKit

def kInts : List Int := [1116352408, 1899447441, 3049323471, 3921009573, 961987163, 1508970993, 2453635748, 2870763221, 3624381080, 310598401, 607225278, 1426881987, 1925078388, 2162078206, 2614888103, 3248222580, 3835390401, 4022224774, 264347078, 604807628, 770255983, 1249150122, 1555081692, 1996064986, 2554220882, 2821834349, 2952996808, 3210313671, 3336571891, 3584528711, 113926993, 338241895, 666307205, 773529912, 1294757372, 1396182291, 1695183700, 1986661051, 2177026350, 2456956037, 2730485921, 2820302411, 3259730800, 3345764771, 3516065817, 3600352804, 4094571909, 275423344, 430227734, 506948616, 659060556, 883997877, 958139571, 1322822218, 1537002063, 1747873779, 1955562222, 2024104815, 2227730452, 2361852424, 2428436474, 2756734187, 3204031479, 3329325298]
theorem kInts_eq : kTab.map uw = kInts := by decide +kernel
theorem laid_tab : (Rows.laid_trunkline_hash_k : DataW Unit) = Lib.tabData .u32 kInts := rfl
theorem tab_of_laid {W : World} (h : laidMetH Tryd.prog [("trunkline/hash.k", Rows.laid_trunkline_hash_k)] W) : Tab W := by
  have h1 : laidMet Tryd.prog (("trunkline/hash.k", Lib.tabData .u32 kInts) :: []) W := h
  have h2 := Lib.tabIs_of_head (g := 0) (t := 89) (e := 38) (n := 64) (by kernel_rfl) (by kernel_rfl) Tryd.underlying89 Tryd.underlying38 (by kernel_rfl) (by kernel_rfl) h1
  have h3 : ∀ i, i < 64 → W.cell? ⟨0, i, none⟩ = some (.int .u32 (uw (kTab.getD i 0))) := by
    intro i hi
    have h4 := h2.cell (g := 0) (by kernel_rfl) i hi
    rw [h4, ← kInts_eq]
    have hl : i < kTab.length := hi
    simp [List.getD_eq_getElem?_getD, hl]
  refine ⟨?_, h3⟩
  have := h3 0 (by omega)
  rcases Nat.lt_or_ge 0 W.heap.size with h5 | h5
  · exact h5
  · have h6 : W.heap[0]? = none := Array.getElem?_eq_none (by omega)
    simp [World.cell?, h6] at this
noncomputable def laidWorld (os : Os) : World :=
  { World.holding Tryd.prog os ⟨#[], #[], []⟩ with heap := (World.holding Tryd.prog os ⟨#[], #[], []⟩).heap.modify 0 fun
      | .cells _ t frozen => .cells (kInts.map fun z => Value.int .u32 z).toArray t frozen
      | o => o }
theorem laid_met (os : Os) (args : Array Value) : laidMetH Tryd.prog [("trunkline/hash.k", Rows.laid_trunkline_hash_k)] ((laidWorld os).forCall (fun _ _ => 0) ⟨#[], args, []⟩).memory :=
  (laidMet_of_run' 8 (by kernel_rfl) (by kernel_rfl) : laidMet Tryd.prog [("trunkline/hash.k", Rows.laid_trunkline_hash_k)] ((laidWorld os).forCall (fun _ _ => 0) ⟨#[], args, []⟩).memory)
theorem Tryd.own : ownKnob Tryd.prog.godebug = none := by kernel_rfl
theorem Tryd.laidOut : laidOutB Tryd.prog = true := by kernel_rfl
end Go.Proofs.YtaieajfgcnaedaaDoor
