/- Slices of texts in memory; no condition. -/
import Derived.Test.YtdgjglocgdccbaaLib
namespace Go.Proofs.Ytdgjglocgdccbaa
open Go.RowKit

/-- a slice of strings in memory -/
def Sl (w : World) (A : Option Addr) (n : Nat) (xs : List ByteArray) : Prop :=
  xs.length = n ∧ (0 < n → ∃ g o, A = some ⟨g, o, none⟩ ∧ g < w.heap.size ∧ ∀ k, k < n → w.cell? ⟨g, o + k, none⟩ = some (.string (xs.getD k ByteArray.empty)))
theorem Sl.keep {w w' : World} {A : Option Addr} {n : Nat} {xs : List ByteArray} (h : Sl w A n xs) (k : Kp NoB w w') : Sl w' A n xs :=
  ⟨h.1, fun hn => by
    obtain ⟨g, o, e, hg, hc⟩ := h.2 hn
    exact ⟨g, o, e, Nat.lt_of_lt_of_le hg k.size, fun j hj => (k.cell hg (fun q => q)).trans (hc j hj)⟩⟩
end Go.Proofs.Ytdgjglocgdccbaa
