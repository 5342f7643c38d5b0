/- The reference's PutVarint: a number in its bytes; no condition. -/
import Derived.Test.YtlcefenjlchaiaaDoorRcPut
namespace Go.Proofs.YtlcefenjlchaiaaDoor
open Go.RowKit
attribute [local go_sem ↓] conv64

theorem strOf_cons (x : Int) (l : List Int) : strOf [x] ++ strOf l = strOf (x :: l) := by
  unfold strOf
  simp [ByteArray.ext_iff]
theorem new_by (w : World) (t : TypeId) (x : Int) : byAt (w.alloc (.cells #[.int .u8 x] t)) w.heap.size 0 1 ∧ byRd (w.alloc (.cells #[.int .u8 x] t)) w.heap.size 0 1 = [x] := by
  have h := (Blk.new w t (bytesV [x]))
  have h1 := h.byAt 0 1 (by simp)
  have h2 := h.byRd 0 1 (by simp)
  simp only [bytesV, List.map_cons, List.map_nil] at h1 h2
  exact ⟨h1, by simpa using h2⟩

end Go.Proofs.YtlcefenjlchaiaaDoor
