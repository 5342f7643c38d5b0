/- The reference's Varint: the number with which a text begins; no condition. -/
import Derived.Test.YtlcefenjlchaiaaDoorRcVar
namespace Go.Proofs.YtlcefenjlchaiaaDoor
open Go.RowKit

def rvarR (q : Option (Nat × Nat)) : Value := match q with
  | none => .tuple #[.int .u64 0, .int .i64 0]
  | some (u, n) => .tuple #[.int .u64 u, .int .i64 n]
theorem intL_nats (s : ByteArray) : intL (natsOf s) = strI s := by
  unfold intL natsOf strI
  rw [List.map_map]
  rfl
theorem strOf_strI (s : ByteArray) : strOf (strI s) = s := by
  unfold strOf strI
  simp [List.map_map, ByteArray.ext_iff, Function.comp_def]
/-- the bytes that were read are the number's bytes just if they are as many -/
theorem put_eq (s : ByteArray) (u n : Nat) (h : scanV 0 0 (natsOf s) = some (u, n)) : (putV u = s.extract 0 n ↔ (putL u).length = n) := by
  obtain ⟨_, _, _, h4, h5⟩ := scan_iff (natsOf s) (u, n) (natsOf_lt s) h
  rw [natsOf_len] at h4
  constructor
  · intro e
    have := congrArg ByteArray.size e
    rw [putV_size] at this
    simp at this
    omega
  · intro e
    have h6 := h5 e
    unfold putV
    simp only at h6
    rw [h6]
    have e2 : s.extract 0 n = strOf (strI (s.extract 0 n)) := (strOf_strI _).symm
    rw [e2]
    congr 1
    rw [← intL_nats]
    congr 1
    unfold natsOf
    simp
theorem str_ne {a b : ByteArray} (h : ¬ a = b) : (a.toList == b.toList) = false := by
  rw [beq_eq_false_iff_ne]
  intro e
  rw [ByteArray.toList_eq, ByteArray.toList_eq] at e
  exact h (ByteArray.ext (Array.ext' e))
end Go.Proofs.YtlcefenjlchaiaaDoor
