/- The reference's Encode: a row's record, or the error; condition: at most 4000 values. -/
import Derived.Test.YtlcefenjlchaiaaDoorRcEnc
namespace Go.Proofs.YtlcefenjlchaiaaDoor
open Go.RowKit

theorem rrmay_at (w : World) (v : RV) (h : v.ok) : Calls Tryd.prog 28 #[.agg #[.int .i64 v.k, .int .i64 v.i, .string v.s]] w fun e w' => e = .returned (.bool v.may) ∧ Kp NoB w w' := rmay_ok w v.k v.i v.s h.sz
end Go.Proofs.YtlcefenjlchaiaaDoor
