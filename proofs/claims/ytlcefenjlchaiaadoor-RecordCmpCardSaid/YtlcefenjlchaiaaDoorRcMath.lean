/- Numbers as rows of bytes: what a varint is, in plain lists; no condition. -/
import Derived.Test.YtlcefenjlchaiaaDoorRev
namespace Go.Proofs.YtlcefenjlchaiaaDoor
open Go.RowKit

def tl7 : Nat → Nat → List Int
  | 0, _ => []
  | f + 1, v => if v = 0 then [] else ((v % 128 + 128 : Nat) : Int) :: tl7 f (v / 128)
def tl8 : Nat → Nat → List Int
  | 0, _ => []
  | n + 1, v => ((v % 128 + 128 : Nat) : Int) :: tl8 n (v / 128)
def big56 : Nat := 72057594037927936
/-- a number's bytes, the last one first -/
def putL (u : Nat) : List Int := if u < big56 then ((u % 128 : Nat) : Int) :: tl7 10 (u / 128) else ((u % 256 : Nat) : Int) :: tl8 8 (u / 256)
def putV (u : Nat) : ByteArray := strOf (putL u).reverse
theorem tl7_len : ∀ (f v : Nat), (tl7 f v).length ≤ f
  | 0, _ => by simp [tl7]
  | f + 1, v => by
    unfold tl7
    split
    · simp
    · have := tl7_len f (v / 128)
      simp
      omega
theorem tl8_len : ∀ (n v : Nat), (tl8 n v).length = n
  | 0, _ => rfl
  | n + 1, v => by simp [tl8, tl8_len n]
theorem putL_len (u : Nat) : 1 ≤ (putL u).length ∧ (putL u).length ≤ 11 := by
  unfold putL
  split
  · have := tl7_len 10 (u / 128)
    simp
    omega
  · simp [tl8_len]
theorem tl7_rng : ∀ (f v : Nat), ∀ x ∈ tl7 f v, 128 ≤ x ∧ x < 256
  | 0, _ => by simp [tl7]
  | f + 1, v => by
    unfold tl7
    split
    · simp
    · intro x hx
      rcases List.mem_cons.1 hx with rfl | hx
      · omega
      · exact tl7_rng f _ x hx
theorem tl8_rng : ∀ (f v : Nat), ∀ x ∈ tl8 f v, 128 ≤ x ∧ x < 256
  | 0, _ => by simp [tl8]
  | f + 1, v => by
    unfold tl8
    intro x hx
    rcases List.mem_cons.1 hx with rfl | hx
    · omega
    · exact tl8_rng f _ x hx
theorem putL_rng (u : Nat) : ∀ x ∈ putL u, 0 ≤ x ∧ x < 256 := by
  unfold putL
  split
  · intro x hx
    rcases List.mem_cons.1 hx with rfl | hx
    · omega
    · have := tl7_rng _ _ x hx
      omega
  · intro x hx
    rcases List.mem_cons.1 hx with rfl | hx
    · omega
    · have := tl8_rng _ _ x hx
      omega
theorem or128 (x : Int) (h0 : 0 ≤ x) (h1 : x < 256) : bits BinOp.or IntKind.u8 x 128 = x % 128 + 128 := by
  have H : ∀ n : Fin 256, bits BinOp.or IntKind.u8 (n.val : Int) 128 = (n.val : Int) % 128 + 128 := by decide +kernel
  obtain ⟨n, rfl⟩ := Int.eq_ofNat_of_zero_le h0
  exact H ⟨n, by omega⟩
theorem and127 (x : Int) (h0 : 0 ≤ x) (h1 : x < 256) : bits BinOp.and IntKind.u8 x 127 = x % 128 := by
  have H : ∀ n : Fin 256, bits BinOp.and IntKind.u8 (n.val : Int) 127 = (n.val : Int) % 128 := by decide +kernel
  obtain ⟨n, rfl⟩ := Int.eq_ofNat_of_zero_le h0
  exact H ⟨n, by omega⟩
theorem infoB : (Tryd.prog.info? 5).map (fun i => (i.zero, i.size, i.bytes)) = some (some (.int .u8 0), 1, 1) := by kernel_rfl
section
variable {w w' : World} {base n cap g : Nat} {e t : TypeId} {A : Option Addr} {l : List Int} {ds : List Value}
theorem own_Blk {f : Int → Value} (h : w.ownsRow base e 1 (.slice A n cap) n (l.map f)) (hn : 0 < n) : ∃ g ds, A = some ⟨g, 0, none⟩ ∧ base ≤ g ∧ Blk w g e (l.map f ++ ds).toArray := by
  rcases h.2 with ⟨h0, _⟩ | ⟨g, cap', cur, hv, hb, hh, h1, h2, h3, h4⟩
  · cases h0; omega
  · simp only [Value.slice.injEq] at hv
    refine ⟨g, cur.toList.drop n, hv.1, hb, ?_⟩
    unfold Blk
    rw [hh]
    congr 2
    rw [Nat.mul_one] at h4
    rw [← h4, List.take_append_drop]
theorem byAt_pre (h : Blk w g t (l.map (Value.int .u8) ++ ds).toArray) (hn : l.length = n) : byAt w g 0 n := fun j hj => by
  refine ⟨l.getD j 0, ?_⟩
  rw [h.cell, Nat.zero_add]
  exact bytes_get l ds j (by omega)
theorem byRd_pre (h : Blk w g t (l.map (Value.int .u8) ++ ds).toArray) (hn : l.length = n) : byRd w g 0 n = l := by
  unfold byRd
  apply List.ext_getElem
  · simp [hn]
  · intro j h1 h2
    simp only [List.getElem_map, List.getElem_range]
    rw [h.cell, Nat.zero_add, bytes_get l ds j h2]
    simp [numOf, h2]
end
end Go.Proofs.YtlcefenjlchaiaaDoor
