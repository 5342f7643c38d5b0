/- The stand-in disk's calls where the disk is the caller's own; no condition but on the texts' lengths and the counts. -/
import Derived.Test.YtdgjglocgdccbaaDkRestW
namespace Go.Proofs.Ytdgjglocgdccbaa
open Go.RowKit

/-- a disk of the caller's own: made behind W0 -/
def Da (W0 w : World) (db : Nat) (p : Pl) : Prop := ∃ x, x.db = db ∧ Dk W0.heap.size w x ∧ Of x p ∧ Kp NoB W0 w ∧ ∀ b, x.O b → W0.heap.size ≤ b
theorem Da.keep {W0 w w' : World} {db : Nat} {p : Pl} (h : Da W0 w db p) (k : Kp NoB w w') : Da W0 w' db p := by
  obtain ⟨x, e, hd, hp, hk, ho⟩ := h
  exact ⟨x, e, hd.keep k (fun _ _ q => q) (fun _ _ _ q => q), hp, hk.trans k (fun _ _ q => q), ho⟩
theorem Da.kp {W0 w : World} {db : Nat} {p : Pl} (h : Da W0 w db p) : Kp NoB W0 w := by
  obtain ⟨x, e, hd, hp, hk, ho⟩ := h
  exact hk
theorem da_of {W0 w w' : World} {x : Dd} {p' : Pl} (hk : Kp NoB W0 w) (ho : ∀ b, x.O b → W0.heap.size ≤ b) (h : To W0.heap.size w x p' w') : Da W0 w' x.db p' := by
  obtain ⟨x', hd, hp, e, k, o⟩ := h
  refine ⟨x', e, hd, hp, hk.trans k (fun i hi q => ?_), fun b hb => ?_⟩
  · have := ho i q
    omega
  · rcases o b hb with q | q
    · exact ho b q
    · exact Nat.le_trans hk.size q
theorem new_d (W0 w : World) (r : Int) (hr : -9223372036854775808 ≤ r ∧ r ≤ 9223372036854775807) (hk : Kp NoB W0 w) :
    Calls Try.prog 9 #[.int .i64 r] w fun e w' => ∃ db, e = .returned (ptrV db) ∧ Da W0 w' db (Pl.new r) :=
  (new_ok w r hr W0.heap.size hk.size).mono fun e w' ⟨db, mb, he, hd, k, h1, h2⟩ => ⟨db, he, _, rfl, hd, ⟨rfl, rfl, rfl, rfl, Nat.le_refl _, rfl, rfl, rfl, rfl, rfl, rfl⟩, hk.trans k (fun _ _ q => q), by
    have := hk.size
    rintro b (rfl | rfl | q | ⟨e, he, rfl⟩)
    · exact Nat.le_trans this h1
    · exact Nat.le_trans this h2
    · cases q
    · cases he⟩
section
variable {W0 w : World} {db : Nat} {p : Pl}
theorem write_d (h : Da W0 w db p) (s : ByteArray) (a : Int) (d : ByteArray) (hs : s.size ≤ maxLen) (hds : d.size ≤ maxLen) (hm : p.nf < 1099511627776 - 10) (hpd : p.pd.length < 1099511627776 - 20000) :
    Calls Try.prog 11 #[ptrV db, .string s, .int .i64 a, .string d] w fun e w' => e = .returned (.int .i64 (p.writeE s a (strI d))) ∧ Da W0 w' db (p.write s a (strI d)) := by
  obtain ⟨x, rfl, hd, hp, hk, ho⟩ := h
  exact (write_ok w _ x p s a d hd hp hs hds hk.size hm hpd).mono fun e w' ⟨he, ht⟩ => ⟨he, da_of hk ho ht⟩
theorem trunc_d (h : Da W0 w db p) (s : ByteArray) (n : Int) (hn : -9223372036854775808 ≤ n ∧ n ≤ 9223372036854775807) (hs : s.size ≤ maxLen) (hm : p.nf < 1099511627776 - 10) (hpd : p.pd.length < 1099511627776 - 20000) :
    Calls Try.prog 25 #[ptrV db, .string s, .int .i64 n] w fun e w' => e = .returned (.int .i64 (p.truncE s n)) ∧ Da W0 w' db (p.trunc s n) := by
  obtain ⟨x, rfl, hd, hp, hk, ho⟩ := h
  exact (trunc_ok w _ x p s n hn hd hp hs hk.size hm hpd).mono fun e w' ⟨he, ht⟩ => ⟨he, da_of hk ho ht⟩
theorem sync_d (h : Da W0 w db p) (s : ByteArray) (hs : s.size ≤ maxLen) (hm : p.nf < 1099511627776 - 10) (hpd : p.pd.length < 1099511627776 - 20000) :
    Calls Try.prog 14 #[ptrV db, .string s] w fun e w' => e = .returned (.int .i64 p.syncE) ∧ Da W0 w' db (p.sync s) := by
  obtain ⟨x, rfl, hd, hp, hk, ho⟩ := h
  exact (sync_ok w _ x p s hd hp hs hk.size hm hpd).mono fun e w' ⟨he, ht⟩ => ⟨he, da_of hk ho ht⟩
theorem read_d (h : Da W0 w db p) (s : ByteArray) (a n : Int) (hs : s.size ≤ maxLen) (ha : -9223372036854775808 ≤ a ∧ a ≤ 9223372036854775807) (hn : -9223372036854775808 ≤ n ∧ n ≤ 9223372036854775807) :
    Calls Try.prog 13 #[ptrV db, .string s, .int .i64 a, .int .i64 n] w fun e w' => e = .returned (.tuple #[.string (strOf (p.read s a n)), .int .i64 (p.readE a n)]) ∧ Da W0 w' db p := by
  have h' := h
  obtain ⟨x, rfl, hd, hp, hk, ho⟩ := h
  exact (read_ok w _ x p s a n ha hn hd hp hs).mono fun e w' ⟨he, k⟩ => ⟨he, h'.keep k⟩
theorem len_d (h : Da W0 w db p) (s : ByteArray) (hs : s.size ≤ maxLen) : Calls Try.prog 15 #[ptrV db, .string s] w fun e w' => e = .returned (.int .i64 (p.len s)) ∧ w = w' := by
  obtain ⟨x, rfl, hd, hp, hk, ho⟩ := h
  exact len_ok w _ x p s hd hp hs
theorem down_d (h : Da W0 w db p) : Calls Try.prog 12 #[ptrV db] w fun e w' => e = .returned (.bool p.down) ∧ w = w' := by
  obtain ⟨x, rfl, hd, hp, hk, ho⟩ := h
  exact down_ok w _ x p hd hp
theorem steps_d (h : Da W0 w db p) : Calls Try.prog 27 #[ptrV db] w fun e w' => e = .returned (.int .i64 p.steps) ∧ w = w' := by
  obtain ⟨x, rfl, hd, hp, hk, ho⟩ := h
  exact steps_ok w _ x p hd hp
theorem starts_d (h : Da W0 w db p) : Calls Try.prog 28 #[ptrV db] w fun e w' => e = .returned (.int .i64 p.starts) ∧ w = w' := by
  obtain ⟨x, rfl, hd, hp, hk, ho⟩ := h
  exact starts_ok w _ x p hd hp
theorem pending_d (h : Da W0 w db p) : Calls Try.prog 18 #[ptrV db] w fun e w' => e = .returned (.int .i64 (p.pd.length : Nat)) ∧ w = w' := by
  obtain ⟨x, rfl, hd, hp, hk, ho⟩ := h
  exact pending_ok w _ x p hd hp
theorem setroom_d (h : Da W0 w db p) (n : Int) (hn : -9223372036854775808 ≤ n ∧ n ≤ 9223372036854775807) : Calls Try.prog 24 #[ptrV db, .int .i64 n] w fun e w' => e = .returned (.tuple #[]) ∧ Da W0 w' db (p.setRoom n) := by
  obtain ⟨x, rfl, hd, hp, hk, ho⟩ := h
  exact (setroom_ok w _ x p n hn hd hp).mono fun e w' ⟨he, ht⟩ => ⟨he, da_of hk ho ht⟩
theorem crashin_d (h : Da W0 w db p) (n : Int) (hn : -9223372036854775808 ≤ n ∧ n ≤ 9223372036854775807) : Calls Try.prog 10 #[ptrV db, .int .i64 n] w fun e w' => e = .returned (.tuple #[]) ∧ Da W0 w' db (p.crashIn n) := by
  obtain ⟨x, rfl, hd, hp, hk, ho⟩ := h
  exact (crashin_ok w _ x p n hn hd hp).mono fun e w' ⟨he, ht⟩ => ⟨he, da_of hk ho ht⟩
theorem crash_d (h : Da W0 w db p) : Calls Try.prog 20 #[ptrV db] w fun e w' => e = .returned (.tuple #[]) ∧ Da W0 w' db p.crashNow := by
  obtain ⟨x, rfl, hd, hp, hk, ho⟩ := h
  exact (crash_ok w _ x p hd hp).mono fun e w' ⟨he, ht⟩ => ⟨he, da_of hk ho ht⟩
theorem restart_d (h : Da W0 w db p) (A : Option Addr) (n cap : Nat) (chs : List Int) (hc : Nums w A n chs) (hA : ∀ g o, A = some ⟨g, o, none⟩ → 0 < n → g < W0.heap.size) (hch : ∀ y ∈ chs, -9223372036854775808 ≤ y ∧ y ≤ 9223372036854775807)
    (hn63 : n ≤ 9223372036854775807) (hm : p.nf + p.pd.length < 1099511627776 - 10) :
    Calls Try.prog 16 #[ptrV db, .slice A n cap] w fun e w' => e = .returned (.int .i64 p.restartE) ∧ Da W0 w' db (p.restart chs) := by
  obtain ⟨x, rfl, hd, hp, hk, ho⟩ := h
  exact (restart_ok w _ x p A n cap chs hd hp hc (fun g o e hp q => by have := hA g o e hp; have := ho g q; omega) hch hn63 hm hk.size).mono fun e w' ⟨he, ht⟩ => ⟨he, da_of hk ho ht⟩
end
theorem Nums.nil (w : World) : Nums w none 0 [] := ⟨rfl, fun h => absurd h (by omega)⟩
/-! ### the answers that every law asks at its end -/
def nmF : ByteArray := ⟨#[102]⟩
def awX : ByteArray := ⟨#[120, 120, 120, 120, 120, 120, 120, 120, 120, 120]⟩
def awY : ByteArray := ⟨#[121, 121]⟩
noncomputable def aw1 : Pl := (Pl.new 100).write nmF 60 (strI awX)
noncomputable def aw2 : Pl := aw1.write nmF 99 (strI awY)
theorem awE : (Pl.new 100).writeE nmF 60 (strI awX) = 0 ∧ strOf (aw1.read nmF 58 4) = ⟨#[0, 0, 120, 120]⟩ ∧ aw1.readE 58 4 = 0 ∧ aw1.writeE nmF 99 (strI awY) = 5 ∧ aw2.len nmF = 70 ∧ aw2.pd.length = 3 ∧ aw2.steps = 1 ∧ aw1.nf = 2 ∧ aw1.pd.length = 3 ∧ (Pl.new 100).nf = 0 ∧ (Pl.new 100).pd.length = 0 := by
  refine ⟨?_, ?_, ?_, ?_, ?_, ?_, ?_, ?_, ?_, ?_, ?_⟩ <;> kernel_rfl
end Go.Proofs.Ytdgjglocgdccbaa
