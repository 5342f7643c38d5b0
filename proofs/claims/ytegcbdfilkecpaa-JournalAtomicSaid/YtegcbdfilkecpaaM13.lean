/- Texts of this proof, one behind the other: lemmas and contracts; each says its own conditions. -/
import Derived.Test.YtegcbdfilkecpaaM12
/- The journal: a sealed head that is torn says what it said, or what was written; plain Lean. -/
namespace Go.Proofs.Ytegcbdfilkecpaa

def mixL (n : Nat) (W B : List Int) : List Int := W.take n ++ B.drop n
theorem mix_zero (W B : List Int) : mixL 0 W B = B := rfl
theorem mix_all {n : Nat} {W B : List Int} (hW : W.length ≤ n) (hB : B.length ≤ n) : mixL n W B = W := by
  unfold mixL
  rw [List.take_of_length_le hW, List.drop_of_length_le hB, List.append_nil]
theorem mix_self (n : Nat) (W : List Int) : mixL n W W = W := List.take_append_drop n W
theorem mix_len {n : Nat} {W B : List Int} (h : W.length = B.length) : (mixL n W B).length = B.length := by
  unfold mixL
  rw [List.length_append, List.length_take, List.length_drop, h]
  omega
theorem mix_get {n : Nat} {W B : List Int} (h : W.length = B.length) (i : Nat) : (mixL n W B)[i]? = if i < n then W[i]? else B[i]? := by
  unfold mixL
  by_cases hi : i < n
  · rw [if_pos hi]
    by_cases hw : i < W.length
    · rw [List.getElem?_append_left (by rw [List.length_take]; omega), List.getElem?_take_of_lt hi]
    · rw [List.getElem?_append_right (by rw [List.length_take]; omega), List.getElem?_drop, List.getElem?_eq_none (by first | omega | (rw [List.length_take]; omega)), List.getElem?_eq_none (by first | omega | (rw [List.length_take]; omega))]
  · rw [if_neg hi]
    by_cases hw : n ≤ W.length
    · rw [List.getElem?_append_right (by rw [List.length_take]; omega), List.getElem?_drop, List.length_take, show n + (i - min n W.length) = i by omega]
    · rw [List.getElem?_append_right (by rw [List.length_take]; omega), List.getElem?_drop, List.getElem?_eq_none (by rw [List.length_take]; omega), List.getElem?_eq_none (by omega)]
theorem mix_mix {n m : Nat} {W B : List Int} (h : W.length = B.length) : mixL n W (mixL m W B) = mixL (max n m) W B := by
  refine List.ext_getElem? (fun i => ?_)
  rw [mix_get (by rw [mix_len h, h]), mix_get h, mix_get h]
  by_cases h1 : i < n
  · rw [if_pos h1, if_pos (by omega)]
  · by_cases h2 : i < m
    · rw [if_neg h1, if_pos h2, if_pos (by omega)]
    · rw [if_neg h1, if_neg h2, if_neg (by omega)]
/-- two torn halves that are alike -/
theorem mix_alike {n m : Nat} {W V : List Int} (h : W.length = V.length) (e : mixL n W V = mixL m V W) : mixL m V W = V ∨ mixL m V W = W := by
  have hi : ∀ i, (if i < n then W[i]? else V[i]?) = if i < m then V[i]? else W[i]? := fun i => by
    rw [← mix_get h i, ← mix_get h.symm i, e]
  by_cases hnm : n ≤ m
  · left
    refine List.ext_getElem? (fun i => ?_)
    rw [mix_get h.symm]
    by_cases h1 : i < m
    · rw [if_pos h1]
    · have := hi i
      rw [if_neg (by omega), if_neg h1] at this
      rw [if_neg h1, this]
  · right
    refine List.ext_getElem? (fun i => ?_)
    rw [mix_get h.symm]
    by_cases h1 : i < m
    · have := hi i
      rw [if_pos (by omega), if_pos h1] at this
      rw [if_pos h1, this]
    · rw [if_neg h1]
/-- a journal by the copies of its head -/
def Parts (J B0 B1 B2 : List Int) : Prop := ∃ T, J = B0 ++ (B1 ++ (B2 ++ T)) ∧ B0.length = 16 ∧ B1.length = 16 ∧ B2.length = 16 ∧ 16 ≤ T.length
theorem parts_of {J : List Int} (h : 64 ≤ J.length) : Parts J (J.take 16) ((J.drop 16).take 16) ((J.drop 32).take 16) := by
  refine ⟨J.drop 48, ?_, by simp; omega, by simp; omega, by simp; omega, by simp; omega⟩
  have e3 : J.drop 32 = (J.drop 32).take 16 ++ J.drop 48 := by
    conv => lhs; rw [← List.take_append_drop 16 (J.drop 32)]
    rw [List.drop_drop]
  have e2 : J.drop 16 = (J.drop 16).take 16 ++ J.drop 32 := by
    conv => lhs; rw [← List.take_append_drop 16 (J.drop 16)]
    rw [List.drop_drop]
  rw [← e3, ← e2, List.take_append_drop]
theorem parts_len {J B0 B1 B2 : List Int} (h : Parts J B0 B1 B2) : 64 ≤ J.length := by
  obtain ⟨T, rfl, h0, h1, h2, hT⟩ := h
  simp only [List.length_append]
  omega
theorem parts_eq {J B0 B1 B2 : List Int} (h : Parts J B0 B1 B2) : J.take 16 = B0 ∧ (J.drop 16).take 16 = B1 ∧ (J.drop 32).take 16 = B2 := by
  obtain ⟨T, rfl, h0, h1, h2, hT⟩ := h
  have d16 : (B0 ++ (B1 ++ (B2 ++ T))).drop 16 = B1 ++ (B2 ++ T) := by rw [← h0, List.drop_left]
  have d32 : (B0 ++ (B1 ++ (B2 ++ T))).drop 32 = B2 ++ T := by
    rw [show (32 : Nat) = 16 + 16 from rfl, ← List.drop_drop, d16, ← h1, List.drop_left]
  rw [d16, d32]
  exact ⟨List.take_left' h0, List.take_left' h1, List.take_left' h2⟩
/-- a part of a sealed head written over it -/
theorem parts_put {J B0 B1 B2 : List Int} (h : Parts J B0 B1 B2) (w : W4) (n : Nat) (hn : n ≤ 64) : Parts (Pl.put J 0 ((sealB w).take n)) (mixL n w.bytes B0) (mixL (n - 16) w.bytes B1) (mixL (n - 32) w.bytes B2) := by
  have hJ := parts_len h
  obtain ⟨T, rfl, h0, h1, h2, hT⟩ := h
  have hw := bytes_len w
  have hz : (zeros 16).length = 16 := List.length_replicate ..
  refine ⟨(zeros 16).take (n - 48) ++ T.drop (n - 48), ?_, by rw [mix_len (by omega), h0], by rw [mix_len (by omega), h1], by rw [mix_len (by omega), h2], by rw [List.length_append, List.length_take, List.length_drop]; omega⟩
  have hs : sealB w = w.bytes ++ (w.bytes ++ (w.bytes ++ zeros 16)) := by unfold sealB; simp only [List.append_assoc]
  have hl : ((sealB w).take n).length = n := by rw [List.length_take, seal_len]; omega
  unfold Pl.put
  rw [hl, List.take_zero, List.nil_append, Nat.zero_add, hs]
  unfold mixL
  rw [List.take_append, List.take_append, List.take_append, List.drop_append, List.drop_append, List.drop_append, hw, h0, h1, h2]
  rw [show n - 16 - 16 = n - 32 by omega, show n - 32 - 16 = n - 48 by omega]
  by_cases c1 : n ≤ 16
  · rw [show n - 16 = 0 by omega, show n - 32 = 0 by omega, show n - 48 = 0 by omega]
    simp
  · rw [List.drop_of_length_le (show B0.length ≤ n by omega)]
    by_cases c2 : n ≤ 32
    · rw [show n - 32 = 0 by omega, show n - 48 = 0 by omega]
      simp
    · rw [List.drop_of_length_le (show B1.length ≤ n - 16 by omega)]
      by_cases c3 : n ≤ 48
      · rw [show n - 48 = 0 by omega]
        simp
      · rw [List.drop_of_length_le (show B2.length ≤ n - 32 by omega)]
        simp
/-- a head that says w, and goes on saying it when w is written over it in part -/
def HSp (B0 B1 B2 : List Int) (w : W4) : Prop := (B0 = w.bytes ∧ B1 = w.bytes) ∨ (B2 = w.bytes ∧ ∀ n, mixL n w.bytes B0 = B1 → B1 = w.bytes)
def HS (J : List Int) (w : W4) : Prop := ∃ B0 B1 B2, Parts J B0 B1 B2 ∧ HSp B0 B1 B2 w
/-- a head sealed whole -/
def HW (J : List Int) (w : W4) : Prop := ∃ t, J = sealB w ++ t
theorem hw_parts {J : List Int} {w : W4} (h : HW J w) : Parts J w.bytes w.bytes w.bytes := by
  obtain ⟨t, rfl⟩ := h
  refine ⟨zeros 16 ++ t, by unfold sealB; simp only [List.append_assoc], rfl, rfl, rfl, ?_⟩
  rw [List.length_append]
  simp [zeros]
theorem hw_hs {J : List Int} {w : W4} (h : HW J w) : HS J w := ⟨_, _, _, hw_parts h, .inl ⟨rfl, rfl⟩⟩
theorem hs_len {J : List Int} {w : W4} (h : HS J w) : 64 ≤ J.length := by
  obtain ⟨_, _, _, hp, _⟩ := h
  exact parts_len hp
theorem hs_same {J : List Int} {w : W4} (h : HS J w) (n : Nat) (hn : n ≤ 64) : HS (Pl.put J 0 ((sealB w).take n)) w := by
  obtain ⟨B0, B1, B2, hp, hh⟩ := h
  refine ⟨_, _, _, parts_put hp w n hn, ?_⟩
  obtain ⟨T, _, h0, h1, h2, hT⟩ := hp
  have hw := bytes_len w
  rcases hh with ⟨rfl, rfl⟩ | ⟨rfl, hx⟩
  · exact .inl ⟨mix_self _ _, mix_self _ _⟩
  · by_cases c1 : n ≤ 16
    · refine .inr ⟨by rw [show n - 32 = 0 by omega, mix_zero], fun m hm => ?_⟩
      rw [show n - 16 = 0 by omega, mix_zero] at hm ⊢
      rw [mix_mix (by omega)] at hm
      exact hx _ hm
    · refine .inr ⟨mix_self _ _, fun m hm => ?_⟩
      rw [mix_all (n := n) (by omega) (by omega), mix_self] at hm
      exact hm.symm
theorem hs_other {J : List Int} {w : W4} (h : HW J w) (v : W4) (n : Nat) (hn : n ≤ 64) : HS (Pl.put J 0 ((sealB v).take n)) w ∨ HS (Pl.put J 0 ((sealB v).take n)) v := by
  have hp := parts_put (hw_parts h) v n hn
  have hw := bytes_len w
  have hv := bytes_len v
  by_cases c1 : n ≤ 16
  · left
    refine ⟨_, _, _, hp, .inr ⟨by rw [show n - 32 = 0 by omega, mix_zero], fun m _ => by rw [show n - 16 = 0 by omega, mix_zero]⟩⟩
  · have e0 : mixL n v.bytes w.bytes = v.bytes := mix_all (by omega) (by omega)
    by_cases c2 : n ≤ 32
    · by_cases q : mixL (n - 16) v.bytes w.bytes = v.bytes
      · right
        exact ⟨_, _, _, hp, .inl ⟨e0, q⟩⟩
      · left
        refine ⟨_, _, _, hp, .inr ⟨by rw [show n - 32 = 0 by omega, mix_zero], fun m hm => ?_⟩⟩
        rw [e0] at hm
        rcases mix_alike (by omega) hm with z | z
        · exact absurd z q
        · exact z
    · right
      exact ⟨_, _, _, hp, .inl ⟨e0, mix_all (by omega) (by omega)⟩⟩
theorem hs_says {J : List Int} {w : W4} (h : HS J w) (hw : W4Ok w) : says J = w := by
  have h64 := hs_len h
  obtain ⟨B0, B1, B2, hp, hh⟩ := h
  obtain ⟨e0, e1, e2⟩ := parts_eq hp
  obtain ⟨T, rfl, h0, h1, h2, hT⟩ := hp
  have hJ64 : (B0 ++ (B1 ++ (B2 ++ T))).take 64 = B0 ++ (B1 ++ (B2 ++ T.take 16)) := by
    rw [List.take_append, List.take_append, List.take_append, h0, h1, h2, List.take_of_length_le (by omega), List.take_of_length_le (by omega), List.take_of_length_le (by omega)]
  unfold says
  rw [if_neg (by omega), hJ64]
  unfold openB
  have d16 : (B0 ++ (B1 ++ (B2 ++ T.take 16))).drop 16 = B1 ++ (B2 ++ T.take 16) := by rw [← h0, List.drop_left]
  rw [d16, List.take_left' h0, List.take_left' h1]
  have hA : B0 = w.bytes → wordsAt (B0 ++ (B1 ++ (B2 ++ T.take 16))) 0 = w := fun q => by
    rw [q]
    exact wordsAt_bytes w hw [] _
  have hB : B2 = w.bytes → wordsAt (B0 ++ (B1 ++ (B2 ++ T.take 16))) 32 = w := fun q => by
    rw [q]
    have := wordsAt_bytes w hw (B0 ++ B1) (T.take 16)
    rw [List.length_append, h0, h1, List.append_assoc] at this
    exact this
  rcases hh with ⟨q0, q1⟩ | ⟨q2, hx⟩
  · rw [if_pos (q0.trans q1.symm)]
    exact hA q0
  · by_cases c : B0 = B1
    · rw [if_pos c]
      exact hA (c.trans (hx 0 (by rw [mix_zero]; exact c)))
    · rw [if_neg c]
      exact hB q2
end Go.Proofs.Ytegcbdfilkecpaa
/- The journal: a disk that crashes and is started again: contracts; the way back in plain Lean. -/
namespace Go.Proofs.Ytegcbdfilkecpaa
open Go.RowKit

section
variable {S : Nat → Prop} {W0 w w' : World} {db : Nat} {p p' : Pl}
theorem down_q (h : Dq S W0 w db p) : Calls Try.prog 23 #[ptrV db] w fun e w' => e = .returned (.bool p.down) ∧ w = w' := by
  obtain ⟨x, rfl, hd, hp, hk, ho, hz⟩ := h
  exact down_ok w _ x p hd hp
theorem crashin_q (h : Dq S W0 w db p) (n : Int) (hn : -9223372036854775808 ≤ n ∧ n ≤ 9223372036854775807) : Calls Try.prog 22 #[ptrV db, .int .i64 n] w fun e w' => e = .returned (.tuple #[]) ∧ Dq S W0 w' db (p.crashIn n) := by
  obtain ⟨x, rfl, hd, hp, hk, ho, hz⟩ := h
  exact (crashin_ok w 0 x p n hn hd hp).mono fun e w' ⟨he, ht⟩ => ⟨he, dq_of (n0 := 0) rfl hk ho hz ht⟩
theorem crash_q (h : Dq S W0 w db p) : Calls Try.prog 24 #[ptrV db] w fun e w' => e = .returned (.tuple #[]) ∧ Dq S W0 w' db p.crashNow := by
  obtain ⟨x, rfl, hd, hp, hk, ho, hz⟩ := h
  exact (crash_ok w 0 x p hd hp).mono fun e w' ⟨he, ht⟩ => ⟨he, dq_of (n0 := 0) rfl hk ho hz ht⟩
theorem restart_q (h : Dq S W0 w db p) (A : Option Addr) (n cap : Nat) (chs : List Int) (hc : Nums w A n chs) (hA : ∀ g o, A = some ⟨g, o, none⟩ → 0 < n → g < W0.heap.size ∧ ¬ S g) (hch : ∀ y ∈ chs, -9223372036854775808 ≤ y ∧ y ≤ 9223372036854775807)
    (hn63 : n ≤ 9223372036854775807) (hm : p.sm 20) :
    Calls Try.prog 47 #[ptrV db, .slice A n cap] w fun e w' => e = .returned (.int .i64 p.restartE) ∧ Dq S W0 w' db (p.restart chs) := by
  obtain ⟨x, rfl, hd, hp, hk, ho, hz⟩ := h
  unfold Pl.sm at hm
  exact (restart_ok w 0 x p A n cap chs hd hp hc (fun g o e hpos q => by have h1 := hA g o e hpos; rcases ho g q with z | z; exact h1.2 z; omega) hch hn63 (by omega) (Nat.zero_le _)).mono fun e w' ⟨he, ht⟩ => ⟨he, dq_of (n0 := 0) rfl hk ho hz ht⟩
theorem recover_q0 (h : Dq S W0 w db p) (hm : p.sm 90000000) :
    Calls Try.prog 12 #[ptrV db] w fun e w' => e = .returned (.tuple #[.bool p.jrecover.2.1, .int .i64 p.jrecover.2.2]) ∧ Dq S W0 w' db p.jrecover.1 := by
  obtain ⟨S', hq, hS⟩ := h.base
  refine (recover_q hq hm).mono ?_
  rintro e w' hb
  exact ⟨hb.1, Dq.tr (w0 := W0) hb.2 h.kp hS h.lt⟩
end
namespace Pl
/-- the way back: ways of crashing, one behind the other -/
def jup (p : Pl) (chs : List Int) : Pl := if p.down then p.restart chs else p
def jways : Pl → List (Int × List Int) → Pl × Bool
  | p, [] => ((p.jup []).jrecover.1, decide ((p.jup []).jrecover.2.2 = 0) && !(p.jup []).jrecover.1.jhot)
  | p, x :: r => if ((p.jup x.2).crashIn x.1).jrecover.2.2 ≠ 0 ∧ ((p.jup x.2).crashIn x.1).jrecover.2.2 ≠ 7 then (((p.jup x.2).crashIn x.1).jrecover.1, false) else jways (((p.jup x.2).crashIn x.1).jrecover.1.crashIn 0) r
end Pl
/-- ways of crashing of the caller -/
def Wys (w : World) (A : Option Addr) (n : Nat) (L : List (Int × List Int)) : Prop := L.length = n ∧ ∀ k x, L[k]? = some x → (-9223372036854775808 ≤ x.1 ∧ x.1 ≤ 9223372036854775807) ∧ (∀ y ∈ x.2, -9223372036854775808 ≤ y ∧ y ≤ 9223372036854775807) ∧
  ∃ (g o : Nat) (Ab : Option Addr) (nb cb : Nat), A = some ⟨g, o, none⟩ ∧ g < w.heap.size ∧ w.cell? ⟨g, o + k * 2, none⟩ = some (.int .i64 x.1) ∧ w.cell? ⟨g, o + k * 2 + 1, none⟩ = some (.slice Ab nb cb) ∧ Nums w Ab nb x.2 ∧ nb ≤ 9223372036854775807
end Go.Proofs.Ytegcbdfilkecpaa
/- The journal in plain Lean on a disk that may crash: what each step makes of it; small files, room enough. -/
namespace Go.Proofs.Ytegcbdfilkecpaa

/-- how long a file may grow -/
def capOf (s : ByteArray) : Nat := if s = nmDb then 4000 else 5000
/-- a disk that is up, with the two files alone, small -/
structure Lv (p : Pl) : Prop where
  up : p.down = false
  cr : 0 ≤ p.crash
  room : p.room = 100000
  two : p.sum = (p.seen nmDb).length + (p.seen nmJn).length
  ktwo : p.ksum = (p.kept nmDb).length + (p.kept nmJn).length
  len : ∀ s, (p.seen s).length ≤ capOf s
  klen : ∀ s, (p.kept s).length ≤ capOf s
theorem cap_le (s : ByteArray) : capOf s ≤ 5000 := by unfold capOf; split <;> omega
theorem fits_lv {p : Pl} (h : Lv p) (s : ByteArray) (n : Nat) (hn : n ≤ 5000) : p.fits s n = 0 := by
  unfold Pl.fits
  have h1 := h.len nmDb
  have h2 := h.len nmJn
  have := cap_le nmDb
  have := cap_le nmJn
  rw [if_neg (by omega), if_neg ?_]
  rintro ⟨q1, q2⟩
  have e : wrp ((n : Int) - (p.seen s).length + p.sum) = (n : Int) - (p.seen s).length + p.sum := by
    rw [h.two]
    unfold wrp
    rw [IntKind.wrap_i64]
    omega
  rw [e, h.room, h.two] at q2
  omega
/-- what a write leaves pending -/
def pendW (l : List Int) (s : ByteArray) (a : Nat) (d : List Int) : List Cg := (if l.length < a + d.length then [⟨s, -1, ((a + d.length : Nat) : Int), []⟩] else []) ++ Pl.sectors s (wrL l a d) a (a + d.length)
/-- one step behind p: what it leaves -/
structure Stepd (p q : Pl) (E : Int) (sn : ByteArray → List Int) (pd : List Cg) : Prop where
  e : E = if p.crash = 1 then 7 else 0
  down : q.down = decide (p.crash = 1)
  cr : 0 ≤ q.crash
  room : q.room = p.room
  two : q.sum = (q.seen nmDb).length + (q.seen nmJn).length
  kept : q.kept = p.kept
  ksum : q.ksum = p.ksum
  seen : q.seen = sn
  pd : q.pd = pd
theorem step_of {p q : Pl} (hq : q.crash = p.crash) (hc : 0 ≤ p.crash) (hd : q.down = false) (hr : q.room = p.room) (ht : q.sum = (q.seen nmDb).length + (q.seen nmJn).length) (hk : q.kept = p.kept) (hks : q.ksum = p.ksum) : Stepd p q.step q.stepE q.seen q.pd := by
  refine ⟨?_, ?_, ?_, hr, ht, hk, hks, rfl, rfl⟩
  · unfold Pl.stepE; rw [hq]
  · show (if q.crash = 1 then true else q.down) = _
    rw [hq, hd]
    by_cases c : p.crash = 1 <;> simp [c]
  · show 0 ≤ (if 0 < q.crash then q.crash - 1 else q.crash)
    rw [hq]
    split <;> omega
theorem lv_write {p : Pl} (h : Lv p) (s : ByteArray) (hs : s = nmDb ∨ s = nmJn) (a : Nat) (d : List Int) (hd : d ≠ []) (hb : a + d.length ≤ capOf s) :
    Stepd p (p.write s a d) (p.writeE s a d) (upd p.seen s (wrL (p.seen s) a d)) (p.pd ++ pendW (p.seen s) s a d) := by
  have hcap := cap_le s
  have hl := h.len s
  have hf : p.fits s (max ((a : Int) + d.length) (p.seen s).length) = 0 := by
    have := fits_lv h s (max (a + d.length) (p.seen s).length) (by omega)
    rw [show ((max (a + d.length) (p.seen s).length : Nat) : Int) = max ((a : Int) + d.length) (p.seen s).length by omega] at this
    exact this
  unfold Pl.writeE Pl.write
  rw [h.up]
  simp only [Bool.false_eq_true, if_false, false_or]
  rw [if_neg (show ¬ (a : Int) < 0 by omega), if_neg (show ¬ (1048576 < (a : Int) ∨ 1048576 - (a : Int) < d.length) by omega), if_neg hd, if_neg (show ¬ ((a : Int) < 0 ∨ 1048576 < (a : Int) ∨ 1048576 - (a : Int) < d.length) by omega), if_neg hd, hf]
  simp only [ne_eq, not_true_eq_false, if_false]
  unfold Pl.write1
  rw [Int.toNat_natCast]
  dsimp only
  split
  · rename_i hlt
    have hL : (p.length s (a + d.length)) = ((p.at_.setSeen s (sizedF (p.seen s) (a + d.length))).pend [⟨s, -1, ((a + d.length : Nat) : Int), []⟩]) := by
      unfold Pl.length
      rw [if_neg (by omega)]
    rw [hL]
    have hse : ((p.at_.setSeen s (sizedF (p.seen s) (a + d.length))).pend [⟨s, -1, ((a + d.length : Nat) : Int), []⟩]).seen s = sizedF (p.seen s) (a + d.length) := upd_same _ _ _
    rw [hse]
    have hw : Pl.put (sizedF (p.seen s) (a + d.length)) a d = wrL (p.seen s) a d := by unfold wrL; rw [if_pos hlt]
    rw [hw]
    have hup : upd (upd p.seen s (sizedF (p.seen s) (a + d.length))) s (wrL (p.seen s) a d) = upd p.seen s (wrL (p.seen s) a d) := upd_upd _ _ _ _
    have hst := step_of (p := p) (q := ((((p.at_.setSeen s (sizedF (p.seen s) (a + d.length))).pend [⟨s, -1, ((a + d.length : Nat) : Int), []⟩]).at_.setSeen s (wrL (p.seen s) a d)).pend (Pl.sectors s (wrL (p.seen s) a d) a (a + d.length)))) rfl h.cr h.up rfl (by
      show p.sum - ((p.seen s).length : Int) + ((sizedF (p.seen s) (a + d.length)).length : Int) - (((upd p.seen s (sizedF (p.seen s) (a + d.length))) s).length : Int) + ((wrL (p.seen s) a d).length : Int) = ((upd (upd p.seen s (sizedF (p.seen s) (a + d.length))) s (wrL (p.seen s) a d) nmDb).length : Int) + (upd (upd p.seen s (sizedF (p.seen s) (a + d.length))) s (wrL (p.seen s) a d) nmJn).length
      exact two_upd hs (wrL (p.seen s) a d) (two_upd hs (sizedF (p.seen s) (a + d.length)) h.two)) rfl rfl
    have e1 : ((((p.at_.setSeen s (sizedF (p.seen s) (a + d.length))).pend [⟨s, -1, ((a + d.length : Nat) : Int), []⟩]).at_.setSeen s (wrL (p.seen s) a d)).pend (Pl.sectors s (wrL (p.seen s) a d) a (a + d.length))).seen = upd p.seen s (wrL (p.seen s) a d) := hup
    have e2 : ((((p.at_.setSeen s (sizedF (p.seen s) (a + d.length))).pend [⟨s, -1, ((a + d.length : Nat) : Int), []⟩]).at_.setSeen s (wrL (p.seen s) a d)).pend (Pl.sectors s (wrL (p.seen s) a d) a (a + d.length))).pd = p.pd ++ pendW (p.seen s) s a d := by
      unfold pendW
      rw [if_pos hlt]
      show (p.pd ++ [_]) ++ _ = _
      rw [List.append_assoc]
    rw [e1, e2] at hst
    exact hst
  · rename_i hlt
    have hw : Pl.put (p.seen s) a d = wrL (p.seen s) a d := by unfold wrL; rw [if_neg hlt]
    rw [hw]
    have hst := step_of (p := p) (q := ((p.at_.setSeen s (wrL (p.seen s) a d)).pend (Pl.sectors s (wrL (p.seen s) a d) a (a + d.length)))) rfl h.cr h.up rfl (by
      show p.sum - ((p.seen s).length : Int) + ((wrL (p.seen s) a d).length : Int) = ((upd p.seen s (wrL (p.seen s) a d) nmDb).length : Int) + (upd p.seen s (wrL (p.seen s) a d) nmJn).length
      exact two_upd hs (wrL (p.seen s) a d) h.two) rfl rfl
    have e2 : ((p.at_.setSeen s (wrL (p.seen s) a d)).pend (Pl.sectors s (wrL (p.seen s) a d) a (a + d.length))).pd = p.pd ++ pendW (p.seen s) s a d := by
      unfold pendW
      rw [if_neg hlt, List.nil_append]
      rfl
    rw [e2] at hst
    exact hst
/-- what a truncation leaves pending -/
def pendT (l : List Int) (s : ByteArray) (n : Nat) : List Cg := if n = l.length then [] else [⟨s, -1, (n : Int), []⟩]
theorem lv_trunc {p : Pl} (h : Lv p) (s : ByteArray) (hs : s = nmDb ∨ s = nmJn) (n : Nat) (hn : n ≤ capOf s) :
    Stepd p (p.trunc s n) (p.truncE s n) (upd p.seen s (sizedF (p.seen s) n)) (p.pd ++ pendT (p.seen s) s n) := by
  have hf := fits_lv h s n (by have := cap_le s; omega)
  unfold Pl.truncE Pl.trunc
  rw [h.up, hf]
  simp only [Bool.false_eq_true, if_false, false_or, ne_eq, not_true_eq_false, or_false]
  rw [if_neg (by omega), if_neg (by omega), Int.toNat_natCast]
  unfold Pl.length pendT
  split
  · rename_i e
    have ht : upd p.seen s (sizedF (p.seen s) n) = p.seen := by rw [e, sizedF_self, upd_self]
    rw [ht, List.append_nil]
    exact step_of (p := p) (q := p.at_) rfl h.cr h.up rfl h.two rfl rfl
  · exact step_of (p := p) (q := (p.at_.setSeen s (sizedF (p.seen s) n)).pend [⟨s, -1, (n : Int), []⟩]) rfl h.cr h.up rfl (two_upd hs (sizedF (p.seen s) n) h.two) rfl rfl
/-- a sync that is done -/
structure Synced (p q : Pl) (s : ByteArray) : Prop where
  down : q.down = false
  cr : 0 ≤ q.crash
  room : q.room = p.room
  two : q.sum = (q.seen nmDb).length + (q.seen nmJn).length
  kept : q.kept = upd p.kept s (p.seen s)
  ktwo : q.ksum = (q.kept nmDb).length + (q.kept nmJn).length
  seen : q.seen = p.seen
  pd : q.pd = p.pd.filter fun c => !decide (c.nm = s)
theorem lv_sync {p : Pl} (h : Lv p) (s : ByteArray) (hs : s = nmDb ∨ s = nmJn) :
    (p.crash = 1 ∧ Stepd p (p.sync s) p.syncE p.seen p.pd) ∨ (p.crash ≠ 1 ∧ p.syncE = 0 ∧ Synced p (p.sync s) s) := by
  unfold Pl.syncE Pl.sync
  rw [h.up]
  simp only [Bool.false_eq_true, if_false]
  by_cases c : p.crash = 1
  · left
    have e : p.stepE = 7 := by unfold Pl.stepE; rw [if_pos c]
    rw [if_pos (by rw [e]; decide)]
    exact ⟨c, step_of rfl h.cr h.up rfl h.two rfl rfl⟩
  · right
    have e : p.stepE = 0 := by unfold Pl.stepE; rw [if_neg c]
    rw [if_neg (by rw [e]; decide)]
    refine ⟨c, e, ?_, ?_, rfl, h.two, rfl, two_upd hs (p.seen s) h.ktwo, rfl, rfl⟩
    · show (if p.crash = 1 then true else p.down) = false
      rw [if_neg c, h.up]
    · show 0 ≤ (if 0 < p.crash then p.crash - 1 else p.crash)
      have := h.cr
      split <;> omega
/-! ### what may become of a file -/
inductive Out : List Int → List Cg → List Int → Prop
  | nil (k : List Int) : Out k [] k
  | cons {k r : List Int} {c : Cg} {cs : List Cg} (ch : Int) : Out (Pl.made k c ch) cs r → Out k (c :: cs) r
theorem made_zero (k : List Int) (c : Cg) : Pl.made k c 0 = k := by unfold Pl.made; rw [if_pos (Int.le_refl 0)]
theorem out_stay : ∀ (cs : List Cg) (k : List Int), Out k cs k
  | [], k => .nil k
  | c :: cs, k => .cons 0 (by rw [made_zero]; exact out_stay cs k)
theorem survive_kept (s : ByteArray) : ∀ (cs : List Cg) (chs : List Int) (p : Pl), Out (p.kept s) (cs.filter fun c => decide (c.nm = s)) ((p.survive cs chs).kept s)
  | [], chs, p => by unfold Pl.survive; exact .nil _
  | c :: cs, [], p => by unfold Pl.survive; exact out_stay _ _
  | c :: cs, ch :: r, p => by
    unfold Pl.survive
    have ih := survive_kept s cs r (p.at_.setKept c.nm (Pl.made (p.kept c.nm) c ch))
    by_cases e : c.nm = s
    · rw [List.filter_cons, if_pos (by simpa using e)]
      refine .cons ch ?_
      have hk : (p.at_.setKept c.nm (Pl.made (p.kept c.nm) c ch)).kept s = Pl.made (p.kept s) c ch := by
        show upd p.kept c.nm (Pl.made (p.kept c.nm) c ch) s = _
        rw [e, upd_same]
      rwa [hk] at ih
    · rw [List.filter_cons, if_neg (by simpa using e)]
      have hk : (p.at_.setKept c.nm (Pl.made (p.kept c.nm) c ch)).kept s = p.kept s := upd_other _ _ (fun q => e q.symm)
      rwa [hk] at ih
/-- an invariant of a file's kept bytes, that every change keeps -/
theorem out_inv {I : List Int → Prop} : ∀ {cs : List Cg} {k r : List Int}, Out k cs r → I k → (∀ c ∈ cs, ∀ k ch, I k → I (Pl.made k c ch)) → I r
  | [], k, r, h, hk, _ => by cases h; exact hk
  | c :: cs, k, r, h, hk, hi => by
    cases h with
    | cons ch h2 => exact out_inv h2 (hi c (List.mem_cons_self ..) k ch hk) (fun c2 hc => hi c2 (List.mem_cons_of_mem _ hc))
end Go.Proofs.Ytegcbdfilkecpaa
/- The journal in plain Lean: a disk started again; what keeps a head, a body, a database. -/
namespace Go.Proofs.Ytegcbdfilkecpaa

/-- the changes are of the two files -/
def TwoNm (l : List Cg) : Prop := ∀ c ∈ l, c.nm = nmDb ∨ c.nm = nmJn
theorem survive_two : ∀ (cs : List Cg) (chs : List Int) (p : Pl), TwoNm cs → p.ksum = (p.kept nmDb).length + (p.kept nmJn).length → (p.survive cs chs).ksum = ((p.survive cs chs).kept nmDb).length + ((p.survive cs chs).kept nmJn).length
  | [], chs, p, _, h => by unfold Pl.survive; exact h
  | c :: cs, [], p, _, h => by unfold Pl.survive; exact h
  | c :: cs, ch :: r, p, hn, h => by
    unfold Pl.survive
    refine survive_two cs r _ (fun x hx => hn x (List.mem_cons_of_mem _ hx)) ?_
    exact two_upd (hn c (List.mem_cons_self ..)) (Pl.made (p.kept c.nm) c ch) h
theorem survive_room : ∀ (cs : List Cg) (chs : List Int) (p : Pl), (p.survive cs chs).room = p.room
  | [], chs, p => by unfold Pl.survive; rfl
  | c :: cs, [], p => by unfold Pl.survive; rfl
  | c :: cs, ch :: r, p => by
    unfold Pl.survive
    rw [survive_room cs r]
    rfl
/-- a disk started again -/
structure Again (p q : Pl) : Prop where
  down : q.down = false
  cr : q.crash = 0
  room : q.room = p.room
  kept : q.kept = q.seen
  two : q.sum = (q.seen nmDb).length + (q.seen nmJn).length
  ktwo : q.ksum = (q.kept nmDb).length + (q.kept nmJn).length
  pd : q.pd = []
  out : ∀ s, Out (p.kept s) (p.pd.filter fun c => decide (c.nm = s)) (q.seen s)
theorem restart_again {p : Pl} (hd : p.down = true) (hn : TwoNm p.pd) (hk : p.ksum = (p.kept nmDb).length + (p.kept nmJn).length) (chs : List Int) : Again p (p.restart chs) := by
  unfold Pl.restart
  rw [hd]
  have h2 := survive_two p.pd chs p hn hk
  exact ⟨rfl, rfl, survive_room p.pd chs p, rfl, h2, h2, rfl, fun s => survive_kept s p.pd chs p⟩
/-! ### heads -/
theorem hs_ext {J J' : List Int} {w : W4} (h : HS J w) (e : J'.take 64 = J.take 64) : HS J' w := by
  have hl := hs_len h
  have hl' : 64 ≤ J'.length := by
    have := congrArg List.length e
    rw [List.length_take, List.length_take] at this
    omega
  obtain ⟨B0, B1, B2, hp, hh⟩ := h
  obtain ⟨e0, e1, e2⟩ := parts_eq hp
  have hp' := parts_of hl'
  have t : ∀ a, a + 16 ≤ 64 → (J'.drop a).take 16 = (J.drop a).take 16 := fun a ha => by
    have h1 : ∀ X : List Int, (X.drop a).take 16 = ((X.take 64).drop a).take 16 := fun X => by
      rw [List.drop_take, List.take_take, Nat.min_eq_left (by omega)]
    rw [h1 J', h1 J, e]
  have t0 : J'.take 16 = J.take 16 := t 0 (by omega)
  rw [t0, t 16 (by omega), t 32 (by omega), e0, e1, e2] at hp'
  exact ⟨B0, B1, B2, hp', hh⟩
theorem hw_zero {n : Nat} (hn : 64 ≤ n) : HW (zeros n) ⟨0, 0, 0, 0⟩ := by
  refine ⟨zeros (n - 64), ?_⟩
  have e : sealB ⟨0, 0, 0, 0⟩ = zeros 64 := by decide
  rw [e]
  unfold zeros
  rw [List.replicate_append_replicate, show 64 + (n - 64) = n by omega]
theorem sizedF_take {l : List Int} {n k : Nat} (hk : k ≤ n) (hl : k ≤ l.length) : (sizedF l n).take k = l.take k := by
  unfold sizedF
  split
  · rw [List.take_take, Nat.min_eq_left hk]
  · rw [List.take_append_of_le_length hl]
theorem put_take {l d : List Int} {a k : Nat} (hk : k ≤ a) : (Pl.put l a d).take k = l.take k ∨ l.length < a := by
  by_cases h : a ≤ l.length
  · left
    unfold Pl.put
    rw [List.append_assoc, List.take_append_of_le_length (by rw [List.length_take]; omega), List.take_take, Nat.min_eq_left hk]
  · exact .inr (by omega)
/-- how many bytes a choice lets by -/
theorem cut_le (ch : Int) : (if 1 < ch then (1 + (ch - 2) % 63).toNat else 64) ≤ 64 := by split <;> omega
theorem made_len_le {k : List Int} {c : Cg} {ch : Int} {B : Nat} (hB : k.length ≤ B) (hc : c.sec < 0 → c.n.toNat ≤ B) : (Pl.made k c ch).length ≤ B := by
  unfold Pl.made
  split
  · exact hB
  · split
    · rename_i h
      rw [sizedF_len]
      exact hc h
    · unfold Pl.put
      simp only [List.length_append, List.length_take, List.length_drop]
      omega
/-- a cold or hot head, or none yet -/
def Hd (J : List Int) (w : W4) : Prop := (J = [] ∧ w = ⟨0, 0, 0, 0⟩) ∨ HS J w
/-- a change of the journal that keeps its head -/
def JnC (w : W4) (c : Cg) : Prop := (c.sec < 0 → 64 ≤ c.n) ∧ (c.sec = 0 → c.s = sealB w)
theorem hd_made {J : List Int} {w : W4} {c : Cg} (hc : JnC w c) (ch : Int) (h : Hd J w) : Hd (Pl.made J c ch) w := by
  unfold Pl.made
  split
  · exact h
  · split
    · rename_i hs
      have hn := hc.1 hs
      right
      rcases h with ⟨rfl, rfl⟩ | h
      · have e : sizedF [] c.n.toNat = zeros c.n.toNat := by unfold sizedF; rw [if_neg (by simp; omega)]; simp [zeros]
        rw [e]
        exact hw_hs (hw_zero (by omega))
      · exact hs_ext h (sizedF_take (by omega) (hs_len h))
    · rename_i hs
      by_cases h0 : c.sec = 0
      · rw [hc.2 h0, h0]
        have hle := cut_le ch
        generalize (if 1 < ch then (1 + (ch - 2) % 63).toNat else 64) = n at hle ⊢
        rcases h with ⟨rfl, rfl⟩ | h
        · left
          exact ⟨by simp [Pl.put], rfl⟩
        · right
          have := hs_len h
          rw [show (0 : Int).toNat * 64 = 0 from rfl, Nat.sub_zero, List.take_take, Nat.min_eq_right (by omega)]
          exact hs_same h n hle
      · rcases h with ⟨rfl, rfl⟩ | h
        · left
          exact ⟨by simp [Pl.put], rfl⟩
        · right
          have hl := hs_len h
          refine hs_ext h ?_
          generalize hd : ((c.s.take (if 1 < ch then (1 + (ch - 2) % 63).toNat else 64)).take (J.length - c.sec.toNat * 64)) = d
          rcases put_take (l := J) (d := d) (a := c.sec.toNat * 64) (k := 64) (by omega) with e | e
          · exact e
          · have : d = [] := by rw [← hd, show J.length - c.sec.toNat * 64 = 0 by omega, List.take_zero]
            rw [this]
            unfold Pl.put
            rw [List.append_nil, List.length_nil, Nat.add_zero, List.take_append_drop]
end Go.Proofs.Ytegcbdfilkecpaa
/- The journal in plain Lean: bytes of a file that stay, whatever becomes of the changes. -/
namespace Go.Proofs.Ytegcbdfilkecpaa

/-- bytes of o that are in D still -/
def Fix (P : Nat → Prop) (o D : List Int) : Prop := ∀ i, P i → i < o.length → D[i]? = o[i]?
theorem Fix.lt {P : Nat → Prop} {o D : List Int} (h : Fix P o D) {i : Nat} (hp : P i) (hi : i < o.length) : i < D.length := by
  have := h i hp hi
  rw [List.getElem?_eq_getElem hi] at this
  exact (List.getElem?_eq_some_iff.1 this).1
theorem get_sized {l : List Int} {n i : Nat} (h1 : i < l.length) (h2 : i < n) : (sizedF l n)[i]? = l[i]? := by
  unfold sizedF
  split
  · rw [List.getElem?_take_of_lt h2]
  · rw [List.getElem?_append_left h1]
theorem get_put {l d : List Int} {a i : Nat} (ha : a + d.length ≤ l.length) : (Pl.put l a d)[i]? = if a ≤ i ∧ i < a + d.length then d[i - a]? else l[i]? := by
  unfold Pl.put
  have ht : (l.take a).length = a := by rw [List.length_take]; omega
  by_cases h1 : i < a
  · rw [if_neg (by omega), List.append_assoc, List.getElem?_append_left (by rw [ht]; exact h1), List.getElem?_take_of_lt h1]
  · by_cases h2 : i < a + d.length
    · rw [if_pos ⟨by omega, h2⟩, List.append_assoc, List.getElem?_append_right (by rw [ht]; omega), ht, List.getElem?_append_left (by omega)]
    · rw [if_neg (by omega), List.getElem?_append_right (by rw [List.length_append, ht]; omega), List.length_append, ht, List.getElem?_drop, show a + d.length + (i - (a + d.length)) = i by omega]
theorem fix_made {P : Nat → Prop} {o D : List Int} {c : Cg} (ch : Int) (hg : c.sec < 0 → ∀ i, P i → i < o.length → i < c.n.toNat)
    (hs : 0 ≤ c.sec → ∀ i, P i → i < o.length → i < c.sec.toNat * 64 ∨ c.sec.toNat * 64 + 64 ≤ i) (h : Fix P o D) : Fix P o (Pl.made D c ch) := by
  unfold Pl.made
  split
  · exact h
  · split
    · rename_i q
      intro i hp hi
      rw [get_sized (h.lt hp hi) (hg q i hp hi)]
      exact h i hp hi
    · rename_i q
      intro i hp hi
      have hle := cut_le ch
      generalize (if 1 < ch then (1 + (ch - 2) % 63).toNat else 64) = n at hle ⊢
      by_cases hD : c.sec.toNat * 64 ≤ D.length
      · rw [get_put (by simp only [List.length_take]; omega), if_neg (by
          rcases hs (by omega) i hp hi with z | z
          · omega
          · simp only [List.length_take]; omega)]
        exact h i hp hi
      · rw [show D.length - c.sec.toNat * 64 = 0 by omega, List.take_zero, put_nil]
        exact h i hp hi
theorem get_wrL {l d : List Int} {a i : Nat} (h : i < l.length ∨ (a ≤ i ∧ i < a + d.length)) : (wrL l a d)[i]? = if a ≤ i ∧ i < a + d.length then d[i - a]? else l[i]? := by
  unfold wrL
  split
  · rename_i q
    rw [get_put (by rw [sizedF_len]; exact Nat.le_refl _)]
    split
    · rfl
    · rw [get_sized (by omega) (by omega)]
  · rename_i q
    exact get_put (by omega)
theorem fix_wrL {P : Nat → Prop} {o D d : List Int} {a : Nat} (ha : ∀ i, P i → i < o.length → i < a ∨ a + d.length ≤ i) (h : Fix P o D) : Fix P o (wrL D a d) := fun i hp hi => by
  rw [get_wrL (.inl (h.lt hp hi)), if_neg (by have := ha i hp hi; omega)]
  exact h i hp hi
theorem fix_sized {P : Nat → Prop} {o D : List Int} {n : Nat} (hn : ∀ i, P i → i < o.length → i < n) (h : Fix P o D) : Fix P o (sizedF D n) := fun i hp hi => by
  rw [get_sized (h.lt hp hi) (hn i hp hi)]
  exact h i hp hi
/-- what a write leaves pending, change by change -/
theorem pendW_mem {l d : List Int} {s : ByteArray} {a : Nat} {c : Cg} (h : c ∈ pendW l s a d) : c.nm = s ∧
    ((c.sec < 0 ∧ l.length < a + d.length ∧ c.n = ((a + d.length : Nat) : Int)) ∨ (0 ≤ c.sec ∧ a / 64 ≤ c.sec.toNat ∧ c.sec.toNat < (a + d.length + 63) / 64 ∧ c.s = sizedF ((wrL l a d).drop (c.sec.toNat * 64)) 64)) := by
  unfold pendW at h
  rcases List.mem_append.1 h with q | q
  · split at q
    · rename_i hl
      rw [List.mem_singleton.1 q]
      exact ⟨rfl, .inl ⟨show (-1 : Int) < 0 by omega, hl, rfl⟩⟩
    · cases q
  · unfold Pl.sectors at q
    obtain ⟨k, hk, rfl⟩ := List.mem_map.1 q
    have := List.mem_range'.1 hk
    refine ⟨rfl, .inr ⟨?_, ?_, ?_, rfl⟩⟩
    · show (0 : Int) ≤ (k : Int)
      omega
    · show a / 64 ≤ ((k : Nat) : Int).toNat
      omega
    · show ((k : Nat) : Int).toNat < (a + d.length + 63) / 64
      omega
theorem pendT_mem {l : List Int} {s : ByteArray} {n : Nat} {c : Cg} (h : c ∈ pendT l s n) : c.nm = s ∧ c.sec < 0 ∧ c.n = (n : Int) := by
  unfold pendT at h
  split at h
  · cases h
  · rw [List.mem_singleton.1 h]
    exact ⟨rfl, show (-1 : Int) < 0 by omega, rfl⟩
end Go.Proofs.Ytegcbdfilkecpaa
/- The journal in plain Lean: what may become of a file, through each step. -/
namespace Go.Proofs.Ytegcbdfilkecpaa

/-- the changes of a file -/
def chg (p : Pl) (s : ByteArray) : List Cg := p.pd.filter fun c => decide (c.nm = s)
/-- every outcome of a file -/
def FO (p : Pl) (s : ByteArray) (R : List Int → Prop) : Prop := ∀ r, Out (p.kept s) (chg p s) r → R r
/-- what is kept is I, and every change keeps it -/
structure FI (p : Pl) (s : ByteArray) (I : List Int → Prop) : Prop where
  kept : I (p.kept s)
  made : ∀ c ∈ p.pd, c.nm = s → ∀ k ch, I k → I (Pl.made k c ch)
theorem FI.fo {p : Pl} {s : ByteArray} {I : List Int → Prop} (h : FI p s I) : FO p s I := fun _ ho => out_inv ho h.kept (fun c hc => by
  have := List.mem_filter.1 hc
  exact h.made c this.1 (by simpa using this.2))
theorem FO.mono {p : Pl} {s : ByteArray} {R R' : List Int → Prop} (h : FO p s R) (hr : ∀ r, R r → R' r) : FO p s R' := fun r ho => hr r (h r ho)
/-- a step adds changes -/
theorem FI.step {p q : Pl} {E : Int} {sn : ByteArray → List Int} {l : List Cg} {s : ByteArray} {I : List Int → Prop} (h : FI p s I) (hq : Stepd p q E sn (p.pd ++ l)) (hl : ∀ c ∈ l, c.nm = s → ∀ k ch, I k → I (Pl.made k c ch)) : FI q s I := by
  refine ⟨by rw [hq.kept]; exact h.kept, fun c hc hn => ?_⟩
  rw [hq.pd] at hc
  rcases List.mem_append.1 hc with z | z
  · exact h.made c z hn
  · exact hl c z hn
theorem FI.same {p q : Pl} {E : Int} {sn : ByteArray → List Int} {s : ByteArray} {I : List Int → Prop} (h : FI p s I) (hq : Stepd p q E sn p.pd) : FI q s I := by
  refine ⟨by rw [hq.kept]; exact h.kept, fun c hc hn => ?_⟩
  rw [hq.pd] at hc
  exact h.made c hc hn
/-- behind a sync of the other file -/
theorem FI.other {p q : Pl} {s t : ByteArray} {I : List Int → Prop} (h : FI p s I) (hq : Synced p q t) (hst : s ≠ t) : FI q s I := by
  refine ⟨by rw [hq.kept, upd_other _ _ hst]; exact h.kept, fun c hc hn => ?_⟩
  rw [hq.pd] at hc
  exact h.made c (List.mem_filter.1 hc).1 hn
/-- behind a sync of the file itself: nothing is pending -/
theorem FI.synced {p q : Pl} {s : ByteArray} {I : List Int → Prop} (hq : Synced p q s) (hi : I (p.seen s)) : FI q s I := by
  refine ⟨by rw [hq.kept, upd_same]; exact hi, fun c hc hn => ?_⟩
  rw [hq.pd] at hc
  have := (List.mem_filter.1 hc).2
  rw [hn] at this
  simp at this
theorem chg_synced {p q : Pl} {s : ByteArray} (hq : Synced p q s) : chg q s = [] ∧ q.kept s = p.seen s := by
  refine ⟨?_, by rw [hq.kept, upd_same]⟩
  unfold chg
  rw [hq.pd, List.filter_filter]
  refine List.filter_eq_nil_iff.2 (fun c _ => ?_)
  simp
theorem chg_other {p q : Pl} {s t : ByteArray} (hq : Synced p q t) (hst : s ≠ t) : chg q s = chg p s ∧ q.kept s = p.kept s := by
  refine ⟨?_, by rw [hq.kept, upd_other _ _ hst]⟩
  unfold chg
  rw [hq.pd, List.filter_filter]
  refine List.filter_congr (fun c _ => ?_)
  by_cases e : c.nm = s
  · have : ¬ c.nm = t := fun z => hst (e.symm.trans z)
    simp [e, hst]
  · simp [e]
theorem made_head {J : List Int} (nm : ByteArray) (v : W4) (ch : Int) (hl : 64 ≤ J.length) : Pl.made J ⟨nm, 0, 0, sealB v⟩ ch = J ∨ ∃ n, n ≤ 64 ∧ Pl.made J ⟨nm, 0, 0, sealB v⟩ ch = Pl.put J 0 ((sealB v).take n) := by
  have hle := cut_le ch
  by_cases h : ch ≤ 0
  · left
    unfold Pl.made
    rw [if_pos h]
  · right
    refine ⟨_, hle, ?_⟩
    unfold Pl.made
    rw [if_neg h, if_neg (show ¬ (0 : Int) < 0 by omega)]
    show Pl.put J 0 (((sealB v).take (if 1 < ch then (1 + (ch - 2) % 63).toNat else 64)).take (J.length - 0)) = _
    rw [Nat.sub_zero, List.take_take, Nat.min_eq_right (by omega)]
/-- one head written over a head that is whole and synced: w, or v -/
theorem fo_head {p q : Pl} {E : Int} {sn : ByteArray → List Int} {w v : W4} (hk : HW (p.kept nmJn) w) (h0 : chg p nmJn = []) (hs : p.seen nmJn = p.kept nmJn) (hq : Stepd p q E sn (p.pd ++ pendW (p.seen nmJn) nmJn 0 (sealB v))) {P : Nat → Prop} (hP : ∀ i, P i → 64 ≤ i) :
    FO q nmJn fun J => (HS J w ∨ HS J v) ∧ Fix P (p.kept nmJn) J ∧ J.length = (p.kept nmJn).length := by
  intro r ho
  have hlen := hs_len (hw_hs hk)
  have hsl := seal_len v
  have hc : chg q nmJn = [⟨nmJn, 0, 0, sizedF (wrL (p.kept nmJn) 0 (sealB v)) 64⟩] := by
    unfold chg
    rw [hq.pd, List.filter_append]
    have e1 : p.pd.filter (fun c => decide (c.nm = nmJn)) = [] := h0
    rw [e1, List.nil_append, hs]
    unfold pendW
    rw [if_neg (by omega), List.nil_append, hsl]
    unfold Pl.sectors
    rw [show (0 + 64 + 63) / 64 - 0 / 64 = 1 from rfl]
    simp
  have hse : sizedF (wrL (p.kept nmJn) 0 (sealB v)) 64 = sealB v := by
    unfold wrL
    rw [if_neg (by omega)]
    unfold sizedF Pl.put
    rw [if_pos (by simp only [List.length_append, List.length_take, List.length_drop]; omega), List.take_zero, List.nil_append, List.take_left' hsl]
  rw [hc, hse, hq.kept] at ho
  cases ho with
  | cons ch h2 =>
    cases h2
    rcases made_head nmJn v ch hlen with e | ⟨n, hn, e⟩
    · rw [e]
      exact ⟨.inl (hw_hs hk), fun i _ _ => rfl, rfl⟩
    · rw [e]
      have hd : ((sealB v).take n).length = n := by rw [List.length_take, hsl]; omega
      refine ⟨hs_other hk v n hn, fun i hp hi => ?_, ?_⟩
      · rw [get_put (by rw [hd]; omega), if_neg (by have := hP i hp; rw [hd]; omega)]
      · unfold Pl.put
        simp only [List.length_append, List.length_take, List.length_drop, hsl]
        omega
end Go.Proofs.Ytegcbdfilkecpaa
/- The journal in plain Lean: a disk that is up, or has fallen; the bounds that hold through each step. -/
namespace Go.Proofs.Ytegcbdfilkecpaa

/-- up, and small whatever becomes of it -/
structure Pre (p : Pl) : Prop where
  lv : Lv p
  nm : TwoNm p.pd
  dl : FI p nmDb fun D => D.length ≤ capOf nmDb
  jl : FI p nmJn fun J => J.length ≤ capOf nmJn
/-- fallen, and small whatever becomes of it -/
structure Fell (p : Pl) : Prop where
  down : p.down = true
  room : p.room = 100000
  ktwo : p.ksum = (p.kept nmDb).length + (p.kept nmJn).length
  klen : ∀ s, (p.kept s).length ≤ capOf s
  nm : TwoNm p.pd
  dl : FI p nmDb fun D => D.length ≤ capOf nmDb
  jl : FI p nmJn fun J => J.length ≤ capOf nmJn
theorem fi_cap {p q : Pl} {E : Int} {sn : ByteArray → List Int} {l : List Cg} {s : ByteArray} (h : FI p s fun D => D.length ≤ capOf s) (hq : Stepd p q E sn (p.pd ++ l)) (hl : ∀ c ∈ l, c.sec < 0 → c.n.toNat ≤ capOf c.nm) : FI q s fun D => D.length ≤ capOf s :=
  h.step hq (fun c hc hn k ch hk => made_len_le hk (fun q => by have := hl c hc q; rwa [hn] at this))
theorem capOf_other {s : ByteArray} (h : s ≠ nmDb) : capOf s = 5000 := by unfold capOf; rw [if_neg h]
theorem pre_step {p q : Pl} {E : Int} {s : ByteArray} {l : List Int} {cs : List Cg} (h : Pre p) (hs : s = nmDb ∨ s = nmJn) (hq : Stepd p q E (upd p.seen s l) (p.pd ++ cs)) (hl : l.length ≤ capOf s) (hc : ∀ c ∈ cs, c.nm = s ∧ (c.sec < 0 → c.n.toNat ≤ capOf s)) :
    (E = 7 ∧ Fell q) ∨ (E = 0 ∧ Pre q) := by
  have hnm : TwoNm q.pd := fun c hc2 => by
    rw [hq.pd] at hc2
    rcases List.mem_append.1 hc2 with z | z
    · exact h.nm c z
    · rw [(hc c z).1]; exact hs
  have hcap : ∀ c ∈ cs, c.sec < 0 → c.n.toNat ≤ capOf c.nm := fun c h1 h2 => by rw [(hc c h1).1]; exact (hc c h1).2 h2
  have hdl := fi_cap h.dl hq hcap
  have hjl := fi_cap h.jl hq hcap
  by_cases c : p.crash = 1
  · left
    refine ⟨by rw [hq.e, if_pos c], by rw [hq.down]; simpa using c, by rw [hq.room]; exact h.lv.room, by rw [hq.ksum, hq.kept]; exact h.lv.ktwo, fun t => by rw [hq.kept]; exact h.lv.klen t, hnm, hdl, hjl⟩
  · right
    refine ⟨by rw [hq.e, if_neg c], ⟨by rw [hq.down]; simpa using c, hq.cr, by rw [hq.room]; exact h.lv.room, hq.two, by rw [hq.ksum, hq.kept]; exact h.lv.ktwo, fun t => ?_, fun t => by rw [hq.kept]; exact h.lv.klen t⟩, hnm, hdl, hjl⟩
    rw [hq.seen]
    by_cases e : t = s
    · rw [e, upd_same]; exact hl
    · rw [upd_other _ _ e]; exact h.lv.len t
theorem pre_write {p : Pl} (h : Pre p) (s : ByteArray) (hs : s = nmDb ∨ s = nmJn) (a : Nat) (d : List Int) (hd : d ≠ []) (hb : a + d.length ≤ capOf s) :
    (p.writeE s a d = 7 ∧ Fell (p.write s a d)) ∨ (p.writeE s a d = 0 ∧ Pre (p.write s a d)) :=
  pre_step h hs (lv_write h.lv s hs a d hd hb) (by rw [wrL_len]; have := h.lv.len s; omega) (fun c hc => ⟨(pendW_mem hc).1, fun q => by
    rcases (pendW_mem hc).2 with ⟨_, _, e⟩ | ⟨z, _⟩
    · rw [e]; omega
    · omega⟩)
theorem pre_trunc {p : Pl} (h : Pre p) (s : ByteArray) (hs : s = nmDb ∨ s = nmJn) (n : Nat) (hn : n ≤ capOf s) :
    (p.truncE s n = 7 ∧ Fell (p.trunc s n)) ∨ (p.truncE s n = 0 ∧ Pre (p.trunc s n)) :=
  pre_step h hs (lv_trunc h.lv s hs n hn) (by rw [sizedF_len]; exact hn) (fun c hc => ⟨(pendT_mem hc).1, fun _ => by rw [(pendT_mem hc).2.2]; omega⟩)
theorem pre_sync {p : Pl} (h : Pre p) (s : ByteArray) (hs : s = nmDb ∨ s = nmJn) :
    (p.syncE = 7 ∧ Fell (p.sync s) ∧ Stepd p (p.sync s) p.syncE p.seen p.pd) ∨ (p.syncE = 0 ∧ Pre (p.sync s) ∧ Synced p (p.sync s) s) := by
  rcases lv_sync h.lv s hs with ⟨c, hq⟩ | ⟨c, e, hq⟩
  · left
    exact ⟨by rw [hq.e, if_pos c], ⟨by rw [hq.down]; simpa using c, by rw [hq.room]; exact h.lv.room, by rw [hq.ksum, hq.kept]; exact h.lv.ktwo, fun t => by rw [hq.kept]; exact h.lv.klen t, by rw [hq.pd]; exact h.nm, h.dl.same hq, h.jl.same hq⟩, hq⟩
  · right
    refine ⟨e, ⟨⟨hq.down, hq.cr, by rw [hq.room]; exact h.lv.room, hq.two, hq.ktwo, fun t => by rw [hq.seen]; exact h.lv.len t, fun t => ?_⟩, fun c hc => h.nm c (by rw [hq.pd] at hc; exact (List.mem_filter.1 hc).1), ?_, ?_⟩, hq⟩
    · rw [hq.kept]
      by_cases z : t = s
      · rw [z, upd_same]; exact h.lv.len s
      · rw [upd_other _ _ z]; exact h.lv.klen t
    · by_cases z : nmDb = s
      · subst z; exact FI.synced hq (h.lv.len _)
      · exact h.dl.other hq z
    · by_cases z : nmJn = s
      · subst z; exact FI.synced hq (h.lv.len _)
      · exact h.jl.other hq z
theorem out_nil {k r : List Int} (h : Out k [] r) : r = k := by
  generalize hc : ([] : List Cg) = cs at h
  cases h with
  | nil => rfl
  | cons ch h2 => cases hc
/-- started again -/
theorem pre_again {p q : Pl} (h : Fell p) (hq : Again p q) : Pre q := by
  have hd : (q.seen nmDb).length ≤ capOf nmDb := h.dl.fo _ (hq.out nmDb)
  have hj : (q.seen nmJn).length ≤ capOf nmJn := h.jl.fo _ (hq.out nmJn)
  have hall : ∀ s, (q.seen s).length ≤ capOf s := fun s => by
    by_cases e1 : s = nmDb
    · rw [e1]; exact hd
    · by_cases e2 : s = nmJn
      · rw [e2]; exact hj
      · have ho := hq.out s
        have hn : (p.pd.filter fun c => decide (c.nm = s)) = [] := List.filter_eq_nil_iff.2 (fun c hc => by
          rcases h.nm c hc with z | z
          · rw [z]; simpa using fun y : nmDb = s => e1 y.symm
          · rw [z]; simpa using fun y : nmJn = s => e2 y.symm)
        rw [hn] at ho
        rw [out_nil ho]
        exact h.klen s
  have hk : ∀ s, (q.kept s).length ≤ capOf s := fun s => by rw [hq.kept]; exact hall s
  refine ⟨⟨hq.down, by rw [hq.cr]; exact Int.le_refl 0, by rw [hq.room]; exact h.room, hq.two, hq.ktwo, hall, hk⟩, ?_, ⟨hk _, ?_⟩, ⟨hk _, ?_⟩⟩
  · intro c hc
    rw [hq.pd] at hc
    cases hc
  · intro c hc
    rw [hq.pd] at hc
    cases hc
  · intro c hc
    rw [hq.pd] at hc
    cases hc
end Go.Proofs.Ytegcbdfilkecpaa
/- The journal in plain Lean: a head sealed, on a disk that may fall. -/
namespace Go.Proofs.Ytegcbdfilkecpaa

theorem pendW_nm {l d : List Int} {s t : ByteArray} {a : Nat} (h : t ≠ s) {I : List Int → Prop} : ∀ c ∈ pendW l s a d, c.nm = t → ∀ k ch, I k → I (Pl.made k c ch) := fun c hc hn => absurd (hn.symm.trans (pendW_mem hc).1) h
theorem pendT_nm {l : List Int} {s t : ByteArray} {n : Nat} (h : t ≠ s) {I : List Int → Prop} : ∀ c ∈ pendT l s n, c.nm = t → ∀ k ch, I k → I (Pl.made k c ch) := fun c hc hn => absurd (hn.symm.trans (pendT_mem hc).1) h
theorem seal_cap (w : W4) : 0 + (sealB w).length ≤ capOf nmJn := by rw [seal_len, capOf_other nm_ne.symm]; omega
theorem seal_neA (w : W4) : sealB w ≠ [] := fun e => by have := seal_len w; rw [e] at this; cases this
/-- a head sealed: fallen on the way with what every part of it keeps, or done and synced -/
theorem run_head {p : Pl} (h : Pre p) (w : W4) (I Id : List Int → Prop) (hj : FI p nmJn I) (hd : FI p nmDb Id) (hI : ∀ c ∈ pendW (p.seen nmJn) nmJn 0 (sealB w), ∀ k ch, I k → I (Pl.made k c ch)) :
    ((p.runS (headS nmJn w)).2 = 7 ∧ Fell (p.runS (headS nmJn w)).1 ∧ FI (p.runS (headS nmJn w)).1 nmJn I ∧ FI (p.runS (headS nmJn w)).1 nmDb Id) ∨
    ((p.runS (headS nmJn w)).2 = 0 ∧ Pre (p.runS (headS nmJn w)).1 ∧ (p.runS (headS nmJn w)).1.seen = upd p.seen nmJn (wrL (p.seen nmJn) 0 (sealB w)) ∧ chg (p.runS (headS nmJn w)).1 nmJn = [] ∧ (p.runS (headS nmJn w)).1.kept nmJn = wrL (p.seen nmJn) 0 (sealB w) ∧ FI (p.runS (headS nmJn w)).1 nmDb Id) := by
  have hst := lv_write h.lv nmJn (.inr rfl) 0 (sealB w) (seal_neA w) (seal_cap w)
  have hj1 := hj.step hst (fun c hc _ => hI c hc)
  have hd1 := hd.step hst (pendW_nm nm_ne)
  have e1 : ∀ q : Pl, q.stE ⟨0, nmJn, 0, sealB w⟩ = q.writeE nmJn 0 (sealB w) := fun q => rfl
  have e2 : ∀ q : Pl, q.stP ⟨0, nmJn, 0, sealB w⟩ = q.write nmJn 0 (sealB w) := fun q => rfl
  have e3 : ∀ q : Pl, q.stE ⟨2, nmJn, 0, []⟩ = q.syncE := fun q => rfl
  have e4 : ∀ q : Pl, q.stP ⟨2, nmJn, 0, []⟩ = q.sync nmJn := fun q => rfl
  unfold headS
  rw [runS_cons, e1, e2]
  rcases pre_write h nmJn (.inr rfl) 0 (sealB w) (seal_neA w) (seal_cap w) with ⟨e, hf⟩ | ⟨e, hp⟩
  · have e' : p.writeE nmJn 0 (sealB w) = 7 := e
    rw [e', if_neg (by decide)]
    exact .inl ⟨rfl, hf, hj1, hd1⟩
  · have e' : p.writeE nmJn 0 (sealB w) = 0 := e
    rw [e', if_pos rfl, runS_cons, e3, e4]
    have hse : (p.write nmJn 0 (sealB w)).seen = upd p.seen nmJn (wrL (p.seen nmJn) 0 (sealB w)) := hst.seen
    rcases pre_sync hp nmJn (.inr rfl) with ⟨es, hf, hs2⟩ | ⟨es, hp2, hs2⟩
    · have es' : (p.write nmJn 0 (sealB w)).syncE = 7 := es
      rw [es', if_neg (by decide)]
      exact .inl ⟨rfl, hf, hj1.same hs2, hd1.same hs2⟩
    · have es' : (p.write nmJn 0 (sealB w)).syncE = 0 := es
      rw [es', if_pos rfl, runS_nil]
      obtain ⟨c1, c2⟩ := chg_synced hs2
      have hj2 : (p.write nmJn 0 (sealB w)).seen nmJn = wrL (p.seen nmJn) 0 (sealB w) := by rw [hse, upd_same]
      exact .inr ⟨rfl, hp2, hs2.seen.trans hse, c1, c2.trans hj2, hd1.other hs2 nm_ne⟩
theorem FO.same {p q : Pl} {E : Int} {sn : ByteArray → List Int} {s : ByteArray} {R : List Int → Prop} (h : FO p s R) (hq : Stepd p q E sn p.pd) : FO q s R := fun r ho => h r (by
  unfold chg at ho ⊢
  rwa [hq.pd, hq.kept] at ho)
/-- another head sealed over one that is whole and synced: fallen, it is one or the other -/
theorem run_head2 {p : Pl} (h : Pre p) (w v : W4) (Id : List Int → Prop) (hk : HW (p.kept nmJn) w) (h0 : chg p nmJn = []) (hs : p.seen nmJn = p.kept nmJn) (hd : FI p nmDb Id) {P : Nat → Prop} (hP : ∀ i, P i → 64 ≤ i) :
    ((p.runS (headS nmJn v)).2 = 7 ∧ Fell (p.runS (headS nmJn v)).1 ∧ FO (p.runS (headS nmJn v)).1 nmJn (fun J => (HS J w ∨ HS J v) ∧ Fix P (p.kept nmJn) J ∧ J.length = (p.kept nmJn).length) ∧ FI (p.runS (headS nmJn v)).1 nmDb Id) ∨
    ((p.runS (headS nmJn v)).2 = 0 ∧ Pre (p.runS (headS nmJn v)).1 ∧ (p.runS (headS nmJn v)).1.seen = upd p.seen nmJn (wrL (p.seen nmJn) 0 (sealB v)) ∧ chg (p.runS (headS nmJn v)).1 nmJn = [] ∧ (p.runS (headS nmJn v)).1.kept nmJn = wrL (p.seen nmJn) 0 (sealB v) ∧ FI (p.runS (headS nmJn v)).1 nmDb Id) := by
  have hst := lv_write h.lv nmJn (.inr rfl) 0 (sealB v) (seal_neA v) (seal_cap v)
  have hf1 := fo_head hk h0 hs hst hP
  have hd1 := hd.step hst (pendW_nm nm_ne)
  have e1 : ∀ q : Pl, q.stE ⟨0, nmJn, 0, sealB v⟩ = q.writeE nmJn 0 (sealB v) := fun q => rfl
  have e2 : ∀ q : Pl, q.stP ⟨0, nmJn, 0, sealB v⟩ = q.write nmJn 0 (sealB v) := fun q => rfl
  have e3 : ∀ q : Pl, q.stE ⟨2, nmJn, 0, []⟩ = q.syncE := fun q => rfl
  have e4 : ∀ q : Pl, q.stP ⟨2, nmJn, 0, []⟩ = q.sync nmJn := fun q => rfl
  unfold headS
  rw [runS_cons, e1, e2]
  rcases pre_write h nmJn (.inr rfl) 0 (sealB v) (seal_neA v) (seal_cap v) with ⟨e, hf⟩ | ⟨e, hp⟩
  · have e' : p.writeE nmJn 0 (sealB v) = 7 := e
    rw [e', if_neg (by decide)]
    exact .inl ⟨rfl, hf, hf1, hd1⟩
  · have e' : p.writeE nmJn 0 (sealB v) = 0 := e
    rw [e', if_pos rfl, runS_cons, e3, e4]
    have hse : (p.write nmJn 0 (sealB v)).seen = upd p.seen nmJn (wrL (p.seen nmJn) 0 (sealB v)) := hst.seen
    rcases pre_sync hp nmJn (.inr rfl) with ⟨es, hf, hs2⟩ | ⟨es, hp2, hs2⟩
    · have es' : (p.write nmJn 0 (sealB v)).syncE = 7 := es
      rw [es', if_neg (by decide)]
      exact .inl ⟨rfl, hf, hf1.same hs2, hd1.same hs2⟩
    · have es' : (p.write nmJn 0 (sealB v)).syncE = 0 := es
      rw [es', if_pos rfl, runS_nil]
      obtain ⟨c1, c2⟩ := chg_synced hs2
      have hj2 : (p.write nmJn 0 (sealB v)).seen nmJn = wrL (p.seen nmJn) 0 (sealB v) := by rw [hse, upd_same]
      exact .inr ⟨rfl, hp2, hs2.seen.trans hse, c1, c2.trans hj2, hd1.other hs2 nm_ne⟩
/-- a head written whole over a journal that has one, or none -/
theorem wr_head (J : List Int) (w : W4) : HW (wrL J 0 (sealB w)) w := by
  have hs := seal_len w
  unfold wrL
  split
  · unfold Pl.put
    exact ⟨_, by rw [List.take_zero, List.nil_append]⟩
  · unfold Pl.put
    exact ⟨_, by rw [List.take_zero, List.nil_append]⟩
end Go.Proofs.Ytegcbdfilkecpaa
/- The journal in plain Lean: a row of writes into one file, on a disk that may fall. -/
namespace Go.Proofs.Ytegcbdfilkecpaa

/-- what is seen behind a row of writes -/
def seenW (z : List Int) (l : List Stp) : List Int := l.foldl (fun z x => wrL z x.at_.toNat x.d) z
/-- a write that may be made: into s, inside of its bounds -/
structure WrOk (s : ByteArray) (x : Stp) : Prop where
  k : x.k = 0
  nm : x.nm = s
  at_ : 0 ≤ x.at_
  ne : x.d ≠ []
  cap : x.at_.toNat + x.d.length ≤ capOf s
/-- a row of writes: fallen on the way, or all seen; what each write's changes keep, is kept -/
theorem run_writes (s t : ByteArray) (hs : s = nmDb ∨ s = nmJn) (hst : t ≠ s) (I It G : List Int → Prop) : ∀ (l : List Stp) {p : Pl}, Pre p → (∀ x ∈ l, WrOk s x) → FI p s I → FI p t It → G (p.seen s) →
    (∀ x ∈ l, ∀ z, G z → G (wrL z x.at_.toNat x.d) ∧ ∀ c ∈ pendW z s x.at_.toNat x.d, ∀ k ch, I k → I (Pl.made k c ch)) →
    ((p.runS l).2 = 7 ∧ Fell (p.runS l).1 ∧ FI (p.runS l).1 s I ∧ FI (p.runS l).1 t It) ∨
    ((p.runS l).2 = 0 ∧ Pre (p.runS l).1 ∧ FI (p.runS l).1 s I ∧ FI (p.runS l).1 t It ∧ G ((p.runS l).1.seen s) ∧ (p.runS l).1.seen = upd p.seen s (seenW (p.seen s) l) ∧ (chg p t = [] → chg (p.runS l).1 t = []) ∧ (p.runS l).1.kept = p.kept)
  | [], p, h, _, hi, ht, hg, _ => .inr ⟨rfl, h, hi, ht, hg, by rw [runS_nil]; exact (upd_self _ _).symm, fun e => e, rfl⟩
  | x :: r, p, h, hw, hi, ht, hg, hc => by
    obtain ⟨k0, nm0, a0, d0⟩ := x
    have hx := hw _ (List.mem_cons_self ..)
    have hk : k0 = 0 := hx.k
    have hn : nm0 = s := hx.nm
    subst hk
    subst hn
    obtain ⟨a, rfl⟩ := Int.eq_ofNat_of_zero_le (show 0 ≤ a0 from hx.at_)
    have hne : d0 ≠ [] := hx.ne
    have hcap : a + d0.length ≤ capOf nm0 := hx.cap
    have hcx := hc _ (List.mem_cons_self ..) (p.seen nm0) hg
    have hg1 : G (wrL (p.seen nm0) a d0) := hcx.1
    have hc1 : ∀ c ∈ pendW (p.seen nm0) nm0 a d0, ∀ k ch, I k → I (Pl.made k c ch) := hcx.2
    have hstp := lv_write h.lv nm0 hs a d0 hne hcap
    have hi1 := hi.step hstp (fun c hc _ => hc1 c hc)
    have ht1 := ht.step hstp (pendW_nm hst)
    have e1 : ∀ q : Pl, q.stE ⟨0, nm0, (a : Int), d0⟩ = q.writeE nm0 a d0 := fun q => rfl
    have e2 : ∀ q : Pl, q.stP ⟨0, nm0, (a : Int), d0⟩ = q.write nm0 a d0 := fun q => rfl
    show ((p.runS (⟨0, nm0, (a : Int), d0⟩ :: r)).2 = 7 ∧ _) ∨ _
    rw [runS_cons, e1, e2]
    rcases pre_write h nm0 hs a d0 hne hcap with ⟨e, hf⟩ | ⟨e, hp⟩
    · rw [e, if_neg (by decide)]
      exact .inl ⟨rfl, hf, hi1, ht1⟩
    · rw [e, if_pos rfl]
      have hse : (p.write nm0 a d0).seen nm0 = wrL (p.seen nm0) a d0 := by rw [hstp.seen, upd_same]
      have ih := run_writes nm0 t hs hst I It G r hp (fun y hy => hw y (List.mem_cons_of_mem _ hy)) hi1 ht1 (by rw [hse]; exact hg1) (fun y hy => hc y (List.mem_cons_of_mem _ hy))
      rcases ih with z | ⟨z0, z1, z2, z3, z4, z5, z6, z7⟩
      · exact .inl z
      · refine .inr ⟨z0, z1, z2, z3, z4, ?_, fun e => z6 ?_, z7.trans hstp.kept⟩
        · rw [z5, hse, hstp.seen, upd_upd]
          rfl
        · unfold chg at e ⊢
          rw [hstp.pd, List.filter_append, e, List.nil_append]
          refine List.filter_eq_nil_iff.2 (fun c hc => ?_)
          rw [(pendW_mem hc).1]
          simpa using fun q : nm0 = t => hst q.symm
/-- the database cut and synced -/
theorem run_ts {p : Pl} (h : Pre p) (n : Nat) (hn : n ≤ capOf nmDb) (I It : List Int → Prop) (hi : FI p nmDb I) (ht : FI p nmJn It) (hc : ∀ c ∈ pendT (p.seen nmDb) nmDb n, ∀ k ch, I k → I (Pl.made k c ch)) :
    ((p.runS [⟨1, nmDb, (n : Int), []⟩, ⟨2, nmDb, 0, []⟩]).2 = 7 ∧ Fell (p.runS [⟨1, nmDb, (n : Int), []⟩, ⟨2, nmDb, 0, []⟩]).1 ∧ FI (p.runS [⟨1, nmDb, (n : Int), []⟩, ⟨2, nmDb, 0, []⟩]).1 nmDb I ∧ FI (p.runS [⟨1, nmDb, (n : Int), []⟩, ⟨2, nmDb, 0, []⟩]).1 nmJn It) ∨
    ((p.runS [⟨1, nmDb, (n : Int), []⟩, ⟨2, nmDb, 0, []⟩]).2 = 0 ∧ Pre (p.runS [⟨1, nmDb, (n : Int), []⟩, ⟨2, nmDb, 0, []⟩]).1 ∧ (p.runS [⟨1, nmDb, (n : Int), []⟩, ⟨2, nmDb, 0, []⟩]).1.seen = upd p.seen nmDb (sizedF (p.seen nmDb) n) ∧ chg (p.runS [⟨1, nmDb, (n : Int), []⟩, ⟨2, nmDb, 0, []⟩]).1 nmDb = [] ∧
      (p.runS [⟨1, nmDb, (n : Int), []⟩, ⟨2, nmDb, 0, []⟩]).1.kept nmDb = sizedF (p.seen nmDb) n ∧ FI (p.runS [⟨1, nmDb, (n : Int), []⟩, ⟨2, nmDb, 0, []⟩]).1 nmJn It ∧ (chg p nmJn = [] → chg (p.runS [⟨1, nmDb, (n : Int), []⟩, ⟨2, nmDb, 0, []⟩]).1 nmJn = []) ∧ (p.runS [⟨1, nmDb, (n : Int), []⟩, ⟨2, nmDb, 0, []⟩]).1.kept nmJn = p.kept nmJn) := by
  have hst := lv_trunc h.lv nmDb (.inl rfl) n hn
  have hi1 := hi.step hst (fun c hc2 _ => hc c hc2)
  have ht1 := ht.step hst (pendT_nm nm_ne.symm)
  have e1 : ∀ q : Pl, q.stE ⟨1, nmDb, (n : Int), []⟩ = q.truncE nmDb n := fun q => rfl
  have e2 : ∀ q : Pl, q.stP ⟨1, nmDb, (n : Int), []⟩ = q.trunc nmDb n := fun q => rfl
  have e3 : ∀ q : Pl, q.stE ⟨2, nmDb, 0, []⟩ = q.syncE := fun q => rfl
  have e4 : ∀ q : Pl, q.stP ⟨2, nmDb, 0, []⟩ = q.sync nmDb := fun q => rfl
  rw [runS_cons, e1, e2]
  rcases pre_trunc h nmDb (.inl rfl) n hn with ⟨e, hf⟩ | ⟨e, hp⟩
  · rw [e, if_neg (by decide)]
    exact .inl ⟨rfl, hf, hi1, ht1⟩
  · rw [e, if_pos rfl, runS_cons, e3, e4]
    have hse : (p.trunc nmDb n).seen nmDb = sizedF (p.seen nmDb) n := by rw [hst.seen, upd_same]
    rcases pre_sync hp nmDb (.inl rfl) with ⟨es, hf, hs2⟩ | ⟨es, hp2, hs2⟩
    · rw [es, if_neg (by decide)]
      exact .inl ⟨rfl, hf, hi1.same hs2, ht1.same hs2⟩
    · rw [es, if_pos rfl, runS_nil]
      obtain ⟨c1, c2⟩ := chg_synced hs2
      obtain ⟨o1, o2⟩ := chg_other hs2 nm_ne.symm
      refine .inr ⟨rfl, hp2, hs2.seen.trans hst.seen, c1, c2.trans hse, ht1.other hs2 nm_ne.symm, fun e => ?_, o2.trans (by rw [hst.kept])⟩
      rw [o1]
      unfold chg at e ⊢
      rw [hst.pd, List.filter_append, e, List.nil_append]
      refine List.filter_eq_nil_iff.2 (fun c hc2 => ?_)
      rw [(pendT_mem hc2).1]
      decide
end Go.Proofs.Ytegcbdfilkecpaa
