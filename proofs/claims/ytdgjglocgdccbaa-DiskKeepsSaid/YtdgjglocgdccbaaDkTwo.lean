/- Two disks of the caller's own; changes made to a file; no condition but on the counts. -/
import Derived.Test.YtdgjglocgdccbaaDkCopyW
import Derived.Test.YtdgjglocgdccbaaDkKeepsP
import Derived.Test.YtdgjglocgdccbaaDkSteps
namespace Go.Proofs.Ytdgjglocgdccbaa
open Go.RowKit

structure Two (W0 w : World) (x y : Dd) (p q : Pl) : Prop where
  hx : Dk W0.heap.size w x
  hy : Dk W0.heap.size w y
  px : Of x p
  py : Of y q
  kp : Kp NoB W0 w
  ox : ∀ b, x.O b → W0.heap.size ≤ b
  oy : ∀ b, y.O b → W0.heap.size ≤ b
  dis : ∀ b, x.O b → ¬ y.O b
theorem Two.swap {W0 w : World} {x y : Dd} {p q : Pl} (h : Two W0 w x y p q) : Two W0 w y x q p := ⟨h.hy, h.hx, h.py, h.px, h.kp, h.oy, h.ox, fun b h1 h2 => h.dis b h2 h1⟩
theorem Two.keep {W0 w w' : World} {x y : Dd} {p q : Pl} (h : Two W0 w x y p q) (k : Kp NoB w w') : Two W0 w' x y p q :=
  ⟨h.hx.keep k (fun _ _ q => q) (fun _ _ _ q => q), h.hy.keep k (fun _ _ q => q) (fun _ _ _ q => q), h.px, h.py, h.kp.trans k (fun _ _ q => q), h.ox, h.oy, h.dis⟩
theorem Two.first {W0 w w' : World} {x y : Dd} {p q p' : Pl} (h : Two W0 w x y p q) (t : To W0.heap.size w x p' w') : ∃ x', x'.db = x.db ∧ Two W0 w' x' y p' q := by
  obtain ⟨x', hd, hp, e, k, o⟩ := t
  refine ⟨x', e, hd, h.hy.keep k (fun b hb hx => h.dis b hx hb) (fun g cs hg => h.hx.bytes hg), hp, h.py, h.kp.trans k (fun i hi q => by have := h.ox i q; omega), fun b hb => ?_, h.oy, fun b hb hy => ?_⟩
  · rcases o b hb with q | q
    · exact h.ox b q
    · exact Nat.le_trans h.kp.size q
  · rcases o b hb with q | q
    · exact h.dis b q hy
    · have := h.hy.lt b hy; omega
def Dt (W0 w : World) (db ob : Nat) (p q : Pl) : Prop := ∃ x y, x.db = db ∧ y.db = ob ∧ Two W0 w x y p q
section
variable {W0 w w' : World} {db ob : Nat} {p q : Pl}
theorem Dt.swap (h : Dt W0 w db ob p q) : Dt W0 w ob db q p := by
  obtain ⟨x, y, e1, e2, h⟩ := h
  exact ⟨y, x, e2, e1, h.swap⟩
theorem Dt.kp (h : Dt W0 w db ob p q) : Kp NoB W0 w := by
  obtain ⟨x, y, e1, e2, h⟩ := h
  exact h.kp
theorem Dt.keep (h : Dt W0 w db ob p q) (k : Kp NoB w w') : Dt W0 w' db ob p q := by
  obtain ⟨x, y, e1, e2, h⟩ := h
  exact ⟨x, y, e1, e2, h.keep k⟩
theorem crash_t (h : Dt W0 w db ob p q) : Calls Try.prog 20 #[ptrV db] w fun e w' => e = .returned (.tuple #[]) ∧ Dt W0 w' db ob p.crashNow q := by
  obtain ⟨x, y, rfl, rfl, h⟩ := h
  exact (crash_ok w _ x p h.hx h.px).mono fun e w' ⟨he, ht⟩ => ⟨he, by obtain ⟨x', e1, h'⟩ := h.first ht; exact ⟨x', y, e1, rfl, h'⟩⟩
theorem restart_t (h : Dt W0 w db ob p q) (A : Option Addr) (n cap : Nat) (chs : List Int) (hc : Nums w A n chs) (hA : ∀ g o, A = some ⟨g, o, none⟩ → 0 < n → g < W0.heap.size) (hch : ∀ y ∈ chs, -9223372036854775808 ≤ y ∧ y ≤ 9223372036854775807)
    (hn63 : n ≤ 9223372036854775807) (hm : p.nf + p.pd.length < 1099511627776 - 10) :
    Calls Try.prog 16 #[ptrV db, .slice A n cap] w fun e w' => e = .returned (.int .i64 p.restartE) ∧ Dt W0 w' db ob (p.restart chs) q := by
  obtain ⟨x, y, rfl, rfl, h⟩ := h
  exact (restart_ok w _ x p A n cap chs h.hx h.px hc (fun g o e hp q => by have := hA g o e hp; have := h.ox g q; omega) hch hn63 hm h.kp.size).mono fun e w' ⟨he, ht⟩ => ⟨he, by obtain ⟨x', e1, h'⟩ := h.first ht; exact ⟨x', y, e1, rfl, h'⟩⟩
theorem read_t (h : Dt W0 w db ob p q) (s : ByteArray) (a n : Int) (hs : s.size ≤ maxLen) (ha : -9223372036854775808 ≤ a ∧ a ≤ 9223372036854775807) (hn : -9223372036854775808 ≤ n ∧ n ≤ 9223372036854775807) :
    Calls Try.prog 13 #[ptrV db, .string s, .int .i64 a, .int .i64 n] w fun e w' => e = .returned (.tuple #[.string (strOf (p.read s a n)), .int .i64 (p.readE a n)]) ∧ Dt W0 w' db ob p q := by
  have h' := h
  obtain ⟨x, y, rfl, rfl, h⟩ := h
  exact (read_ok w _ x p s a n ha hn h.hx h.px hs).mono fun e w' ⟨he, k⟩ => ⟨he, h'.keep k⟩
theorem down_t (h : Dt W0 w db ob p q) : Calls Try.prog 12 #[ptrV db] w fun e w' => e = .returned (.bool p.down) ∧ w = w' := by
  obtain ⟨x, y, rfl, rfl, h⟩ := h
  exact down_ok w _ x p h.hx h.px
theorem pending_t (h : Dt W0 w db ob p q) : Calls Try.prog 18 #[ptrV db] w fun e w' => e = .returned (.int .i64 (p.pd.length : Nat)) ∧ w = w' := by
  obtain ⟨x, y, rfl, rfl, h⟩ := h
  exact pending_ok w _ x p h.hx h.px
theorem copy_d (h : Da W0 w db p) (hm : p.nf < 1099511627776) (hpd : p.pd.length < 1099511627776) :
    Calls Try.prog 19 #[ptrV db] w fun e w' => ∃ ob, e = .returned (ptrV ob) ∧ Dt W0 w' db ob p p := by
  obtain ⟨x, rfl, hd, hp, hk, ho⟩ := h
  refine (copy_ok w _ x p hd hp hk.size hm hpd).mono ?_
  rintro e w' ⟨y, rfl, hy, py, oy, k⟩
  exact ⟨y.db, rfl, x, y, rfl, rfl, hd.keep k (fun _ _ q => q) (fun _ _ _ q => q), hy, hp, py, hk.trans k (fun _ _ q => q), ho, fun b hb => Nat.le_trans hk.size (oy b hb), fun b h1 h2 => by
    have := hd.lt b h1
    have := oy b h2
    omega⟩
end
def WRel (W0 : World) (db : Nat) (p : Pl) (s : ByteArray) (L : List (Int × ByteArray)) (v : Value) (wr : World) : Prop :=
  ∃ i : Nat, v = .int .i64 (i : Int) ∧ i ≤ L.length ∧ Da W0 wr db (wroteP p s (L.take i))
theorem wroteP_next (p : Pl) (s : ByteArray) (L : List (Int × ByteArray)) (i : Nat) (x : Int × ByteArray) (hx : L[i]? = some x) : wroteP p s (L.take (i + 1)) = wrote1 (wroteP p s (L.take i)) s x := by
  rw [List.take_add_one, hx]
  unfold wroteP
  rw [List.foldl_append]
  rfl
set_option maxRecDepth 100000 in
set_option maxHeartbeats 800000 in
theorem wrote_ok (W0 w : World) (db : Nat) (p : Pl) (s : ByteArray) (A : Option Addr) (n cap : Nat) (L : List (Int × ByteArray)) (hs : s.size ≤ maxLen) (h : Da W0 w db p) (hF : Fls w A n L) (hA : ∀ g o, A = some ⟨g, o, none⟩ → 0 < n → g < W0.heap.size) (hn : n ≤ 20) (hl : ∀ x ∈ L, x.2.size ≤ 2000)
    (hB : ∀ i, i ≤ n → (wroteP p s (L.take i)).nf < 1099511627776 - 10 ∧ (wroteP p s (L.take i)).pd.length < 1099511627776 - 20000) :
    Calls Try.prog 17 #[ptrV db, .string s, .slice A n cap] w fun e w' => e = .returned (.tuple #[]) ∧ Da W0 w' db (wroteP p s L) := by
  have H := Lib.hid h
  have HF := Lib.hid hF
  have HA := Lib.hid hA
  have HS := Lib.hid hs
  have HLl := Lib.hid hl
  have HBB := Lib.hid hB
  have HLen := Lib.hid hF.1
  clear h hF hA hs hl hB
  go_enter Try.func17, Try.ntmps17
  go_wp2_with fail
  go_loopw [6] (fun v wr => WRel W0 db p s L v wr) (fun v _ => n - (intOf v).toNat)
  case atStart => exact ⟨0, rfl, Nat.zero_le _, H.out⟩
  case round =>
    obtain ⟨i, rfl, hi, hda⟩ := hrel
    have HI := Lib.hid hi
    have HDA := Lib.hid hda
    clear hi hda
    by_cases hlt : i < n
    · obtain ⟨g, o, rfl, hg, hcc⟩ := HF.out.2.2 (by omega)
      have hgW := HA.out g o rfl (by omega)
      have hil : i < L.length := by have := HLen.out; omega
      obtain ⟨d0, d1⟩ := hcc i hil
      obtain ⟨x, hx⟩ : ∃ x, L[i] = x := ⟨_, rfl⟩
      rw [hx] at d0 d1
      -- the cells lie below the disk: they read alike in every world
      have cellAt : ∀ W, Kp NoB W0 W → W.cell? ⟨g, o + i * 2, none⟩ = some (.int .i64 x.1) ∧ W.cell? ⟨g, o + i * 2 + 1, none⟩ = some (.string x.2) := fun W k =>
        ⟨((k.cell hgW (fun q => q)).trans (H.out.kp.cell hgW (fun q => q)).symm).trans d0, ((k.cell hgW (fun q => q)).trans (H.out.kp.cell hgW (fun q => q)).symm).trans d1⟩
      have CA := Lib.hid cellAt
      have HXX : Hid (L[i]? = some x) := Lib.hid (by rw [List.getElem?_eq_getElem hil, hx])
      have hxs := HLl.out x (by rw [← hx]; exact List.getElem_mem hil)
      have HXS : Hid (x.2.size ≤ maxLen) := Lib.hid (by unfold maxLen; omega)
      have hnf := HBB.out i (by omega)
      have HNF := Lib.hid hnf
      have HNX := Lib.hid (wroteP_next p s L i x HXX.out)
      obtain ⟨c0, c1⟩ := cellAt wr HDA.out.kp
      have hii : (i : Int) < (n : Int) := by omega
      have ha := and4095 x.1
      obtain ⟨a, haa⟩ : ∃ a, bits BinOp.and IntKind.i64 x.1 4095 = a := ⟨_, rfl⟩
      have HAA := Lib.hid haa
      have HAR : Hid (-9223372036854775808 ≤ a ∧ a ≤ 9223372036854775807) := Lib.hid (by omega)
      clear hg hcc hil hx d0 d1 cellAt hnf ha hgW hxs
      by_cases hz : x.2.size = 0
      · have hem : x.2.toList.isEmpty = true := by rw [str_empty1]; simpa using hz
        have HW : Hid (wrote1 (wroteP p s (L.take i)) s x = (wroteP p s (L.take i)).trunc s a) := Lib.hid (by unfold wrote1; rw [if_pos hz, HAA.out])
        clear hz
        go_wp2_with (go_at_call 25; go_must (refine (trunc_d HDA.out s a HAR.out HS.out HNF.out.1 HNF.out.2).mono ?_); rintro e w3 ⟨rfl, h3⟩; have H3 := Lib.hid h3; clear h3)
        go_roundw
        case rel => exact ⟨i + 1, by go_num, by have := HLen.out; omega, by rw [HNX.out, HW.out]; exact H3.out⟩
        case measure => simp [intOf]; omega
      · have hem : x.2.toList.isEmpty = false := by rw [str_empty1]; simpa using hz
        have HW : Hid (wrote1 (wroteP p s (L.take i)) s x = (wroteP p s (L.take i)).write s a (strI x.2)) := Lib.hid (by unfold wrote1; rw [if_neg hz, HAA.out])
        clear hz
        go_upto_region 5 with fail
        go_region_held3 (fun w' => w'.cell? ⟨g, o + i * 2, none⟩ = some (.int .i64 x.1) ∧ w'.cell? ⟨g, o + i * 2 + 1, none⟩ = some (.string x.2))
          (first | exact ⟨c0, c1⟩ | exact ⟨e0, e1⟩ | go_keep)
          (first
            | (go_at_call 11; go_must (refine (write_d (HDA.out.keep ((Kp.refl NoB wr).drew)) s a x.2 HS.out HXS.out HNF.out.1 HNF.out.2).mono ?_); rintro e w3 ⟨rfl, h3⟩; have H3 := Lib.hid h3; obtain ⟨e0, e1⟩ := CA.out w3 h3.kp; clear h3))
        go_wp2_with fail
        go_roundw
        case rel => exact ⟨i + 1, by go_num, by have := HLen.out; omega, by rw [HNX.out, HW.out]; exact H3.out⟩
        case measure => simp [intOf]; omega
    · have hii : ¬ (i : Int) < (n : Int) := by omega
      go_wp2_with fail
      refine bodyPost_end (results_none rfl _ _ _) rfl ⟨rfl, ?_⟩
      have := HDA.out
      rwa [List.take_of_length_le (by have := HLen.out; omega)] at this
end Go.Proofs.Ytdgjglocgdccbaa
