/- The stand-in disk: fits; condition: no negative number of bytes. -/
import Derived.Test.YtdgjglocgdccbaaDkStep
namespace Go.Proofs.Ytdgjglocgdccbaa
open Go.RowKit

theorem next_fact {n0 : Nat} {w w1 : World} {x : Dd} {D : DataW Value} (h : Dk n0 w x) (hM : MpD D x.fs) (kp : Kp NoB w w1) {s : ByteArray} {kl : Lit} {c : Option Addr} {y : DataW Value × List MemPlace}
    (hkey : keyOf Try.prog 9 (.string s) = some kl) (hv : Rp (.pointer c) = some y) (hat : ∀ zd, D.atKey kl zd = y.1) :
    ∃ e ∈ x.fs, kl = .string (kOf e.nm) ∧ c = some ⟨e.fb, 0, none⟩ ∧ ∃ A cap, w1.cell? ⟨e.fb, 0, none⟩ = some (.slice A e.seen.length cap) := by
  obtain ⟨p, ep, rfl⟩ := Rp_inv hv
  cases ep
  have hk : kl = .string (kOf s) := by
    by_cases hs : s.size ≤ maxLen
    · rw [keyS s hs] at hkey
      exact (Option.some.inj hkey).symm
    · have hu := Try.underlying9
      simp [keyOf, mapKey, hu] at hkey
      obtain ⟨_, rfl⟩ := hkey
      rfl
  subst hk
  cases hf : findF x.fs (kOf s) with
  | none =>
    have h1 := hat (.lit (.bool true))
    have h2 := hat (.lit (.bool false))
    rw [hM.at_, hf] at h1 h2
    rw [← h2] at h1
    simp at h1
  | some e =>
    obtain ⟨he, hk⟩ := findF_some hf
    have h1 := hat .nil
    rw [hM.at_, hf] at h1
    simp only [ptrV, DataW.held.injEq, Value.pointer.injEq] at h1
    obtain ⟨u, v, hb, hu, _⟩ := (h.fls e he).blk
    obtain ⟨A, cap, rfl⟩ := hu.form
    refine ⟨e, he, by rw [hk], h1.symm, A, cap, ?_⟩
    rw [kp.cell hb.lt (fun q => q), hb.cell]
    rfl
theorem keyS_inv {key : Value} {kl : Lit} (h : keyOf Try.prog 9 key = some kl) : ∃ s, key = .string s := by
  have hk := Try.underlying9
  cases key <;> simp [keyOf, hk, mapKey] at h
  exact ⟨_, rfl⟩
theorem seen_le {n0 : Nat} {w : World} {x : Dd} (h : Dk n0 w x) (s : ByteArray) : (seenOf x.fs s).length ≤ 1048576 := by
  unfold seenOf
  split
  · rename_i e hf
    exact (h.fls e (findF_some hf).1).ls
  · simp
set_option maxRecDepth 100000 in
set_option maxHeartbeats 1600000 in
theorem fits_ok (w : World) (n0 : Nat) (x : Dd) (p : Pl) (s : ByteArray) (n : Int) (hs : s.size ≤ maxLen) (hn : 0 ≤ n ∧ n ≤ 9223372036854775807) (h : Dk n0 w x) (hp : Of x p) :
    Calls Try.prog 32 #[ptrV x.db, .string s, .int .i64 n] w fun e w' => e = .returned (.int .i64 (p.fits s n)) ∧ Kp NoB w w' := by
  have H := Lib.hid h
  have HP := Lib.hid hp
  have HS := Lib.hid hs
  obtain ⟨D, hD, hM⟩ := h.mp
  have HD := Lib.hid hD
  have HM := Lib.hid hM
  have HB := Lib.hid h.blk
  have c0 : w.cell? ⟨x.db, 0, none⟩ = some (.map (some x.mb)) := by rw [h.blk.cell]; rfl
  obtain ⟨was, hwas⟩ : ∃ m, (seenOf x.fs s).length = m := ⟨_, rfl⟩
  have hwl := seen_le h s
  rw [hwas] at hwl
  have HW := Lib.hid hwas
  obtain ⟨db, hdb⟩ : ∃ db, x.db = db := ⟨_, rfl⟩
  have HX := Lib.hid hdb
  rw [hdb] at c0 ⊢
  have hw1 : IntKind.i64.wrap (n - (was : Int)) = n - was := by rw [IntKind.wrap_i64]; omega
  have HN := Lib.hid hn
  have HWL := Lib.hid hwl
  have HR := Lib.hid h.r0
  clear h hs hD hM hwas hdb hwl hp
  unfold ptrV
  go_enter Try.func32, Try.ntmps32
  go_wp2_with (first
    | (go_at_call 33; go_must (refine (show Calls _ _ #[ptrV db, .string s] _ _ by rw [← HX.out]; exact bytes_ok _ _ _ _ HS.out H.out).mono ?_); rintro e w2 ⟨A, cap, rfl, _, rfl⟩; rw [HW.out])
    | (at_range; refine wpList_range_own _ rfl _ 61 rfl 9 69 keyed Try.underlying61 Rp x.mb x.mn D rfl HD.out ?_; intro w0 hrg0 hg0 hs0))
  go_frame
  have HR0 := Lib.hid (show (∀ e ∈ x.fs, Maps.has D (.string (kOf e.nm)) = true) from fun e he => by rw [HM.out.has, H.out.names.find he]; rfl)
  have hsm0 : n - (was : Int) = wrp (n - was) := hw1.symm
  go_loopw [8, 10] (fun sum _ wr => ∃ (left : Lit → Bool) (cnt : Nat), wr.ranges Try.prog 9 Rp x.mb w2.heap.size x.mn D left cnt ∧ sum = .int .i64 (wrp (n - was + (restSum (fun k => left (.string k)) x.fs : Nat))) ∧ Kp NoB w2 wr) (fun _ _ wr => wr.rangeLeft x.mb w2.heap.size)
  case atStart => exact ⟨Maps.has D, Maps.size D, hrg0, by rw [restSum_none (fun e he => HR0.out e he)]; simp only [Int.natCast_zero, Int.add_zero]; rw [← hsm0], (Kp.refl NoB w2).grown hg0 (by simp)⟩
  case round =>
    obtain ⟨left, cnt, hrg, rfl, hkp⟩ := hrel
    have HRG := Lib.hid hrg
    have HK := Lib.hid hkp
    obtain ⟨sm, hsm⟩ : ∃ m, wrp (n - (was : Int) + (restSum (fun k => left (.string k)) x.fs : Nat)) = m := ⟨_, rfl⟩
    rw [hsm]
    have HSM := Lib.hid hsm
    clear hkp hrg0 hg0 hs0 hsm hsm0 hw1
    go_wp2_with (at_next; refine wpList_next_ranges _ rfl _ rfl 9 keyed Rp Value.string Value.pointer (fun key kl hk => keyS_inv hk) (fun v y hv => by obtain ⟨p, rfl, _⟩ := Rp_inv hv; exact ⟨p, rfl⟩) x.mb w2.heap.size x.mn D left cnt rfl hrg ?_ ?_)
    · intro _ hl0
      have e1 : sm = wrp (n - (was : Int) + (allSum x.fs : Nat)) := by rw [← HSM.out, restSum_all (fun e _ => hl0 _)]
      have c2 : wr.cell? ⟨db, 2, none⟩ = some (.int .i64 x.room) := by rw [← HX.out, HK.out.cell HB.out.lt (fun q => q), HB.out.cell]; rfl
      have HF : Hid (p.fits s n = if 1048576 < n then 3 else if (was : Int) < n ∧ x.room < sm then 5 else 0) := Lib.hid (by unfold Pl.fits; rw [HP.out.seen, HP.out.sum, HP.out.room, HW.out, e1])
      clear hl0 e1 hrg
      by_cases h0 : (1048576 : Int) < n
      · go_wp2_with fail
        go_ret
        exact ⟨by rw [HF.out, if_pos h0]; rfl, HK.out⟩
      · by_cases h1 : (was : Int) < n
        · by_cases h2 : x.room < sm
          · go_wp2_with fail
            go_ret
            exact ⟨by rw [HF.out, if_neg (by omega), if_pos ⟨h1, h2⟩]; rfl, HK.out⟩
          · go_wp2_with fail
            go_ret
            exact ⟨by rw [HF.out, if_neg (by omega), if_neg (fun q => by omega)]; rfl, HK.out⟩
        · go_wp2_with fail
          go_ret
          exact ⟨by rw [HF.out, if_neg (by omega), if_neg (fun q => by omega)]; rfl, HK.out⟩
    · intro x1 c kl a b w3 cnt3 hkey hlk hv hat hrg3 hlt hg3 hs3 hen
      have hk3 := HK.out.grown hg3 (fun k hk => .inl (by injection hk with hk; omega))
      obtain ⟨e, he, rfl, rfl, B, cp, ce⟩ := next_fact H.out HM.out hk3 hkey hv hat
      have HE := Lib.hid he
      have HLK := Lib.hid hlk
      have HK3 := Lib.hid hk3
      have HR3 := Lib.hid hrg3
      have HLT := Lib.hid hlt
      have hst := restSum_step H.out.names (left := fun k => left (.string k)) he hlk
      have hww : IntKind.i64.wrap (sm + (e.seen.length : Int)) = wrp (sm + e.seen.length) := rfl
      have HST : Hid (wrp (sm + (e.seen.length : Int)) = wrp (n - (was : Int) + (restSum (fun z => left (.string z) && !(z == kOf e.nm)) x.fs : Nat))) := Lib.hid (by rw [← HSM.out, hst, wrp_add]; congr 1; omega)
      clear he hlk hk3 hrg3 hlt hst hkey hv hat hrg hg3 hs3
      go_wp2_with fail
      exact ⟨⟨_, cnt3, HR3.out, by rw [HST.out]; rfl, HK3.out⟩, by rw [HR3.out.left_eq, HRG.out.left_eq]; exact HLT.out⟩
end Go.Proofs.Ytdgjglocgdccbaa
