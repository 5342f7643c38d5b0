/- A reader's number and take: what stands next, or the panic; no condition. -/
import Derived.Test.YtlcefenjlchaiaaDoorRcREnc
import Derived.Defers
import Derived.Recover
import Derived.Laws.Pointers
namespace Go.Proofs.YtlcefenjlchaiaaDoor
open Go.RowKit

def brkV : Value := .iface 47 (.agg #[])
def brkE : Ending := .panicked [{ v := brkV, recovered := false }]
/-- a reader in block g -/
def Rd (w : World) (g : Nat) (s : ByteArray) (a : Nat) : Prop := Blk w g 51 #[.string s, .int .i64 a]
def NumPost (w : World) (g : Nat) (s : ByteArray) (a : Nat) (r : Option (Nat × Nat)) (e : Ending) (w' : World) : Prop :=
  match r with
  | none => e = brkE ∧ Kp (OnB g) w w'
  | some (u, n) => e = .returned (.int .u64 u) ∧ Kp (OnB g) w w' ∧ Rd w' g s (a + n)
theorem varR_none : varR none = .tuple #[.int .u64 0, .int .i64 0, .int .i64 8] := rfl
theorem varR_some (u n : Nat) : varR (some (u, n)) = .tuple #[.int .u64 u, .int .i64 n, .int .i64 0] := rfl
theorem varF_facts (s : ByteArray) (u n : Nat) (h : varF s = some (u, n)) : u < 18446744073709551616 ∧ 1 ≤ n ∧ n ≤ 9 ∧ n ≤ s.size := by
  unfold varF at h
  cases hq : scanV 0 0 (natsOf s) with
  | none => rw [hq] at h; cases h
  | some q =>
    rw [hq] at h
    have := scan_iff (natsOf s) q (natsOf_lt s) hq
    simp only [Option.bind_some] at h
    split at h
    · simp only [Option.some.injEq] at h
      subst h
      rw [natsOf_len] at this
      exact ⟨this.1, this.2.1, this.2.2.1, this.2.2.2.1⟩
    · cases h
set_option maxRecDepth 100000 in
set_option maxHeartbeats 1600000 in
theorem number_ok (w : World) (g : Nat) (s : ByteArray) (a : Nat) (hs : s.size ≤ 9223372036854775807) (ha : a ≤ s.size) (hb : Rd w g s a) :
    Calls Tryd.prog 20 #[.pointer (some ⟨g, 0, none⟩)] w (NumPost w g s a (varF (s.extract a s.size))) := by
  have HB := Lib.hid hb
  have c0 := hb.cell 0
  have c1 := hb.cell 1
  have z1 := hb.frozen 1
  have ha' : (a : Int) ≤ s.size := by omega
  have hx : (s.extract a s.size).size ≤ 9223372036854775807 := by simp; omega
  clear hb
  obtain ⟨r, hr⟩ : ∃ r, varF (s.extract a s.size) = r := ⟨_, rfl⟩
  have HR := Lib.hid hr
  rw [hr]
  clear hr
  rcases r with _ | ⟨u, n⟩
  · go_enter Tryd.func20, Tryd.ntmps20
    go_wp2_with fail
    go_region_held3 (fun w' => w'.cell? ⟨g, 0, none⟩ = some (.string s) ∧ w'.cell? ⟨g, 1, none⟩ = some (.int .i64 a)) (first | exact ⟨(HB.out.keep HK2.out (fun q => q)).cell 0, (HB.out.keep HK2.out (fun q => q)).cell 1⟩ | go_keep) ((go_at_call 33; go_must (refine (varint_ok _ _ hx).mono ?_); rw [HR.out, varR_none]; rintro e w2 ⟨rfl, hk2⟩; have HK2 := Lib.hid ((Kp.refl NoB w).drew.trans hk2 (fun _ _ q => q)); clear hk2))
    go_wp2_with fail
    exact ⟨rfl, rfl, HK2.out.mono (fun _ _ q => q.elim)⟩
  · have hf := varF_facts _ _ _ HR.out
    have han : (a : Int) + n ≤ s.size := by have := hf.2.2.2; simp at this; omega
    have hn0 : (0 : Int) ≤ n := by omega
    have HF := Lib.hid hf
    clear hf
    go_enter Tryd.func20, Tryd.ntmps20
    go_wp2_with fail
    go_region_held3 (fun w' => w'.cell? ⟨g, 0, none⟩ = some (.string s) ∧ w'.cell? ⟨g, 1, none⟩ = some (.int .i64 a)) (first | exact ⟨(HB.out.keep HK2.out (fun q => q)).cell 0, (HB.out.keep HK2.out (fun q => q)).cell 1⟩ | go_keep) ((go_at_call 33; go_must (refine (varint_ok _ _ hx).mono ?_); rw [HR.out, varR_some]; rintro e w2 ⟨rfl, hk2⟩; have HK2 := Lib.hid ((Kp.refl NoB w).drew.trans hk2 (fun _ _ q => q)); clear hk2))
    have d1 : w2.cell? ⟨g, 1, none⟩ = some (.int .i64 a) := (HB.out.keep HK2.out (fun q => q)).cell 1
    have dz := (HB.out.keep HK2.out (fun q => q)).frozen 1
    go_wp2_with fail
    go_ret
    exact ⟨rfl, (HK2.out.mono (S' := OnB g) (fun _ _ q => q.elim)).setCell (p := ⟨g, 1, none⟩) (.inr rfl) _, (HB.out.keep HK2.out (fun q => q)).set_ 1 _⟩
def TakePost (w : World) (g : Nat) (s : ByteArray) (a m : Nat) (e : Ending) (w' : World) : Prop :=
  if a + m ≤ s.size then e = .returned (.string (s.extract a (a + m))) ∧ Kp (OnB g) w w' ∧ Rd w' g s (a + m) else e = brkE ∧ Kp (OnB g) w w'
set_option maxRecDepth 100000 in
set_option maxHeartbeats 1600000 in
theorem take_ok (w : World) (g : Nat) (s : ByteArray) (a m : Nat) (hs : s.size ≤ 9223372036854775807) (ha : a ≤ s.size) (hm : m < 18446744073709551616) (hb : Rd w g s a) :
    Calls Tryd.prog 34 #[.pointer (some ⟨g, 0, none⟩), .int .u64 m] w (TakePost w g s a m) := by
  have HB := Lib.hid hb
  have c0 : w.cell? ⟨g, 0, none⟩ = some (.string s) := hb.cell 0
  have c1 : w.cell? ⟨g, 1, none⟩ = some (.int .i64 a) := hb.cell 1
  have z1 := hb.frozen 1
  have ha' : (a : Int) ≤ s.size := by omega
  have hw1 : IntKind.i64.wrap ((s.size : Int) - a) = (s.size : Int) - a := by rw [IntKind.wrap_i64]; omega
  have hw2 : IntKind.u64.wrap ((s.size : Int) - a) = (s.size : Int) - a := by rw [IntKind.wrap_u64]; omega
  clear hb
  by_cases h : a + m ≤ s.size
  · have HP := Lib.hid (show ∀ e w', TakePost w g s a m e w' = (e = .returned (.string (s.extract a (a + m))) ∧ Kp (OnB g) w w' ∧ Rd w' g s (a + m)) from fun e w' => if_pos h)
    have hlt : (m : Int) ≤ (s.size : Int) - a := by omega
    have hsum : (a : Int) + m ≤ s.size := by omega
    have hsum0 : (a : Int) ≤ a + m := by omega
    have hn0 : (0 : Int) ≤ m := by omega
    have htn : ((a : Int) + m).toNat = a + m := by omega
    clear h
    go_enter Tryd.func34, Tryd.ntmps34
    go_wp2_with fail
    go_quiet (fail)
    go_wp2_with fail
    refine forget (p := fun wx => Code.wp _ _ _ _ wx) (fun W => Kp (OnB g) w W ∧ Rd W g s (a + m)) ⟨((Kp.refl (OnB g) w).drewN _).setCell (p := ⟨g, 1, none⟩) (.inr rfl) _, (HB.out.drewN _).set_ 1 _⟩ ?_
    rintro W ⟨hk, hr⟩
    have HK := Lib.hid hk
    have HRd := Lib.hid hr
    have d0 : W.cell? ⟨g, 0, none⟩ = some (.string s) := hr.cell 0
    have d1 : W.cell? ⟨g, 1, none⟩ = some (.int .i64 ((a : Int) + m)) := hr.cell 1
    clear hk hr c0 c1 z1
    go_quiet (fail)
    go_wp2_with fail
    go_ret
    rw [HP.out]
    exact ⟨rfl, HK.out.drewN _, HRd.out.drewN _⟩
  · have HP := Lib.hid (show ∀ e w', TakePost w g s a m e w' = (e = brkE ∧ Kp (OnB g) w w') from fun e w' => if_neg h)
    have hlt : (s.size : Int) - a < m := by omega
    clear h
    go_enter Tryd.func34, Tryd.ntmps34
    go_wp2_with fail
    go_quiet (fail)
    go_wp2_with fail
    refine ⟨rfl, ?_⟩
    rw [HP.out]
    exact ⟨rfl, (Kp.refl _ _).drewN _⟩
end Go.Proofs.YtlcefenjlchaiaaDoor
