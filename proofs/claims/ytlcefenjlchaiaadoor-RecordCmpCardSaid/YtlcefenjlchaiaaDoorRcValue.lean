/- A reader's value of a type, or the panic; no condition. -/
import Derived.Test.YtlcefenjlchaiaaDoorRcNum
namespace Go.Proofs.YtlcefenjlchaiaaDoor
open Go.RowKit

theorem info47 : (Tryd.prog.info? 34).map (·.size) = some 3 := by kernel_rfl
theorem load47 (w : World) (ev : Operand → Value) (ds : Option Tmp) (x : Operand) (ty : TypeId) (ps : String) (af : Array Edge) (g : Option (Nat × Bool)) (h : thereP w (ev x) 3) :
    (execOp ev ⟨ds, .load 34 x, ty, ps, af, g⟩).run Tryd.prog w = .ok (.value (.agg (readP w (ev x) 3))) w := execLoad_P Tryd.underlying34 rfl info47 w ev ds x ty ps af g h
theorem store47 (w : World) (ev : Operand → Value) (ds : Option Tmp) (x y : Operand) (ty : TypeId) (ps : String) (af : Array Edge) (g : Option (Nat × Bool)) (hv : aggOK (ev y) 3) (h : thereP w (ev x) 3) :
    (execOp ev ⟨ds, .store 34 x y, ty, ps, af, g⟩).run Tryd.prog w = .ok .skip (setP w (ev x) (ev y)) := execStore_P info47 w ev ds x y ty ps af g hv h

def foldB (a : Int) (l : List Nat) : Int := l.foldl (fun (a : Int) (b : Nat) => a * 256 + (b : Int)) a
def valI (l : List Nat) : Int := foldB (if 128 ≤ l.headD 0 then -1 else 0) l
/-- a value of type t that stands at place a, and where it ends -/
def valF (t : Nat) (s : ByteArray) (a : Nat) : Option (RV × Nat) :=
  if t = 0 then some (RV.nul, a) else
  if t ≤ 8 then (if a + t ≤ s.size then some (⟨1, valI (natsOf (s.extract a (a + t))), ByteArray.empty⟩, a + t) else none) else
  if t ≤ 10 then some (⟨1, (t : Int) - 9, ByteArray.empty⟩, a) else
  if t = 11 then none else
  if t % 2 = 0 then (if a + (t - 12) / 2 ≤ s.size then some (⟨3, 0, s.extract a (a + (t - 12) / 2)⟩, a + (t - 12) / 2) else none)
  else (if a + (t - 13) / 2 ≤ s.size then some (⟨2, 0, s.extract a (a + (t - 13) / 2)⟩, a + (t - 13) / 2) else none)
theorem foldB_bd : ∀ (l : List Nat) (a : Int) (k : Nat), (∀ b ∈ l, b < 256) → -(2 ^ k : Int) ≤ a → a < 2 ^ k → -(2 ^ (k + 8 * l.length) : Int) ≤ foldB a l ∧ foldB a l < 2 ^ (k + 8 * l.length)
  | [], a, k, _, h1, h2 => by simpa [foldB] using ⟨h1, h2⟩
  | b :: l, a, k, hb, h1, h2 => by
    have hb1 := hb b (by simp)
    have e : (2 : Int) ^ (k + 8) = 2 ^ k * 256 := by rw [Int.pow_add]; rfl
    have := foldB_bd l (a * 256 + b) (k + 8) (fun x hx => hb x (by simp [hx])) (by rw [e]; omega) (by rw [e]; omega)
    rw [List.length_cons, show k + 8 * (l.length + 1) = k + 8 + 8 * l.length by omega]
    exact this
theorem or_i64 (x : Int) (b : Nat) (hb : b < 256) (h1 : -36028797018963968 ≤ x) (h2 : x < 36028797018963968) : bits BinOp.or IntKind.i64 (x * 256) b = x * 256 + b := by
  have e : bits BinOp.or IntKind.i64 (x * 256) b = IntKind.i64.wrap ((BitVec.ofInt 64 (x * 256) ||| BitVec.ofInt 64 b).toNat) := rfl
  obtain ⟨M, hM⟩ : ∃ M : Nat, (M : Int) = x % 72057594037927936 := ⟨(x % 72057594037927936).toNat, by omega⟩
  have e1 : BitVec.ofInt 64 (x * 256) = BitVec.ofNat 64 (M * 256) := by
    apply BitVec.eq_of_toNat_eq
    rw [BitVec.toNat_ofInt, BitVec.toNat_ofNat]
    omega
  have e2 : BitVec.ofInt 64 (b : Int) = BitVec.ofNat 64 b := BitVec.ofInt_natCast _ _
  rw [e, e1, e2, BitVec.toNat_or, BitVec.toNat_ofNat, BitVec.toNat_ofNat, Nat.mod_eq_of_lt (by omega), Nat.mod_eq_of_lt (by omega)]
  have h := Nat.shiftLeft_add_eq_or_of_lt (i := 8) (b := b) (by omega) M
  rw [Nat.shiftLeft_eq] at h
  have h' : M * 256 ||| b = M * 256 + b := h.symm
  rw [h', IntKind.wrap_i64]
  omega
def ValPost (w : World) (g : Nat) (s : ByteArray) (r : Option (RV × Nat)) (e : Ending) (w' : World) : Prop :=
  match r with
  | none => e = brkE ∧ Kp (OnB g) w w'
  | some (v, a) => e = .returned (.agg v.cells) ∧ Kp (OnB g) w w' ∧ Rd w' g s a
theorem foldB_snoc (a : Int) (l : List Nat) (b : Nat) : foldB a (l ++ [b]) = foldB a l * 256 + b := by
  unfold foldB
  rw [List.foldl_append]
  rfl
def sgn (l : List Nat) : Int := if 128 ≤ l.headD 0 then -1 else 0
theorem sgn_bd (l : List Nat) (hb : ∀ b ∈ l, b < 256) (k : Nat) (hk : k ≤ 7) : -36028797018963968 ≤ foldB (sgn l) (l.take k) ∧ foldB (sgn l) (l.take k) < 36028797018963968 := by
  cases l with
  | nil => simp [sgn, foldB]
  | cons b r =>
    cases k with
    | zero => simp only [List.take_zero, foldB, List.foldl_nil]; unfold sgn; split <;> omega
    | succ k =>
      have hb1 := hb b (by simp)
      have h1 : -(2 ^ 7 : Int) ≤ sgn (b :: r) * 256 + b ∧ sgn (b :: r) * 256 + b < 2 ^ 7 := by
        have e7 : (2 : Int) ^ 7 = 128 := by decide
        rw [e7]
        by_cases hq : 128 ≤ b
        · rw [show sgn (b :: r) = -1 from if_pos hq]; omega
        · rw [show sgn (b :: r) = 0 from if_neg hq]; omega
      have := foldB_bd (r.take k) _ 7 (fun x hx => hb x (by simp [List.mem_of_mem_take hx])) h1.1 h1.2
      have hl := List.length_take_le k r
      have hp : (2 : Int) ^ (7 + 8 * (r.take k).length) ≤ 2 ^ 55 := by
        have := Nat.pow_le_pow_right (n := 2) (by omega) (show 7 + 8 * (r.take k).length ≤ 55 by omega)
        exact_mod_cast this
      have e : (2 : Int) ^ 55 = 36028797018963968 := by decide
      rw [e] at hp
      show -36028797018963968 ≤ foldB (sgn (b :: r) * 256 + b) (r.take k) ∧ foldB (sgn (b :: r) * 256 + b) (r.take k) < 36028797018963968
      omega
theorem natsOf_take (s : ByteArray) (k : Nat) (h : k < s.size) : (natsOf s).take (k + 1) = (natsOf s).take k ++ [s[k].toNat] := by
  have hl : k < (natsOf s).length := by rw [natsOf_len]; exact h
  rw [List.take_succ_eq_append_getElem hl]
  congr 2
  simp [natsOf]
  rfl
theorem nats_head (s : ByteArray) (h : 0 < s.size) : (natsOf s).headD 0 = s[0].toNat := by
  have := natsOf_drop s 0 h
  rw [List.drop_zero] at this
  rw [this]
  rfl
theorem i8_byte (b : Nat) (hb : b < 256) : IntKind.i8.wrap (b : Int) = if 128 ≤ b then (b : Int) - 256 else b := by
  have H : ∀ n : Fin 256, IntKind.i8.wrap (n.val : Int) = if 128 ≤ n.val then (n.val : Int) - 256 else n.val := by decide +kernel
  exact H ⟨b, hb⟩
attribute [local go_sem ↓] load47 store47

set_option maxRecDepth 100000 in
set_option maxHeartbeats 4000000 in
theorem value_ok (w : World) (g : Nat) (s : ByteArray) (a t : Nat) (hs : s.size ≤ 9223372036854775807) (ha : a ≤ s.size) (ht : t < 18446744073709551616) (hb : Rd w g s a) :
    Calls Tryd.prog 21 #[.pointer (some ⟨g, 0, none⟩), .int .u64 t] w (ValPost w g s (valF t s a)) := by
  have HB := Lib.hid hb
  have hnb := Blk.new w 34 #[.int .i64 0, .int .i64 0, .string ByteArray.empty]
  have th := hnb.thereAll 3 rfl
  have HNB := Lib.hid hnb
  have hbl := hb.lt
  clear hb hnb
  obtain ⟨r, hr⟩ : ∃ r, valF t s a = r := ⟨_, rfl⟩
  have HR := Lib.hid hr
  rw [hr]
  clear hr
  rcases (show t = 0 ∨ (1 ≤ t ∧ t ≤ 8) ∨ (9 ≤ t ∧ t ≤ 10) ∨ t = 11 ∨ (12 ≤ t ∧ t % 2 = 0) ∨ (12 ≤ t ∧ t % 2 ≠ 0) by omega) with h | ⟨h1, h2⟩ | ⟨h1, h2⟩ | h | ⟨h1, h2⟩ | ⟨h1, h2⟩
  · subst h
    obtain rfl : r = some (RV.nul, a) := by rw [← HR.out]; rfl
    have o3 : ones #[.int .i64 0, .int .i64 0, .string ByteArray.empty] := by unfold ones; simp [Value.oneCell']
    go_enter Tryd.func21, Tryd.ntmps21
    go_wp2_with fail
    refine bodyPost_ret (ret_cell1 rfl _ _ _ _ _ _ rfl (Blk.new w _ _) Tryd.underlying34 rfl info47) rfl ?_
    exact ⟨rfl, (Kp.refl _ _).alloc _, HB.out.alloc _⟩
  · have b0 : ((t : Int) == 0) = false := by rw [beq_eq_false_iff_ne]; omega
    have b8 : (t : Int) ≤ 8 := by omega
    have HRB := Lib.hid (HB.out.alloc (.cells #[.int .i64 0, .int .i64 0, .string ByteArray.empty] 34))
    by_cases hle : a + t ≤ s.size
    · obtain ⟨p, hp⟩ : ∃ p, s.extract a (a + t) = p := ⟨_, rfl⟩
      have hpz : p.size = t := by rw [← hp]; simp; omega
      obtain rfl : r = some (⟨1, valI (natsOf p), ByteArray.empty⟩, a + t) := by
        rw [← HR.out]
        unfold valF
        rw [if_neg (by omega), if_pos h2, if_pos hle, hp]
      have HP := Lib.hid (show ∀ W e w', TakePost W g s a t e w' = (e = .returned (.string p) ∧ Kp (OnB g) W w' ∧ Rd w' g s (a + t)) from fun W e w' => by rw [← hp]; exact if_pos hle)
      have HPZ := Lib.hid hpz
      have hp0 : (0 : Int) < p.size := by omega
      have hp0' : 0 < p.size := by omega
      have hp8 : (p.size : Int) ≤ 8 := by omega
      clear hp hle hpz
      go_enter Tryd.func21, Tryd.ntmps21
      go_wp2_with (go_at_call 34; go_must (refine (take_ok _ g s a t hs ha ht HRB.out).mono ?_); rintro e w2 hq; rw [HP.out] at hq; obtain ⟨rfl, hk2, hr2⟩ := hq; have HK2 := Lib.hid hk2; have HR2 := Lib.hid hr2; have hb2 := HNB.out.keep hk2 (fun q => by unfold OnB at q; omega); have HB2 := Lib.hid hb2; have th2 := hb2.thereAll 3 rfl; clear hk2 hr2 hb2)
      go_loop [6, 7] (fun x i => ∃ k : Nat, 1 ≤ k ∧ k ≤ p.size ∧ i = .int .i64 k ∧ x = .int .i64 (foldB (sgn (natsOf p)) ((natsOf p).take k))) (fun _ i => p.size - (intOf i).toNat)
      case atStart =>
        refine ⟨1, by omega, by omega, rfl, ?_⟩
        have hn := natsOf_take p 0 hp0'
        rw [hn, List.take_zero, List.nil_append]
        have hb := p[0].toNat_lt
        have hs : sgn (natsOf p) = if 128 ≤ p[0].toNat then -1 else 0 := by unfold sgn; rw [nats_head p hp0']
        rw [hs, i8_byte _ hb]
        congr 1
        unfold foldB
        simp only [List.foldl_cons, List.foldl_nil]
        by_cases hq : 128 ≤ p[0].toNat
        · rw [if_pos hq, if_pos hq, wrap64]; omega
        · rw [if_neg hq, if_neg hq, wrap64]; omega
      case round =>
        obtain ⟨k, hk1, hk, rfl, rfl⟩ := hrel
        by_cases hlt : k < p.size
        · have HT := Lib.hid (natsOf_take p k hlt)
          have hbd := sgn_bd (natsOf p) (natsOf_lt p) k (by omega)
          have hby := p[k].toNat_lt
          have hby0 : (0 : Int) ≤ (p[k].toNat : Int) := Int.natCast_nonneg _
          have hby1 : (p[k].toNat : Int) < 256 := by omega
          obtain ⟨x, hx⟩ : ∃ x, foldB (sgn (natsOf p)) ((natsOf p).take k) = x := ⟨_, rfl⟩
          rw [hx] at hbd ⊢
          have HX := Lib.hid hx
          have ho := or_i64 x p[k].toNat hby hbd.1 hbd.2
          clear hx
          go_wp2_with fail
          exact ⟨⟨k + 1, by omega, by omega, by congr 1, by rw [HT.out, foldB_snoc, HX.out]⟩, by simp [intOf]; omega⟩
        · obtain rfl : k = p.size := by omega
          have HV := Lib.hid (show foldB (sgn (natsOf p)) ((natsOf p).take p.size) = valI (natsOf p) by rw [List.take_of_length_le (by rw [natsOf_len]; exact Nat.le_refl _)]; rfl)
          obtain ⟨x, hx⟩ : ∃ x, foldB (sgn (natsOf p)) ((natsOf p).take p.size) = x := ⟨_, rfl⟩
          rw [hx] at HV ⊢
          clear hx
          have o3 : ones #[.int .i64 1, .int .i64 x, .string ⟨#[]⟩] := by unfold ones; simp [Value.oneCell']
          go_wp2_with fail
          refine bodyPost_ret (ret_cell1 rfl _ _ _ _ _ _ rfl (HB2.out.whole #[.int .i64 1, .int .i64 x, .string ⟨#[]⟩] rfl) Tryd.underlying34 rfl info47) rfl ?_
          exact ⟨by rw [HV.out]; rfl, Kp.setCells (S := OnB g) (.inl (Nat.le_refl _)) _ _ _ (((Kp.refl (OnB g) w).alloc _).trans HK2.out (fun _ _ q => q)), HR2.out.farCells (by omega) _ _ _⟩
    · obtain rfl : r = none := by
        rw [← HR.out]
        unfold valF
        rw [if_neg (by omega), if_pos h2, if_neg hle]
      have HP := Lib.hid (show ∀ W e w', TakePost W g s a t e w' = (e = .panicked [{ v := brkV, recovered := false }] ∧ Kp (OnB g) W w') from fun W e w' => if_neg hle)
      clear hle
      go_enter Tryd.func21, Tryd.ntmps21
      go_wp2_with (go_at_call 34; go_must (refine (take_ok _ g s a t hs ha ht HRB.out).mono ?_); rintro e w2 hq; rw [HP.out] at hq; obtain ⟨rfl, hk2⟩ := hq; have HK2 := Lib.hid hk2; clear hk2)
      exact ⟨rfl, rfl, ((Kp.refl (OnB g) w).alloc _).trans HK2.out (fun _ _ q => q)⟩
  · obtain rfl : r = some (⟨1, (t : Int) - 9, ByteArray.empty⟩, a) := by
      rw [← HR.out]
      unfold valF
      rw [if_neg (by omega), if_neg (by omega), if_pos (by omega)]
    have b0 : ((t : Int) == 0) = false := by rw [beq_eq_false_iff_ne]; omega
    have b8 : decide ((t : Int) ≤ 8) = false := by simp; omega
    have b10 : (t : Int) ≤ 10 := by omega
    have h9 : (9 : Int) ≤ t := by omega
    have o3 : ones #[.int .i64 1, .int .i64 ((t : Int) - 9), .string ByteArray.empty] := by unfold ones; simp [Value.oneCell']
    clear h1 h2
    go_enter Tryd.func21, Tryd.ntmps21
    go_wp2_with fail
    refine bodyPost_ret (ret_cell1 rfl _ _ _ _ _ _ rfl (Blk.new w _ _) Tryd.underlying34 rfl info47) rfl ?_
    exact ⟨rfl, (Kp.refl _ _).alloc _, HB.out.alloc _⟩
  · subst h
    obtain rfl : r = none := by rw [← HR.out]; rfl
    go_enter Tryd.func21, Tryd.ntmps21
    go_wp2_with fail
    exact ⟨rfl, rfl, (Kp.refl _ _).alloc _⟩
  · have b0 : ((t : Int) == 0) = false := by rw [beq_eq_false_iff_ne]; omega
    have b8 : decide ((t : Int) ≤ 8) = false := by simp; omega
    have b10 : decide ((t : Int) ≤ 10) = false := by simp; omega
    have b11 : ((t : Int) == 11) = false := by rw [beq_eq_false_iff_ne]; omega
    have bp : ((t : Int) % 2 == 0) = true := by rw [beq_iff_eq]; omega
    obtain ⟨n, hn⟩ : ∃ n, (t - 12) / 2 = n := ⟨_, rfl⟩
    have hni : ((t : Int) - 12) / 2 = (n : Int) := by omega
    have hlo : (12 : Int) ≤ t := by omega
    have hnb : n < 18446744073709551616 := by omega
    have hsub : IntKind.u64.wrap ((t : Int) - 12) = (t : Int) - 12 := by rw [IntKind.wrap_u64]; omega
    have HRB := Lib.hid (HB.out.alloc (.cells #[.int .i64 0, .int .i64 0, .string ByteArray.empty] 34))
    by_cases hle : a + n ≤ s.size
    · obtain rfl : r = some (⟨3, 0, s.extract a (a + n)⟩, a + n) := by
        rw [← HR.out]
        unfold valF
        rw [if_neg (by omega), if_neg (by omega), if_neg (by omega), if_neg (by omega), if_pos h2]
        rw [hn, if_pos hle]
      have HP := Lib.hid (show ∀ W e w', TakePost W g s a n e w' = (e = .returned (.string (s.extract a (a + n))) ∧ Kp (OnB g) W w' ∧ Rd w' g s (a + n)) from fun W e w' => if_pos hle)
      have HN := Lib.hid hni
      clear h1 h2 hn hle hni
      go_enter Tryd.func21, Tryd.ntmps21
      go_wp2_with (go_at_call 34; rw [HN.out]; go_must (refine (take_ok _ g s a n hs ha hnb HRB.out).mono ?_); rintro e w2 hq; rw [HP.out] at hq; obtain ⟨rfl, hk2, hr2⟩ := hq; have HK2 := Lib.hid hk2; have HR2 := Lib.hid hr2; have hb2 := HNB.out.keep hk2 (fun q => by unfold OnB at q; omega); have HB2 := Lib.hid hb2; have th2 := hb2.thereAll 3 rfl; have o3 : ones #[.int .i64 3, .int .i64 0, .string (s.extract a (a + n))] := (by unfold ones; simp [Value.oneCell']); clear hk2 hr2 hb2)
      refine bodyPost_ret (ret_cell1 rfl _ _ _ _ _ _ rfl (HB2.out.whole #[.int .i64 3, .int .i64 0, .string (s.extract a (a + n))] rfl) Tryd.underlying34 rfl info47) rfl ?_
      exact ⟨rfl, Kp.setCells (S := OnB g) (.inl (Nat.le_refl _)) _ _ _ (((Kp.refl (OnB g) w).alloc _).trans HK2.out (fun _ _ q => q)), HR2.out.farCells (by omega) _ _ _⟩
    · obtain rfl : r = none := by
        rw [← HR.out]
        unfold valF
        rw [if_neg (by omega), if_neg (by omega), if_neg (by omega), if_neg (by omega), if_pos h2]
        rw [hn, if_neg hle]
      have HP := Lib.hid (show ∀ W e w', TakePost W g s a n e w' = (e = .panicked [{ v := brkV, recovered := false }] ∧ Kp (OnB g) W w') from fun W e w' => if_neg hle)
      have HN := Lib.hid hni
      clear h1 h2 hn hle hni
      go_enter Tryd.func21, Tryd.ntmps21
      go_wp2_with (go_at_call 34; rw [HN.out]; go_must (refine (take_ok _ g s a n hs ha hnb HRB.out).mono ?_); rintro e w2 hq; rw [HP.out] at hq; obtain ⟨rfl, hk2⟩ := hq; have HK2 := Lib.hid hk2; clear hk2)
      exact ⟨rfl, rfl, ((Kp.refl (OnB g) w).alloc _).trans HK2.out (fun _ _ q => q)⟩
  · have b0 : ((t : Int) == 0) = false := by rw [beq_eq_false_iff_ne]; omega
    have b8 : decide ((t : Int) ≤ 8) = false := by simp; omega
    have b10 : decide ((t : Int) ≤ 10) = false := by simp; omega
    have b11 : ((t : Int) == 11) = false := by rw [beq_eq_false_iff_ne]; omega
    have bp : ((t : Int) % 2 == 0) = false := by rw [beq_eq_false_iff_ne]; omega
    obtain ⟨n, hn⟩ : ∃ n, (t - 13) / 2 = n := ⟨_, rfl⟩
    have hni : ((t : Int) - 13) / 2 = (n : Int) := by omega
    have hlo : (13 : Int) ≤ t := by omega
    have hnb : n < 18446744073709551616 := by omega
    have hsub : IntKind.u64.wrap ((t : Int) - 13) = (t : Int) - 13 := by rw [IntKind.wrap_u64]; omega
    have HRB := Lib.hid (HB.out.alloc (.cells #[.int .i64 0, .int .i64 0, .string ByteArray.empty] 34))
    by_cases hle : a + n ≤ s.size
    · obtain rfl : r = some (⟨2, 0, s.extract a (a + n)⟩, a + n) := by
        rw [← HR.out]
        unfold valF
        rw [if_neg (by omega), if_neg (by omega), if_neg (by omega), if_neg (by omega), if_neg h2]
        rw [hn, if_pos hle]
      have HP := Lib.hid (show ∀ W e w', TakePost W g s a n e w' = (e = .returned (.string (s.extract a (a + n))) ∧ Kp (OnB g) W w' ∧ Rd w' g s (a + n)) from fun W e w' => if_pos hle)
      have HN := Lib.hid hni
      clear h1 h2 hn hle hni
      go_enter Tryd.func21, Tryd.ntmps21
      go_wp2_with (go_at_call 34; rw [HN.out]; go_must (refine (take_ok _ g s a n hs ha hnb HRB.out).mono ?_); rintro e w2 hq; rw [HP.out] at hq; obtain ⟨rfl, hk2, hr2⟩ := hq; have HK2 := Lib.hid hk2; have HR2 := Lib.hid hr2; have hb2 := HNB.out.keep hk2 (fun q => by unfold OnB at q; omega); have HB2 := Lib.hid hb2; have th2 := hb2.thereAll 3 rfl; have o3 : ones #[.int .i64 2, .int .i64 0, .string (s.extract a (a + n))] := (by unfold ones; simp [Value.oneCell']); clear hk2 hr2 hb2)
      refine bodyPost_ret (ret_cell1 rfl _ _ _ _ _ _ rfl (HB2.out.whole #[.int .i64 2, .int .i64 0, .string (s.extract a (a + n))] rfl) Tryd.underlying34 rfl info47) rfl ?_
      exact ⟨rfl, Kp.setCells (S := OnB g) (.inl (Nat.le_refl _)) _ _ _ (((Kp.refl (OnB g) w).alloc _).trans HK2.out (fun _ _ q => q)), HR2.out.farCells (by omega) _ _ _⟩
    · obtain rfl : r = none := by
        rw [← HR.out]
        unfold valF
        rw [if_neg (by omega), if_neg (by omega), if_neg (by omega), if_neg (by omega), if_neg h2]
        rw [hn, if_neg hle]
      have HP := Lib.hid (show ∀ W e w', TakePost W g s a n e w' = (e = .panicked [{ v := brkV, recovered := false }] ∧ Kp (OnB g) W w') from fun W e w' => if_neg hle)
      have HN := Lib.hid hni
      clear h1 h2 hn hle hni
      go_enter Tryd.func21, Tryd.ntmps21
      go_wp2_with (go_at_call 34; rw [HN.out]; go_must (refine (take_ok _ g s a n hs ha hnb HRB.out).mono ?_); rintro e w2 hq; rw [HP.out] at hq; obtain ⟨rfl, hk2⟩ := hq; have HK2 := Lib.hid hk2; clear hk2)
      exact ⟨rfl, rfl, ((Kp.refl (OnB g) w).alloc _).trans HK2.out (fun _ _ q => q)⟩
end Go.Proofs.YtlcefenjlchaiaaDoor
