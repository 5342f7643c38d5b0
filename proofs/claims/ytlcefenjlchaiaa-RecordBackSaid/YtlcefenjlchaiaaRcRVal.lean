/- The reference's value of a type; no condition. -/
import Derived.Test.YtlcefenjlchaiaaRcSame
namespace Go.Proofs.Ytlcefenjlchaiaa
open Go.RowKit
attribute [local go_sem ↓] load47 store47

/-- a value of type t with which bytes begin, and how many bytes it has -/
def rvalF (t : Nat) (s : ByteArray) : Option (RV × Nat) :=
  if t = 0 then some (RV.nul, 0) else
  if t = 9 ∨ t = 10 then some (⟨1, (t : Int) - 9, ByteArray.empty⟩, 0) else
  if t ≤ 8 then (if t ≤ s.size then some (⟨1, valI (natsOf (s.extract 0 t)), ByteArray.empty⟩, t) else none) else
  if t = 11 ∨ 10000 < t then none else
  if (t - 12) / 2 ≤ s.size then (if t % 2 = 0 then some (⟨3, 0, s.extract 0 ((t - 12) / 2)⟩, (t - 12) / 2) else some (⟨2, 0, s.extract 0 ((t - 12) / 2)⟩, (t - 12) / 2)) else none
def rvalR (r : Option (RV × Nat)) : Value := match r with
  | none => .tuple #[.agg #[.int .i64 0, .int .i64 0, .string ⟨#[]⟩], .int .i64 (-1)]
  | some (v, n) => .tuple #[.agg #[.int .i64 v.k, .int .i64 v.i, .string v.s], .int .i64 n]
theorem ret_v {fn : Func} {p u : Tmp} (h : fn.results = #[.cell p 47, .tmp u]) (tmps : Array Value) (w : World) (g : Nat) (t : TypeId) (cs : Array Value)
    (hp : tmps.getD p undef = .pointer (some ⟨g, 0, none⟩)) (hg : Blk w g t cs) (hs : cs.size = 3) (x : Value) (hx : tmps.getD u undef = x) :
    (results fn tmps).run Try.prog w = .ok (.tuple #[.agg cs, x]) w := ret_cell_tmp h tmps w g t cs _ hp hg Try.underlying47 rfl (by rw [hs]; exact info47) x hx
set_option maxRecDepth 100000 in
set_option maxHeartbeats 4000000 in
theorem rval_ok (w : World) (t : Nat) (s : ByteArray) (hs : s.size ≤ 9223372036854775807) (ht : t < 18446744073709551616) :
    Calls Try.prog 29 #[.int .u64 t, .string s] w fun e w' => e = .returned (rvalR (rvalF t s)) ∧ Kp NoB w w' := by
  obtain ⟨r, hr⟩ : ∃ r, rvalF t s = r := ⟨_, rfl⟩
  have HR := Lib.hid hr
  rw [hr]
  clear hr
  rcases (show t = 0 ∨ (t = 9 ∨ t = 10) ∨ (1 ≤ t ∧ t ≤ 8) ∨ (t = 11 ∨ 10000 < t) ∨ (12 ≤ t ∧ t ≤ 10000) by omega) with h | h | ⟨h1, h2⟩ | h | ⟨h1, h2⟩
  · subst h
    obtain rfl : r = some (RV.nul, 0) := by rw [← HR.out]; rfl
    go_enter Try.func29, Try.ntmps29
    go_wp2_with fail
    refine bodyPost_ret (ret_v rfl _ _ _ _ _ rfl (Blk.new w _ _) rfl _ rfl) rfl ?_
    exact ⟨rfl, (Kp.refl _ _).alloc _⟩
  · obtain rfl : r = some (⟨1, (t : Int) - 9, ByteArray.empty⟩, 0) := by
      rw [← HR.out]
      unfold rvalF
      rw [if_neg (by omega), if_pos h]
    rcases h with rfl | rfl
    all_goals
      go_enter Try.func29, Try.ntmps29
      go_wp2_with fail
      refine bodyPost_ret (ret_v rfl _ _ _ _ _ rfl (Blk.new w _ _) rfl _ rfl) rfl ?_
      exact ⟨rfl, (Kp.refl _ _).alloc _⟩
  · have b0 : ((t : Int) == 0) = false := by rw [beq_eq_false_iff_ne]; omega
    have b9 : ((t : Int) == 9) = false := by rw [beq_eq_false_iff_ne]; omega
    have b10 : ((t : Int) == 10) = false := by rw [beq_eq_false_iff_ne]; omega
    have b8 : (t : Int) ≤ 8 := by omega
    by_cases hle : (s.size : Int) < t
    · obtain rfl : r = none := by
        rw [← HR.out]
        unfold rvalF
        rw [if_neg (by omega), if_neg (by omega), if_pos h2, if_neg (by omega)]
      go_enter Try.func29, Try.ntmps29
      go_wp2_with fail
      refine bodyPost_ret (ret_v rfl _ _ _ _ _ rfl (Blk.new w _ _) rfl _ rfl) rfl ?_
      exact ⟨rfl, (Kp.refl _ _).alloc _⟩
    · obtain rfl : r = some (⟨1, valI (natsOf (s.extract 0 t)), ByteArray.empty⟩, t) := by
        rw [← HR.out]
        unfold rvalF
        rw [if_neg (by omega), if_neg (by omega), if_pos h2, if_pos (by omega)]
      have hs0 : 0 < s.size := by omega
      have hsi : (0 : Int) < s.size := by omega
      have hh := nats_head s hs0
      have hx0 : (natsOf (s.extract 0 t)) = (natsOf s).take t := by unfold natsOf; simp
      have HX := Lib.hid (show valI (natsOf (s.extract 0 t)) = foldB (sgn (natsOf s)) ((natsOf s).take t) by
        rw [hx0]
        show foldB (sgn ((natsOf s).take t)) _ = _
        congr 1
        unfold sgn
        cases hq : natsOf s with
        | nil => simp
        | cons b r => cases t with
          | zero => omega
          | succ t => simp)
      have HHD := Lib.hid hh
      have hth := Blk.new w 47 #[.int .i64 0, .int .i64 0, .string ⟨#[]⟩]
      have th3 := hth.thereAll 3 rfl
      have HTH := Lib.hid hth
      have hb0 : (s[0].toNat : Int) < 256 := by have := s[0].toNat_lt; omega
      clear hh hx0 hth
      rcases (show 128 ≤ s[0].toNat ∨ s[0].toNat < 128 by omega) with hsg | hsg
      all_goals
        have HSG : Hid (sgn (natsOf s) = if 128 ≤ s[0].toNat then -1 else 0) := Lib.hid (by unfold sgn; rw [HHD.out])
        first
          | (have hsgi : (128 : Int) ≤ s[0].toNat := by omega)
          | (have hsgi : (s[0].toNat : Int) < 128 := by omega)
        go_enter Try.func29, Try.ntmps29
        go_wp2_with fail
        go_loop [6, 7] (fun x i => ∃ k : Nat, k ≤ t ∧ i = .int .i64 k ∧ x = .int .i64 (foldB (sgn (natsOf s)) ((natsOf s).take k))) (fun _ i => t - (intOf i).toNat)
        case atStart => exact ⟨0, by omega, rfl, by rw [HSG.out]; simp [foldB, hsg]⟩
        case round =>
          obtain ⟨k, hk, rfl, rfl⟩ := hrel
          by_cases hlt : k < t
          · have hks : k < s.size := by omega
            have HT := Lib.hid (natsOf_take s k hks)
            have hbd := sgn_bd (natsOf s) (natsOf_lt s) k (by omega)
            have hby := s[k].toNat_lt
            have hby0 : (0 : Int) ≤ (s[k].toNat : Int) := Int.natCast_nonneg _
            have hby1 : (s[k].toNat : Int) < 256 := by omega
            obtain ⟨x, hx⟩ : ∃ x, foldB (sgn (natsOf s)) ((natsOf s).take k) = x := ⟨_, rfl⟩
            rw [hx] at hbd ⊢
            have HXX := Lib.hid hx
            clear hx
            go_wp2_with fail
            exact ⟨⟨k + 1, by omega, by congr 1, by rw [HT.out, foldB_snoc, HXX.out]⟩, by simp [intOf]; omega⟩
          · obtain rfl : k = t := by omega
            obtain ⟨x, hx⟩ : ∃ x, foldB (sgn (natsOf s)) ((natsOf s).take k) = x := ⟨_, rfl⟩
            rw [hx] at HX ⊢
            clear hx
            have o3 : ones #[.int .i64 1, .int .i64 x, .string ⟨#[]⟩] := by unfold ones; simp [Value.oneCell']
            go_wp2_with fail
            refine bodyPost_ret (ret_v rfl _ _ _ _ _ rfl (HTH.out.whole #[.int .i64 1, .int .i64 x, .string ⟨#[]⟩] rfl) rfl _ rfl) rfl ?_
            exact ⟨by rw [HX.out]; rfl, Kp.setCells (.inl (Nat.le_refl _)) _ _ _ ((Kp.refl _ _).alloc _)⟩
  · obtain rfl : r = none := by
      rw [← HR.out]
      unfold rvalF
      rw [if_neg (by omega), if_neg (by omega), if_neg (by omega), if_pos h]
    have b0 : ((t : Int) == 0) = false := by rw [beq_eq_false_iff_ne]; omega
    have b9 : ((t : Int) == 9) = false := by rw [beq_eq_false_iff_ne]; omega
    have b10 : ((t : Int) == 10) = false := by rw [beq_eq_false_iff_ne]; omega
    have b8 : decide ((t : Int) ≤ 8) = false := by simp; omega
    rcases (show t = 11 ∨ (t ≠ 11 ∧ 10000 < t) by omega) with rfl | ⟨h1, h2⟩
    · clear h
      go_enter Try.func29, Try.ntmps29
      go_wp2_with fail
      refine bodyPost_ret (ret_v rfl _ _ _ _ _ rfl (Blk.new w _ _) rfl _ rfl) rfl ?_
      exact ⟨rfl, (Kp.refl _ _).alloc _⟩
    · have b11 : ((t : Int) == 11) = false := by rw [beq_eq_false_iff_ne]; omega
      have bb : (10000 : Int) < t := by omega
      clear h h1
      go_enter Try.func29, Try.ntmps29
      go_wp2_with fail
      refine bodyPost_ret (ret_v rfl _ _ _ _ _ rfl (Blk.new w _ _) rfl _ rfl) rfl ?_
      exact ⟨rfl, (Kp.refl _ _).alloc _⟩
  · have b0 : ((t : Int) == 0) = false := by rw [beq_eq_false_iff_ne]; omega
    have b9 : ((t : Int) == 9) = false := by rw [beq_eq_false_iff_ne]; omega
    have b10 : ((t : Int) == 10) = false := by rw [beq_eq_false_iff_ne]; omega
    have b8 : decide ((t : Int) ≤ 8) = false := by simp; omega
    have b11 : ((t : Int) == 11) = false := by rw [beq_eq_false_iff_ne]; omega
    have bb : (t : Int) ≤ 10000 := by omega
    have bl : (12 : Int) ≤ t := by omega
    obtain ⟨n, hn⟩ : ∃ n, (t - 12) / 2 = n := ⟨_, rfl⟩
    have hni : ((t : Int) - 12) / 2 = (n : Int) := by omega
    have HNI := Lib.hid hni
    have hn0 : (0 : Int) ≤ ((t : Int) - 12) / 2 := by omega
    have hnt : (((t : Int) - 12) / 2).toNat = n := by omega
    by_cases hle : (s.size : Int) < ((t : Int) - 12) / 2
    · obtain rfl : r = none := by
        rw [← HR.out]
        unfold rvalF
        rw [if_neg (by omega), if_neg (by omega), if_neg (by omega), if_neg (by omega), hn, if_neg (by omega)]
      clear hni hn
      go_enter Try.func29, Try.ntmps29
      go_wp2_with fail
      refine bodyPost_ret (ret_v rfl _ _ _ _ _ rfl (Blk.new w _ _) rfl _ rfl) rfl ?_
      exact ⟨rfl, (Kp.refl _ _).alloc _⟩
    · have hle2 : ((t : Int) - 12) / 2 ≤ s.size := by omega
      by_cases hp : t % 2 = 0
      · have bp : ((t : Int) % 2 == 0) = true := by rw [beq_iff_eq]; omega
        obtain rfl : r = some (⟨3, 0, s.extract 0 n⟩, n) := by
          rw [← HR.out]
          unfold rvalF
          rw [if_neg (by omega), if_neg (by omega), if_neg (by omega), if_neg (by omega), hn, if_pos (by omega), if_pos hp]
        clear hni hn hp hle
        go_enter Try.func29, Try.ntmps29
        go_wp2_with fail
        refine bodyPost_ret (ret_v rfl _ _ _ _ _ rfl (Blk.new w _ _) rfl _ rfl) rfl ?_
        exact ⟨by rw [HNI.out]; rfl, (Kp.refl _ _).alloc _⟩
      · have bp : ((t : Int) % 2 == 0) = false := by rw [beq_eq_false_iff_ne]; omega
        obtain rfl : r = some (⟨2, 0, s.extract 0 n⟩, n) := by
          rw [← HR.out]
          unfold rvalF
          rw [if_neg (by omega), if_neg (by omega), if_neg (by omega), if_neg (by omega), hn, if_pos (by omega), if_neg hp]
        clear hni hn hp hle
        go_enter Try.func29, Try.ntmps29
        go_wp2_with fail
        refine bodyPost_ret (ret_v rfl _ _ _ _ _ rfl (Blk.new w _ _) rfl _ rfl) rfl ?_
        exact ⟨by rw [HNI.out]; rfl, (Kp.refl _ _).alloc _⟩
end Go.Proofs.Ytlcefenjlchaiaa
