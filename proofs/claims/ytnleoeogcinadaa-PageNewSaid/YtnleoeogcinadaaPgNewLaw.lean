/- PageNew: the walk of the law; condition: none. -/
import Derived.Test.YtnleoeogcinadaaPgAwake
import Derived.Test.YtnleoeogcinadaaPgRefNew
import Derived.Test.YtnleoeogcinadaaSrc
namespace Go.Proofs.Ytnleoeogcinadaa
open Go.RowKit
attribute [local go_sem ↓] load26 store26 alloc26 build26 slice26lo eql26 neq26

theorem newR_page (kind link : Int) (xs : List ByteArray) : ∃ L : List Int, (newR kind link xs).1 = bytesV L ∧ L.length = 256 := by
  have hz : ∃ L : List Int, zero256 = bytesV L ∧ L.length = 256 := ⟨zeros 256, rfl, List.length_replicate ..⟩
  unfold newR
  split
  · exact hz
  · split
    · exact hz
    · unfold toldR
      split
      · exact hz
      · exact ⟨layI kind link xs, rfl, layI_len kind link xs (by omega)⟩
/-- in the midst of PageNew -/
structure PNS (w : World) (A B : Option Addr) (n : Nat) (xs : List ByteArray) (g1 g2 : Nat) (L : List Int) (W : World) : Prop where
  kp : Kp NoB w W
  s0 : Sl W A n xs
  s1 : Sl W B n xs
  b1 : Blk W g1 26 (bytesV L)
  b2 : Blk W g2 26 (bytesV L)
theorem PNS.drewN {w : World} {A B : Option Addr} {n : Nat} {xs : List ByteArray} {g1 g2 : Nat} {L : List Int} {W : World} (h : PNS w A B n xs g1 g2 L W) (k : Nat) : PNS w A B n xs g1 g2 L (W.drewN k) :=
  ⟨h.kp.drewN k, h.s0, h.s1, h.b1, h.b2⟩
theorem strs_src {w : World} {A : Option Addr} {n : Nat} {xs : List ByteArray} (h : Sl w A n xs) : 0 < n → ∃ g o, A = some ⟨g, o, none⟩ ∧ ∀ j u, (xs.map Value.string)[j]? = some u → w.cell? ⟨g, o + j, none⟩ = some u := by
  intro hn
  obtain ⟨g, o, e, hg, hc⟩ := h.2 hn
  refine ⟨g, o, e, fun j u hj => ?_⟩
  rw [List.getElem?_map] at hj
  have hjn : j < xs.length := by
    rcases Nat.lt_or_ge j xs.length with q | q
    · exact q
    · rw [List.getElem?_eq_none q] at hj; cases hj
  rw [hc j (by rw [← h.1]; exact hjn)]
  rw [List.getElem?_eq_getElem hjn] at hj
  simpa [hjn] using hj
set_option maxRecDepth 100000 in
set_option maxHeartbeats 1600000 in
theorem pageNew_ok (w : World) (kind link : Int) (A : Option Addr) (n cap : Nat) (xs : List ByteArray) (hk0 : 0 ≤ kind) (hk9 : kind ≤ 255) (hA : A = none → n = 0 ∧ cap = 0) (hnn : n ≤ 9223372036854775807) (hsz : ∀ c ∈ xs, c.size ≤ 9223372036854775807) (hS : Sl w A n xs) :
    Calls Try.prog 3 #[.int .u8 kind, .int .u32 link, .slice A n cap] w fun e w' => e = .returned (.bool true) ∧ Kp NoB w w' := by
  have HA := Lib.hid hA
  have HS := Lib.hid hS
  have HZ := Lib.hid hsz
  clear hA hS hsz
  by_cases hn : (2000 : Int) < n
  · go_enter Try.func3, Try.ntmps3
    go_wp2_with (go_at_call 8; go_must (refine (awake_ok _).mono ?_); rintro e w2 ⟨rfl, hk2⟩; have HK2 := Lib.hid hk2; clear hk2)
    go_ret
    exact ⟨rfl, HK2.out⟩
  · obtain ⟨i0, hi0, hz0, hz1, hz2⟩ := info_parts infoStr
    have HI0 := Lib.hid hi0
    have HZ0 := Lib.hid hz0
    have HZ1 := Lib.hid hz1
    have HZ2 := Lib.hid hz2
    have hn2 : n ≤ 2000 := by omega
    have HOWN : Hid ((w.alloc (.cells #[] 9)).ownsRow w.heap.size 9 1 (.slice (some ⟨w.heap.size, 0, none⟩) 0 0) 0 []) := Lib.hid ⟨rfl, .inr ⟨w.heap.size, 0, #[], rfl, Nat.le_refl _, heap_alloc_new _ _, Nat.le_refl _, by simp, rfl, rfl⟩⟩
    obtain ⟨L, hL, hL2⟩ := newR_page kind link xs
    obtain ⟨code, hcode⟩ : ∃ code, (newR kind link xs).2 = code := ⟨_, rfl⟩
    have HR := Lib.hid (show newR kind link xs = (bytesV L, code) from Prod.ext hL hcode)
    have HL2 := Lib.hid hL2
    have hon := bytesV_one L
    have hLs : (bytesV L).size = 256 := by rw [bytesV_size, hL2]
    have hpg := pgOK_bytes L hL2
    clear hi0 hz0 hz1 hz2 hL hcode hL2
    go_enter Try.func3, Try.ntmps3
    go_wp2_with (first
      | (at_builtin; refine wpList_append_src rfl _ _ 23 rfl w.heap.size 9 i0 _ 16 Try.underlying23 HI0.out HZ0.out HZ1.out HZ2.out rfl _ 0 [] rfl HOWN.out A n cap (xs.map Value.string) rfl HA.out (by rw [List.length_map]; exact HS.out.1) (strs_src (HS.out.keep ((Kp.refl NoB w).alloc _))) (by simp [Value.oneCell']) (by unfold maxLen; omega) (by omega) (by simp) ?_; intro v1 w1 hown1 hgrow1; rw [Nat.zero_add, List.nil_append] at hown1; obtain ⟨B, cap1, rfl⟩ := own_slice hown1; have HSB := Lib.hid (own_Sl hown1 HS.out.1); have HK1 := Lib.hid (((Kp.refl NoB w).alloc _).own (v := .slice (some ⟨w.heap.size, 0, none⟩) 0 0) hgrow1 rfl HOWN.out); clear hown1 hgrow1)
      | (go_at_call 9; go_must (refine (new_ok _ kind link B n cap1 xs (by omega) HZ.out HSB.out).mono ?_); rintro e w2 hq; rw [HR.out] at hq; obtain ⟨rfl, hk2⟩ := hq; have HK2 := Lib.hid hk2; clear hk2; have hb := Blk.new w2 26 zero256; have th := hb.thereAll 256 zero256_size; have hb3 := hb.whole (bytesV L) (by rw [zero256_size, bytesV_size, HL2.out]); have HB3 := Lib.hid hb3; have HK3 := Lib.hid (Kp.setCells (S := NoB) (.inl (Nat.le_refl _)) (bytesV L).toList 0 _ ((Kp.refl NoB w2).alloc (.cells zero256 26))); clear hb hb3)
      | (go_at_call 10; go_must (refine (rnew_ok _ kind link A n cap xs hk0 hk9 (by omega) HZ.out (HS.out.keep ((HK1.out.trans HK2.out (fun _ _ q => q)).trans HK3.out (fun _ _ q => q)))).mono ?_); rintro e w4 hq; rw [HR.out] at hq; obtain ⟨rfl, hk4⟩ := hq; have HK4 := Lib.hid hk4; clear hk4; have hb := Blk.new w4 26 zero256; have th5 := hb.thereAll 256 zero256_size; have hb5 := hb.whole (bytesV L) (by rw [zero256_size, bytesV_size, HL2.out]); have HB5 := Lib.hid hb5; have HK5 := Lib.hid (Kp.setCells (S := NoB) (.inl (Nat.le_refl _)) (bytesV L).toList 0 _ ((Kp.refl NoB w4).alloc (.cells zero256 26))); clear hb hb5))
    refine forget (p := fun wx => Code.wp _ _ _ _ wx) (PNS w A B n xs w2.heap.size w4.heap.size L) ⟨?_, ?_, ?_, ?_, ?_⟩ ?_
    · exact ((((HK1.out.trans HK2.out (fun _ _ q => q)).trans HK3.out (fun _ _ q => q)).trans HK4.out (fun _ _ q => q)).trans HK5.out (fun _ _ q => q))
    · exact HS.out.keep ((((HK1.out.trans HK2.out (fun _ _ q => q)).trans HK3.out (fun _ _ q => q)).trans HK4.out (fun _ _ q => q)).trans HK5.out (fun _ _ q => q))
    · exact HSB.out.keep (((HK2.out.trans HK3.out (fun _ _ q => q)).trans HK4.out (fun _ _ q => q)).trans HK5.out (fun _ _ q => q))
    · exact (HB3.out.keep HK4.out (fun q => q)).keep HK5.out (fun q => q)
    · exact HB5.out
    · intro W6 h6
      have H6 := Lib.hid h6
      clear h6 th th5
      go_loopw [12] (fun i wr => ∃ k : Nat, k ≤ n ∧ i = .int .i64 k ∧ PNS w A B n xs w2.heap.size w4.heap.size L wr) (fun i _ => n - (intOf i).toNat)
      case atStart => exact ⟨0, by omega, rfl, H6.out⟩
      case round =>
        obtain ⟨k, hk, rfl, hP⟩ := hrel
        have HP := Lib.hid hP
        clear hP
        by_cases hlt : k < n
        · obtain ⟨g, o, rfl, hg, hc⟩ := HP.out.s0.2 (by omega)
          obtain ⟨g', o', rfl, hg', hc'⟩ := HP.out.s1.2 (by omega)
          have hck := hc k hlt
          have hck' := hc' k hlt
          clear hc hc'
          have hwk : IntKind.i64.wrap (k : Int) = k := by rw [IntKind.wrap_i64]; omega
          go_wp2_with fail
          go_quiet (fail)
          go_wp2_with fail
          exact ⟨⟨k + 1, by omega, by congr 1, HP.out.drewN _⟩, by simp [intOf]; omega⟩
        · obtain rfl : k = n := by omega
          obtain ⟨t1, r1⟩ := page_facts HP.out.b1 HL2.out
          obtain ⟨t2, r2⟩ := page_facts HP.out.b2 HL2.out
          go_wp2_with (go_at_call 8; go_must (refine (awake_ok _).mono ?_); rintro e w7 ⟨rfl, hk7⟩; have HK7 := Lib.hid hk7; clear hk7)
          go_ret
          exact ⟨rfl, HP.out.kp.trans HK7.out (fun _ _ q => q)⟩
end Go.Proofs.Ytnleoeogcinadaa
