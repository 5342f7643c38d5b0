/- RecordBack: the walk of the law; no condition. -/
import Derived.Test.YtlcefenjlchaiaaRcRound
namespace Go.Proofs.Ytlcefenjlchaiaa
open Go.RowKit

theorem enc_size {vs : List RV} {x : ByteArray} (h : encF vs = (x, 0)) : x.size ≤ 4000 := by
  obtain ⟨_, _, h4, hx⟩ := encF_ok h
  rw [hx, ByteArray.size_append]
  exact h4
theorem enc_size' (vs : List RV) : (encF vs).1.size ≤ 4000 := by
  obtain ⟨x, e, h⟩ : ∃ x e, encF vs = (x, e) := ⟨_, _, rfl⟩
  by_cases h0 : e = 0
  · subst h0; rw [h]; exact enc_size h
  · have : (encF vs).1 = ByteArray.empty := by
      unfold encF at h ⊢
      split
      · rfl
      · rename_i h1
        rw [if_neg h1] at h
        split
        · rfl
        · rename_i h2
          rw [if_neg h2] at h
          split
          · rfl
          · rename_i h3
            rw [if_neg h3] at h
            injection h with _ h
            exact absurd h.symm h0
    rw [this]
    decide
/-- what the two rows have to do with each other -/
inductive Two (a b : List RV) : Prop where
  | no (x y : ByteArray) (e f : Int) (ha : encF a = (x, e)) (hb : encF b = (y, f)) (he : ¬ e = 0)
  | half (x y : ByteArray) (f : Int) (ha : encF a = (x, 0)) (hb : encF b = (y, f)) (hf : ¬ f = 0)
  | same (x : ByteArray) (ha : encF a = (x, 0)) (e : a = b)
  | long (x y : ByteArray) (ha : encF a = (x, 0)) (hb : encF b = (y, 0)) (hne : sameB a b = false) (hxy : (x.toList == y.toList) = false) (hl : (x.size : Int) < y.size) (hc : ((y.extract 0 x.size).toList == x.toList) = false)
  | other (x y : ByteArray) (ha : encF a = (x, 0)) (hb : encF b = (y, 0)) (hne : sameB a b = false) (hxy : (x.toList == y.toList) = false) (hl : ¬ (x.size : Int) < y.size)
theorem two (a b : List RV) (ha : ∀ v ∈ a, v.ok) (hb : ∀ v ∈ b, v.ok) : Two a b := by
  obtain ⟨x, e, h1⟩ : ∃ x e, encF a = (x, e) := ⟨_, _, rfl⟩
  obtain ⟨y, f, h2⟩ : ∃ x e, encF b = (x, e) := ⟨_, _, rfl⟩
  by_cases he : e = 0
  · subst he
    by_cases hf : f = 0
    · subst hf
      by_cases hab : a = b
      · exact .same x h1 hab
      · have hs : sameB a b = false := by
          cases q : sameB a b
          · rfl
          · exact absurd ((sameB_iff a b).1 q) hab
        have hxy : ¬ x = y := fun q => hab (enc_inj ha hb h1 (by rw [h2, q]))
        by_cases hl : (x.size : Int) < y.size
        · exact .long x y h1 h2 hs (str_ne hxy) hl (str_ne (enc_cut ha hb h1 h2 hab))
        · exact .other x y h1 h2 hs (str_ne hxy) hl
    · exact .half x y f h1 h2 hf
  · exact .no x y e f h1 h2 he
set_option maxRecDepth 100000 in
set_option maxHeartbeats 4000000 in
theorem recordBack_ok (w : World) (A B : Option Addr) (n m cap cap' : Nat) (a b : List RV) (s : ByteArray) (hn : n ≤ 9223372036854775807) (hm : m ≤ 9223372036854775807) (hs : s.size ≤ 9223372036854775807) (hA : Rw w A n a) (hB : Rw w B m b) :
    Calls Try.prog 6 #[.slice A n cap, .slice B m cap', .string s] w fun e w' => e = .returned (.bool true) ∧ Kp NoB w w' := by
  have HA := Lib.hid hA
  have HB := Lib.hid hB
  have h2 := two a b hA.ok hB.ok
  obtain ⟨r, hr⟩ : ∃ r, decF s = r := ⟨_, rfl⟩
  have HR := Lib.hid hr
  clear hA hB hr
  rcases h2 with ⟨x, y, e, f, ea, eb, he⟩ | ⟨x, y, f, ea, eb, he⟩ | ⟨x, ea, rfl⟩ | ⟨x, y, ea, eb, hne, hxy, hl, hc⟩ | ⟨x, y, ea, eb, hne, hxy, hl⟩
  · have b0 : (e == 0) = false := beq_eq_false_iff_ne.2 he
    have EA := Lib.hid ea
    have EB := Lib.hid eb
    clear ea eb he
    rcases r with _ | vs
    · go_enter Try.func6, Try.ntmps6
      go_wp2_with (first
        | (have hG := HR7; clear hG; go_at_call 13; go_must (refine (enc_ok w7 D vs.length dc vs (by omega) HR7.out).mono ?_); rw [ES.out]; rintro en w8 ⟨rfl, hk8⟩; have HK8 := Lib.hid (HK7.out.trans hk8 (fun _ _ q => q)); clear hk8 HK; have HK := HK8)
        | (have hG := HB2; clear hG; go_at_call 13; go_must (refine (enc_ok w2 _ _ _ _ hm HB2.out).mono ?_); rw [EB.out]; rintro en w3 ⟨rfl, hk3⟩; have HK3 := Lib.hid (HK2.out.trans hk3 (fun _ _ q => q)); have HK := Lib.hid (HK2.out.trans hk3 (fun _ _ q => q)); have HA3 := Lib.hid (HA2.out.keep hk3); have HB3 := Lib.hid (HB2.out.keep hk3); clear hk3)
        | (go_at_call 13; go_must (refine (enc_ok w A n cap a hn HA.out).mono ?_); rw [EA.out]; rintro en w2 ⟨rfl, hk2⟩; have HK2 := Lib.hid hk2; have HK := Lib.hid hk2; have HA2 := Lib.hid (HA.out.keep hk2); have HB2 := Lib.hid (HB.out.keep hk2); clear hk2)
        | (have hG := HX; clear hG; go_at_call 16; go_must (refine (dec_ok w3 x (by omega)).mono ?_); rw [HX.out]; clear HX; rintro en w4 hq; obtain ⟨C, cc, rfl, hR, _, hk4⟩ := hq.someR; have HK4 := Lib.hid (HK3.out.trans hk4 (fun _ _ q => q)); rw [aln] at hR; have HR4 := Lib.hid hR; have HA4 := Lib.hid (HA3.out.keep hk4); have HB4 := Lib.hid (HB3.out.keep hk4); clear hq hk4 hR HK; have HK := HK4)
        | (go_at_call 16; go_must (refine (dec_ok _ s hs).mono ?_); rw [HR.out]; rintro en w7 hq; first | (obtain ⟨rfl, hk7⟩ := hq.noneR; have HK7 := Lib.hid (HK.out.trans hk7 (fun _ _ q => q)); clear hq hk7 HK; have HK := HK7) | (obtain ⟨D, dc, rfl, hR, _, hk7⟩ := hq.someR; have HK7 := Lib.hid (HK.out.trans hk7 (fun _ _ q => q)); have HR7 := Lib.hid hR; clear hq hk7 hR HK; have HK := HK7))
        | (have hG := HA5; clear hG; go_at_call 19; go_must (refine (same_ok w5 A B n m cap cap' _ _ hn hm HA5.out HB5.out).mono ?_); rw [hne]; rintro en w6 ⟨rfl, hk6⟩; have HK6 := Lib.hid (HK5.out.trans hk6 (fun _ _ q => q)); clear hk6 HK; have HK := HK6)
        | (go_at_call 19; go_must (refine (same_ok w4 C A n n cc cap a a hn hn HR4.out HA4.out).mono ?_); rw [sameB_self]; rintro en w5 ⟨rfl, hk5⟩; have HK5 := Lib.hid (HK4.out.trans hk5 (fun _ _ q => q)); have HA5 := Lib.hid (HA4.out.keep hk5); have HB5 := Lib.hid (HB4.out.keep hk5); clear hk5 HK; have HK := HK5)
        | (go_at_call 11; go_must (refine (awake_ok _).mono ?_); rintro en w9 ⟨rfl, hk9⟩; have HK9 := Lib.hid (HK.out.trans hk9 (fun _ _ q => q)); clear hk9))
      go_ret
      exact ⟨rfl, HK9.out⟩
    · have hl16 := decF_len HR.out
      have ES := Lib.hid (decF_enc HR.out)
      go_enter Try.func6, Try.ntmps6
      go_wp2_with (first
        | (have hG := HR7; clear hG; go_at_call 13; go_must (refine (enc_ok w7 D vs.length dc vs (by omega) HR7.out).mono ?_); rw [ES.out]; rintro en w8 ⟨rfl, hk8⟩; have HK8 := Lib.hid (HK7.out.trans hk8 (fun _ _ q => q)); clear hk8 HK; have HK := HK8)
        | (have hG := HB2; clear hG; go_at_call 13; go_must (refine (enc_ok w2 _ _ _ _ hm HB2.out).mono ?_); rw [EB.out]; rintro en w3 ⟨rfl, hk3⟩; have HK3 := Lib.hid (HK2.out.trans hk3 (fun _ _ q => q)); have HK := Lib.hid (HK2.out.trans hk3 (fun _ _ q => q)); have HA3 := Lib.hid (HA2.out.keep hk3); have HB3 := Lib.hid (HB2.out.keep hk3); clear hk3)
        | (go_at_call 13; go_must (refine (enc_ok w A n cap a hn HA.out).mono ?_); rw [EA.out]; rintro en w2 ⟨rfl, hk2⟩; have HK2 := Lib.hid hk2; have HK := Lib.hid hk2; have HA2 := Lib.hid (HA.out.keep hk2); have HB2 := Lib.hid (HB.out.keep hk2); clear hk2)
        | (have hG := HX; clear hG; go_at_call 16; go_must (refine (dec_ok w3 x (by omega)).mono ?_); rw [HX.out]; clear HX; rintro en w4 hq; obtain ⟨C, cc, rfl, hR, _, hk4⟩ := hq.someR; have HK4 := Lib.hid (HK3.out.trans hk4 (fun _ _ q => q)); rw [aln] at hR; have HR4 := Lib.hid hR; have HA4 := Lib.hid (HA3.out.keep hk4); have HB4 := Lib.hid (HB3.out.keep hk4); clear hq hk4 hR HK; have HK := HK4)
        | (go_at_call 16; go_must (refine (dec_ok _ s hs).mono ?_); rw [HR.out]; rintro en w7 hq; first | (obtain ⟨rfl, hk7⟩ := hq.noneR; have HK7 := Lib.hid (HK.out.trans hk7 (fun _ _ q => q)); clear hq hk7 HK; have HK := HK7) | (obtain ⟨D, dc, rfl, hR, _, hk7⟩ := hq.someR; have HK7 := Lib.hid (HK.out.trans hk7 (fun _ _ q => q)); have HR7 := Lib.hid hR; clear hq hk7 hR HK; have HK := HK7))
        | (have hG := HA5; clear hG; go_at_call 19; go_must (refine (same_ok w5 A B n m cap cap' _ _ hn hm HA5.out HB5.out).mono ?_); rw [hne]; rintro en w6 ⟨rfl, hk6⟩; have HK6 := Lib.hid (HK5.out.trans hk6 (fun _ _ q => q)); clear hk6 HK; have HK := HK6)
        | (go_at_call 19; go_must (refine (same_ok w4 C A n n cc cap a a hn hn HR4.out HA4.out).mono ?_); rw [sameB_self]; rintro en w5 ⟨rfl, hk5⟩; have HK5 := Lib.hid (HK4.out.trans hk5 (fun _ _ q => q)); have HA5 := Lib.hid (HA4.out.keep hk5); have HB5 := Lib.hid (HB4.out.keep hk5); clear hk5 HK; have HK := HK5)
        | (go_at_call 11; go_must (refine (awake_ok _).mono ?_); rintro en w9 ⟨rfl, hk9⟩; have HK9 := Lib.hid (HK.out.trans hk9 (fun _ _ q => q)); clear hk9))
      go_ret
      exact ⟨rfl, HK9.out⟩
  · have b0 : (f == 0) = false := beq_eq_false_iff_ne.2 he
    have hx := enc_size ea
    have HX := Lib.hid (dec_enc HA.out.ok ea)
    have EA := Lib.hid ea
    have EB := Lib.hid eb
    have aln := HA.out.len
    clear ea eb he
    rcases r with _ | vs
    · go_enter Try.func6, Try.ntmps6
      go_wp2_with (first
        | (have hG := HR7; clear hG; go_at_call 13; go_must (refine (enc_ok w7 D vs.length dc vs (by omega) HR7.out).mono ?_); rw [ES.out]; rintro en w8 ⟨rfl, hk8⟩; have HK8 := Lib.hid (HK7.out.trans hk8 (fun _ _ q => q)); clear hk8 HK; have HK := HK8)
        | (have hG := HB2; clear hG; go_at_call 13; go_must (refine (enc_ok w2 _ _ _ _ hm HB2.out).mono ?_); rw [EB.out]; rintro en w3 ⟨rfl, hk3⟩; have HK3 := Lib.hid (HK2.out.trans hk3 (fun _ _ q => q)); have HK := Lib.hid (HK2.out.trans hk3 (fun _ _ q => q)); have HA3 := Lib.hid (HA2.out.keep hk3); have HB3 := Lib.hid (HB2.out.keep hk3); clear hk3)
        | (go_at_call 13; go_must (refine (enc_ok w A n cap a hn HA.out).mono ?_); rw [EA.out]; rintro en w2 ⟨rfl, hk2⟩; have HK2 := Lib.hid hk2; have HK := Lib.hid hk2; have HA2 := Lib.hid (HA.out.keep hk2); have HB2 := Lib.hid (HB.out.keep hk2); clear hk2)
        | (have hG := HX; clear hG; go_at_call 16; go_must (refine (dec_ok w3 x (by omega)).mono ?_); rw [HX.out]; clear HX; rintro en w4 hq; obtain ⟨C, cc, rfl, hR, _, hk4⟩ := hq.someR; have HK4 := Lib.hid (HK3.out.trans hk4 (fun _ _ q => q)); rw [aln] at hR; have HR4 := Lib.hid hR; have HA4 := Lib.hid (HA3.out.keep hk4); have HB4 := Lib.hid (HB3.out.keep hk4); clear hq hk4 hR HK; have HK := HK4)
        | (go_at_call 16; go_must (refine (dec_ok _ s hs).mono ?_); rw [HR.out]; rintro en w7 hq; first | (obtain ⟨rfl, hk7⟩ := hq.noneR; have HK7 := Lib.hid (HK.out.trans hk7 (fun _ _ q => q)); clear hq hk7 HK; have HK := HK7) | (obtain ⟨D, dc, rfl, hR, _, hk7⟩ := hq.someR; have HK7 := Lib.hid (HK.out.trans hk7 (fun _ _ q => q)); have HR7 := Lib.hid hR; clear hq hk7 hR HK; have HK := HK7))
        | (have hG := HA5; clear hG; go_at_call 19; go_must (refine (same_ok w5 A B n m cap cap' _ _ hn hm HA5.out HB5.out).mono ?_); rw [hne]; rintro en w6 ⟨rfl, hk6⟩; have HK6 := Lib.hid (HK5.out.trans hk6 (fun _ _ q => q)); clear hk6 HK; have HK := HK6)
        | (go_at_call 19; go_must (refine (same_ok w4 C A n n cc cap a a hn hn HR4.out HA4.out).mono ?_); rw [sameB_self]; rintro en w5 ⟨rfl, hk5⟩; have HK5 := Lib.hid (HK4.out.trans hk5 (fun _ _ q => q)); have HA5 := Lib.hid (HA4.out.keep hk5); have HB5 := Lib.hid (HB4.out.keep hk5); clear hk5 HK; have HK := HK5)
        | (go_at_call 11; go_must (refine (awake_ok _).mono ?_); rintro en w9 ⟨rfl, hk9⟩; have HK9 := Lib.hid (HK.out.trans hk9 (fun _ _ q => q)); clear hk9))
      go_ret
      exact ⟨rfl, HK9.out⟩
    · have hl16 := decF_len HR.out
      have ES := Lib.hid (decF_enc HR.out)
      go_enter Try.func6, Try.ntmps6
      go_wp2_with (first
        | (have hG := HR7; clear hG; go_at_call 13; go_must (refine (enc_ok w7 D vs.length dc vs (by omega) HR7.out).mono ?_); rw [ES.out]; rintro en w8 ⟨rfl, hk8⟩; have HK8 := Lib.hid (HK7.out.trans hk8 (fun _ _ q => q)); clear hk8 HK; have HK := HK8)
        | (have hG := HB2; clear hG; go_at_call 13; go_must (refine (enc_ok w2 _ _ _ _ hm HB2.out).mono ?_); rw [EB.out]; rintro en w3 ⟨rfl, hk3⟩; have HK3 := Lib.hid (HK2.out.trans hk3 (fun _ _ q => q)); have HK := Lib.hid (HK2.out.trans hk3 (fun _ _ q => q)); have HA3 := Lib.hid (HA2.out.keep hk3); have HB3 := Lib.hid (HB2.out.keep hk3); clear hk3)
        | (go_at_call 13; go_must (refine (enc_ok w A n cap a hn HA.out).mono ?_); rw [EA.out]; rintro en w2 ⟨rfl, hk2⟩; have HK2 := Lib.hid hk2; have HK := Lib.hid hk2; have HA2 := Lib.hid (HA.out.keep hk2); have HB2 := Lib.hid (HB.out.keep hk2); clear hk2)
        | (have hG := HX; clear hG; go_at_call 16; go_must (refine (dec_ok w3 x (by omega)).mono ?_); rw [HX.out]; clear HX; rintro en w4 hq; obtain ⟨C, cc, rfl, hR, _, hk4⟩ := hq.someR; have HK4 := Lib.hid (HK3.out.trans hk4 (fun _ _ q => q)); rw [aln] at hR; have HR4 := Lib.hid hR; have HA4 := Lib.hid (HA3.out.keep hk4); have HB4 := Lib.hid (HB3.out.keep hk4); clear hq hk4 hR HK; have HK := HK4)
        | (go_at_call 16; go_must (refine (dec_ok _ s hs).mono ?_); rw [HR.out]; rintro en w7 hq; first | (obtain ⟨rfl, hk7⟩ := hq.noneR; have HK7 := Lib.hid (HK.out.trans hk7 (fun _ _ q => q)); clear hq hk7 HK; have HK := HK7) | (obtain ⟨D, dc, rfl, hR, _, hk7⟩ := hq.someR; have HK7 := Lib.hid (HK.out.trans hk7 (fun _ _ q => q)); have HR7 := Lib.hid hR; clear hq hk7 hR HK; have HK := HK7))
        | (have hG := HA5; clear hG; go_at_call 19; go_must (refine (same_ok w5 A B n m cap cap' _ _ hn hm HA5.out HB5.out).mono ?_); rw [hne]; rintro en w6 ⟨rfl, hk6⟩; have HK6 := Lib.hid (HK5.out.trans hk6 (fun _ _ q => q)); clear hk6 HK; have HK := HK6)
        | (go_at_call 19; go_must (refine (same_ok w4 C A n n cc cap a a hn hn HR4.out HA4.out).mono ?_); rw [sameB_self]; rintro en w5 ⟨rfl, hk5⟩; have HK5 := Lib.hid (HK4.out.trans hk5 (fun _ _ q => q)); have HA5 := Lib.hid (HA4.out.keep hk5); have HB5 := Lib.hid (HB4.out.keep hk5); clear hk5 HK; have HK := HK5)
        | (go_at_call 11; go_must (refine (awake_ok _).mono ?_); rintro en w9 ⟨rfl, hk9⟩; have HK9 := Lib.hid (HK.out.trans hk9 (fun _ _ q => q)); clear hk9))
      go_ret
      exact ⟨rfl, HK9.out⟩
  · have hx := enc_size ea
    have HX := Lib.hid (dec_enc HA.out.ok ea)
    have EA := Lib.hid ea
    have EB := EA
    have hne := sameB_self a
    have aln := HA.out.len
    clear ea
    rcases r with _ | vs
    · go_enter Try.func6, Try.ntmps6
      go_wp2_with (first
        | (have hG := HR7; clear hG; go_at_call 13; go_must (refine (enc_ok w7 D vs.length dc vs (by omega) HR7.out).mono ?_); rw [ES.out]; rintro en w8 ⟨rfl, hk8⟩; have HK8 := Lib.hid (HK7.out.trans hk8 (fun _ _ q => q)); clear hk8 HK; have HK := HK8)
        | (have hG := HB2; clear hG; go_at_call 13; go_must (refine (enc_ok w2 _ _ _ _ hm HB2.out).mono ?_); rw [EB.out]; rintro en w3 ⟨rfl, hk3⟩; have HK3 := Lib.hid (HK2.out.trans hk3 (fun _ _ q => q)); have HK := Lib.hid (HK2.out.trans hk3 (fun _ _ q => q)); have HA3 := Lib.hid (HA2.out.keep hk3); have HB3 := Lib.hid (HB2.out.keep hk3); clear hk3)
        | (go_at_call 13; go_must (refine (enc_ok w A n cap a hn HA.out).mono ?_); rw [EA.out]; rintro en w2 ⟨rfl, hk2⟩; have HK2 := Lib.hid hk2; have HK := Lib.hid hk2; have HA2 := Lib.hid (HA.out.keep hk2); have HB2 := Lib.hid (HB.out.keep hk2); clear hk2)
        | (have hG := HX; clear hG; go_at_call 16; go_must (refine (dec_ok w3 x (by omega)).mono ?_); rw [HX.out]; clear HX; rintro en w4 hq; obtain ⟨C, cc, rfl, hR, _, hk4⟩ := hq.someR; have HK4 := Lib.hid (HK3.out.trans hk4 (fun _ _ q => q)); rw [aln] at hR; have HR4 := Lib.hid hR; have HA4 := Lib.hid (HA3.out.keep hk4); have HB4 := Lib.hid (HB3.out.keep hk4); clear hq hk4 hR HK; have HK := HK4)
        | (go_at_call 16; go_must (refine (dec_ok _ s hs).mono ?_); rw [HR.out]; rintro en w7 hq; first | (obtain ⟨rfl, hk7⟩ := hq.noneR; have HK7 := Lib.hid (HK.out.trans hk7 (fun _ _ q => q)); clear hq hk7 HK; have HK := HK7) | (obtain ⟨D, dc, rfl, hR, _, hk7⟩ := hq.someR; have HK7 := Lib.hid (HK.out.trans hk7 (fun _ _ q => q)); have HR7 := Lib.hid hR; clear hq hk7 hR HK; have HK := HK7))
        | (have hG := HA5; clear hG; go_at_call 19; go_must (refine (same_ok w5 A B n m cap cap' _ _ hn hm HA5.out HB5.out).mono ?_); rw [hne]; rintro en w6 ⟨rfl, hk6⟩; have HK6 := Lib.hid (HK5.out.trans hk6 (fun _ _ q => q)); clear hk6 HK; have HK := HK6)
        | (go_at_call 19; go_must (refine (same_ok w4 C A n n cc cap a a hn hn HR4.out HA4.out).mono ?_); rw [sameB_self]; rintro en w5 ⟨rfl, hk5⟩; have HK5 := Lib.hid (HK4.out.trans hk5 (fun _ _ q => q)); have HA5 := Lib.hid (HA4.out.keep hk5); have HB5 := Lib.hid (HB4.out.keep hk5); clear hk5 HK; have HK := HK5)
        | (go_at_call 11; go_must (refine (awake_ok _).mono ?_); rintro en w9 ⟨rfl, hk9⟩; have HK9 := Lib.hid (HK.out.trans hk9 (fun _ _ q => q)); clear hk9))
      go_ret
      exact ⟨rfl, HK9.out⟩
    · have hl16 := decF_len HR.out
      have ES := Lib.hid (decF_enc HR.out)
      go_enter Try.func6, Try.ntmps6
      go_wp2_with (first
        | (have hG := HR7; clear hG; go_at_call 13; go_must (refine (enc_ok w7 D vs.length dc vs (by omega) HR7.out).mono ?_); rw [ES.out]; rintro en w8 ⟨rfl, hk8⟩; have HK8 := Lib.hid (HK7.out.trans hk8 (fun _ _ q => q)); clear hk8 HK; have HK := HK8)
        | (have hG := HB2; clear hG; go_at_call 13; go_must (refine (enc_ok w2 _ _ _ _ hm HB2.out).mono ?_); rw [EB.out]; rintro en w3 ⟨rfl, hk3⟩; have HK3 := Lib.hid (HK2.out.trans hk3 (fun _ _ q => q)); have HK := Lib.hid (HK2.out.trans hk3 (fun _ _ q => q)); have HA3 := Lib.hid (HA2.out.keep hk3); have HB3 := Lib.hid (HB2.out.keep hk3); clear hk3)
        | (go_at_call 13; go_must (refine (enc_ok w A n cap a hn HA.out).mono ?_); rw [EA.out]; rintro en w2 ⟨rfl, hk2⟩; have HK2 := Lib.hid hk2; have HK := Lib.hid hk2; have HA2 := Lib.hid (HA.out.keep hk2); have HB2 := Lib.hid (HB.out.keep hk2); clear hk2)
        | (have hG := HX; clear hG; go_at_call 16; go_must (refine (dec_ok w3 x (by omega)).mono ?_); rw [HX.out]; clear HX; rintro en w4 hq; obtain ⟨C, cc, rfl, hR, _, hk4⟩ := hq.someR; have HK4 := Lib.hid (HK3.out.trans hk4 (fun _ _ q => q)); rw [aln] at hR; have HR4 := Lib.hid hR; have HA4 := Lib.hid (HA3.out.keep hk4); have HB4 := Lib.hid (HB3.out.keep hk4); clear hq hk4 hR HK; have HK := HK4)
        | (go_at_call 16; go_must (refine (dec_ok _ s hs).mono ?_); rw [HR.out]; rintro en w7 hq; first | (obtain ⟨rfl, hk7⟩ := hq.noneR; have HK7 := Lib.hid (HK.out.trans hk7 (fun _ _ q => q)); clear hq hk7 HK; have HK := HK7) | (obtain ⟨D, dc, rfl, hR, _, hk7⟩ := hq.someR; have HK7 := Lib.hid (HK.out.trans hk7 (fun _ _ q => q)); have HR7 := Lib.hid hR; clear hq hk7 hR HK; have HK := HK7))
        | (have hG := HA5; clear hG; go_at_call 19; go_must (refine (same_ok w5 A B n m cap cap' _ _ hn hm HA5.out HB5.out).mono ?_); rw [hne]; rintro en w6 ⟨rfl, hk6⟩; have HK6 := Lib.hid (HK5.out.trans hk6 (fun _ _ q => q)); clear hk6 HK; have HK := HK6)
        | (go_at_call 19; go_must (refine (same_ok w4 C A n n cc cap a a hn hn HR4.out HA4.out).mono ?_); rw [sameB_self]; rintro en w5 ⟨rfl, hk5⟩; have HK5 := Lib.hid (HK4.out.trans hk5 (fun _ _ q => q)); have HA5 := Lib.hid (HA4.out.keep hk5); have HB5 := Lib.hid (HB4.out.keep hk5); clear hk5 HK; have HK := HK5)
        | (go_at_call 11; go_must (refine (awake_ok _).mono ?_); rintro en w9 ⟨rfl, hk9⟩; have HK9 := Lib.hid (HK.out.trans hk9 (fun _ _ q => q)); clear hk9))
      go_ret
      exact ⟨rfl, HK9.out⟩
  · have hx := enc_size ea
    have hy := enc_size eb
    have hx0 : (0 : Int) ≤ x.size := by omega
    have hxn : ((x.size : Int)).toNat = x.size := by omega
    have hxl : (x.size : Int) ≤ y.size := by omega
    have HX := Lib.hid (dec_enc HA.out.ok ea)
    have EA := Lib.hid ea
    have EB := Lib.hid eb
    have aln := HA.out.len
    clear ea eb
    rcases r with _ | vs
    · go_enter Try.func6, Try.ntmps6
      go_wp2_with (first
        | (have hG := HR7; clear hG; go_at_call 13; go_must (refine (enc_ok w7 D vs.length dc vs (by omega) HR7.out).mono ?_); rw [ES.out]; rintro en w8 ⟨rfl, hk8⟩; have HK8 := Lib.hid (HK7.out.trans hk8 (fun _ _ q => q)); clear hk8 HK; have HK := HK8)
        | (have hG := HB2; clear hG; go_at_call 13; go_must (refine (enc_ok w2 _ _ _ _ hm HB2.out).mono ?_); rw [EB.out]; rintro en w3 ⟨rfl, hk3⟩; have HK3 := Lib.hid (HK2.out.trans hk3 (fun _ _ q => q)); have HK := Lib.hid (HK2.out.trans hk3 (fun _ _ q => q)); have HA3 := Lib.hid (HA2.out.keep hk3); have HB3 := Lib.hid (HB2.out.keep hk3); clear hk3)
        | (go_at_call 13; go_must (refine (enc_ok w A n cap a hn HA.out).mono ?_); rw [EA.out]; rintro en w2 ⟨rfl, hk2⟩; have HK2 := Lib.hid hk2; have HK := Lib.hid hk2; have HA2 := Lib.hid (HA.out.keep hk2); have HB2 := Lib.hid (HB.out.keep hk2); clear hk2)
        | (have hG := HX; clear hG; go_at_call 16; go_must (refine (dec_ok w3 x (by omega)).mono ?_); rw [HX.out]; clear HX; rintro en w4 hq; obtain ⟨C, cc, rfl, hR, _, hk4⟩ := hq.someR; have HK4 := Lib.hid (HK3.out.trans hk4 (fun _ _ q => q)); rw [aln] at hR; have HR4 := Lib.hid hR; have HA4 := Lib.hid (HA3.out.keep hk4); have HB4 := Lib.hid (HB3.out.keep hk4); clear hq hk4 hR HK; have HK := HK4)
        | (go_at_call 16; go_must (refine (dec_ok _ s hs).mono ?_); rw [HR.out]; rintro en w7 hq; first | (obtain ⟨rfl, hk7⟩ := hq.noneR; have HK7 := Lib.hid (HK.out.trans hk7 (fun _ _ q => q)); clear hq hk7 HK; have HK := HK7) | (obtain ⟨D, dc, rfl, hR, _, hk7⟩ := hq.someR; have HK7 := Lib.hid (HK.out.trans hk7 (fun _ _ q => q)); have HR7 := Lib.hid hR; clear hq hk7 hR HK; have HK := HK7))
        | (have hG := HA5; clear hG; go_at_call 19; go_must (refine (same_ok w5 A B n m cap cap' _ _ hn hm HA5.out HB5.out).mono ?_); rw [hne]; rintro en w6 ⟨rfl, hk6⟩; have HK6 := Lib.hid (HK5.out.trans hk6 (fun _ _ q => q)); clear hk6 HK; have HK := HK6)
        | (go_at_call 19; go_must (refine (same_ok w4 C A n n cc cap a a hn hn HR4.out HA4.out).mono ?_); rw [sameB_self]; rintro en w5 ⟨rfl, hk5⟩; have HK5 := Lib.hid (HK4.out.trans hk5 (fun _ _ q => q)); have HA5 := Lib.hid (HA4.out.keep hk5); have HB5 := Lib.hid (HB4.out.keep hk5); clear hk5 HK; have HK := HK5)
        | (go_at_call 11; go_must (refine (awake_ok _).mono ?_); rintro en w9 ⟨rfl, hk9⟩; have HK9 := Lib.hid (HK.out.trans hk9 (fun _ _ q => q)); clear hk9))
      go_ret
      exact ⟨rfl, HK9.out⟩
    · have hl16 := decF_len HR.out
      have ES := Lib.hid (decF_enc HR.out)
      go_enter Try.func6, Try.ntmps6
      go_wp2_with (first
        | (have hG := HR7; clear hG; go_at_call 13; go_must (refine (enc_ok w7 D vs.length dc vs (by omega) HR7.out).mono ?_); rw [ES.out]; rintro en w8 ⟨rfl, hk8⟩; have HK8 := Lib.hid (HK7.out.trans hk8 (fun _ _ q => q)); clear hk8 HK; have HK := HK8)
        | (have hG := HB2; clear hG; go_at_call 13; go_must (refine (enc_ok w2 _ _ _ _ hm HB2.out).mono ?_); rw [EB.out]; rintro en w3 ⟨rfl, hk3⟩; have HK3 := Lib.hid (HK2.out.trans hk3 (fun _ _ q => q)); have HK := Lib.hid (HK2.out.trans hk3 (fun _ _ q => q)); have HA3 := Lib.hid (HA2.out.keep hk3); have HB3 := Lib.hid (HB2.out.keep hk3); clear hk3)
        | (go_at_call 13; go_must (refine (enc_ok w A n cap a hn HA.out).mono ?_); rw [EA.out]; rintro en w2 ⟨rfl, hk2⟩; have HK2 := Lib.hid hk2; have HK := Lib.hid hk2; have HA2 := Lib.hid (HA.out.keep hk2); have HB2 := Lib.hid (HB.out.keep hk2); clear hk2)
        | (have hG := HX; clear hG; go_at_call 16; go_must (refine (dec_ok w3 x (by omega)).mono ?_); rw [HX.out]; clear HX; rintro en w4 hq; obtain ⟨C, cc, rfl, hR, _, hk4⟩ := hq.someR; have HK4 := Lib.hid (HK3.out.trans hk4 (fun _ _ q => q)); rw [aln] at hR; have HR4 := Lib.hid hR; have HA4 := Lib.hid (HA3.out.keep hk4); have HB4 := Lib.hid (HB3.out.keep hk4); clear hq hk4 hR HK; have HK := HK4)
        | (go_at_call 16; go_must (refine (dec_ok _ s hs).mono ?_); rw [HR.out]; rintro en w7 hq; first | (obtain ⟨rfl, hk7⟩ := hq.noneR; have HK7 := Lib.hid (HK.out.trans hk7 (fun _ _ q => q)); clear hq hk7 HK; have HK := HK7) | (obtain ⟨D, dc, rfl, hR, _, hk7⟩ := hq.someR; have HK7 := Lib.hid (HK.out.trans hk7 (fun _ _ q => q)); have HR7 := Lib.hid hR; clear hq hk7 hR HK; have HK := HK7))
        | (have hG := HA5; clear hG; go_at_call 19; go_must (refine (same_ok w5 A B n m cap cap' _ _ hn hm HA5.out HB5.out).mono ?_); rw [hne]; rintro en w6 ⟨rfl, hk6⟩; have HK6 := Lib.hid (HK5.out.trans hk6 (fun _ _ q => q)); clear hk6 HK; have HK := HK6)
        | (go_at_call 19; go_must (refine (same_ok w4 C A n n cc cap a a hn hn HR4.out HA4.out).mono ?_); rw [sameB_self]; rintro en w5 ⟨rfl, hk5⟩; have HK5 := Lib.hid (HK4.out.trans hk5 (fun _ _ q => q)); have HA5 := Lib.hid (HA4.out.keep hk5); have HB5 := Lib.hid (HB4.out.keep hk5); clear hk5 HK; have HK := HK5)
        | (go_at_call 11; go_must (refine (awake_ok _).mono ?_); rintro en w9 ⟨rfl, hk9⟩; have HK9 := Lib.hid (HK.out.trans hk9 (fun _ _ q => q)); clear hk9))
      go_ret
      exact ⟨rfl, HK9.out⟩
  · have hx := enc_size ea
    have hy := enc_size eb
    have HX := Lib.hid (dec_enc HA.out.ok ea)
    have EA := Lib.hid ea
    have EB := Lib.hid eb
    have aln := HA.out.len
    clear ea eb
    rcases r with _ | vs
    · go_enter Try.func6, Try.ntmps6
      go_wp2_with (first
        | (have hG := HR7; clear hG; go_at_call 13; go_must (refine (enc_ok w7 D vs.length dc vs (by omega) HR7.out).mono ?_); rw [ES.out]; rintro en w8 ⟨rfl, hk8⟩; have HK8 := Lib.hid (HK7.out.trans hk8 (fun _ _ q => q)); clear hk8 HK; have HK := HK8)
        | (have hG := HB2; clear hG; go_at_call 13; go_must (refine (enc_ok w2 _ _ _ _ hm HB2.out).mono ?_); rw [EB.out]; rintro en w3 ⟨rfl, hk3⟩; have HK3 := Lib.hid (HK2.out.trans hk3 (fun _ _ q => q)); have HK := Lib.hid (HK2.out.trans hk3 (fun _ _ q => q)); have HA3 := Lib.hid (HA2.out.keep hk3); have HB3 := Lib.hid (HB2.out.keep hk3); clear hk3)
        | (go_at_call 13; go_must (refine (enc_ok w A n cap a hn HA.out).mono ?_); rw [EA.out]; rintro en w2 ⟨rfl, hk2⟩; have HK2 := Lib.hid hk2; have HK := Lib.hid hk2; have HA2 := Lib.hid (HA.out.keep hk2); have HB2 := Lib.hid (HB.out.keep hk2); clear hk2)
        | (have hG := HX; clear hG; go_at_call 16; go_must (refine (dec_ok w3 x (by omega)).mono ?_); rw [HX.out]; clear HX; rintro en w4 hq; obtain ⟨C, cc, rfl, hR, _, hk4⟩ := hq.someR; have HK4 := Lib.hid (HK3.out.trans hk4 (fun _ _ q => q)); rw [aln] at hR; have HR4 := Lib.hid hR; have HA4 := Lib.hid (HA3.out.keep hk4); have HB4 := Lib.hid (HB3.out.keep hk4); clear hq hk4 hR HK; have HK := HK4)
        | (go_at_call 16; go_must (refine (dec_ok _ s hs).mono ?_); rw [HR.out]; rintro en w7 hq; first | (obtain ⟨rfl, hk7⟩ := hq.noneR; have HK7 := Lib.hid (HK.out.trans hk7 (fun _ _ q => q)); clear hq hk7 HK; have HK := HK7) | (obtain ⟨D, dc, rfl, hR, _, hk7⟩ := hq.someR; have HK7 := Lib.hid (HK.out.trans hk7 (fun _ _ q => q)); have HR7 := Lib.hid hR; clear hq hk7 hR HK; have HK := HK7))
        | (have hG := HA5; clear hG; go_at_call 19; go_must (refine (same_ok w5 A B n m cap cap' _ _ hn hm HA5.out HB5.out).mono ?_); rw [hne]; rintro en w6 ⟨rfl, hk6⟩; have HK6 := Lib.hid (HK5.out.trans hk6 (fun _ _ q => q)); clear hk6 HK; have HK := HK6)
        | (go_at_call 19; go_must (refine (same_ok w4 C A n n cc cap a a hn hn HR4.out HA4.out).mono ?_); rw [sameB_self]; rintro en w5 ⟨rfl, hk5⟩; have HK5 := Lib.hid (HK4.out.trans hk5 (fun _ _ q => q)); have HA5 := Lib.hid (HA4.out.keep hk5); have HB5 := Lib.hid (HB4.out.keep hk5); clear hk5 HK; have HK := HK5)
        | (go_at_call 11; go_must (refine (awake_ok _).mono ?_); rintro en w9 ⟨rfl, hk9⟩; have HK9 := Lib.hid (HK.out.trans hk9 (fun _ _ q => q)); clear hk9))
      go_ret
      exact ⟨rfl, HK9.out⟩
    · have hl16 := decF_len HR.out
      have ES := Lib.hid (decF_enc HR.out)
      go_enter Try.func6, Try.ntmps6
      go_wp2_with (first
        | (have hG := HR7; clear hG; go_at_call 13; go_must (refine (enc_ok w7 D vs.length dc vs (by omega) HR7.out).mono ?_); rw [ES.out]; rintro en w8 ⟨rfl, hk8⟩; have HK8 := Lib.hid (HK7.out.trans hk8 (fun _ _ q => q)); clear hk8 HK; have HK := HK8)
        | (have hG := HB2; clear hG; go_at_call 13; go_must (refine (enc_ok w2 _ _ _ _ hm HB2.out).mono ?_); rw [EB.out]; rintro en w3 ⟨rfl, hk3⟩; have HK3 := Lib.hid (HK2.out.trans hk3 (fun _ _ q => q)); have HK := Lib.hid (HK2.out.trans hk3 (fun _ _ q => q)); have HA3 := Lib.hid (HA2.out.keep hk3); have HB3 := Lib.hid (HB2.out.keep hk3); clear hk3)
        | (go_at_call 13; go_must (refine (enc_ok w A n cap a hn HA.out).mono ?_); rw [EA.out]; rintro en w2 ⟨rfl, hk2⟩; have HK2 := Lib.hid hk2; have HK := Lib.hid hk2; have HA2 := Lib.hid (HA.out.keep hk2); have HB2 := Lib.hid (HB.out.keep hk2); clear hk2)
        | (have hG := HX; clear hG; go_at_call 16; go_must (refine (dec_ok w3 x (by omega)).mono ?_); rw [HX.out]; clear HX; rintro en w4 hq; obtain ⟨C, cc, rfl, hR, _, hk4⟩ := hq.someR; have HK4 := Lib.hid (HK3.out.trans hk4 (fun _ _ q => q)); rw [aln] at hR; have HR4 := Lib.hid hR; have HA4 := Lib.hid (HA3.out.keep hk4); have HB4 := Lib.hid (HB3.out.keep hk4); clear hq hk4 hR HK; have HK := HK4)
        | (go_at_call 16; go_must (refine (dec_ok _ s hs).mono ?_); rw [HR.out]; rintro en w7 hq; first | (obtain ⟨rfl, hk7⟩ := hq.noneR; have HK7 := Lib.hid (HK.out.trans hk7 (fun _ _ q => q)); clear hq hk7 HK; have HK := HK7) | (obtain ⟨D, dc, rfl, hR, _, hk7⟩ := hq.someR; have HK7 := Lib.hid (HK.out.trans hk7 (fun _ _ q => q)); have HR7 := Lib.hid hR; clear hq hk7 hR HK; have HK := HK7))
        | (have hG := HA5; clear hG; go_at_call 19; go_must (refine (same_ok w5 A B n m cap cap' _ _ hn hm HA5.out HB5.out).mono ?_); rw [hne]; rintro en w6 ⟨rfl, hk6⟩; have HK6 := Lib.hid (HK5.out.trans hk6 (fun _ _ q => q)); clear hk6 HK; have HK := HK6)
        | (go_at_call 19; go_must (refine (same_ok w4 C A n n cc cap a a hn hn HR4.out HA4.out).mono ?_); rw [sameB_self]; rintro en w5 ⟨rfl, hk5⟩; have HK5 := Lib.hid (HK4.out.trans hk5 (fun _ _ q => q)); have HA5 := Lib.hid (HA4.out.keep hk5); have HB5 := Lib.hid (HB4.out.keep hk5); clear hk5 HK; have HK := HK5)
        | (go_at_call 11; go_must (refine (awake_ok _).mono ?_); rintro en w9 ⟨rfl, hk9⟩; have HK9 := Lib.hid (HK.out.trans hk9 (fun _ _ q => q)); clear hk9))
      go_ret
      exact ⟨rfl, HK9.out⟩
end Go.Proofs.Ytlcefenjlchaiaa
